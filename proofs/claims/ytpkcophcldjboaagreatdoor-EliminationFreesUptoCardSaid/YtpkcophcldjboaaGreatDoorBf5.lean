/- Contracts of the functions that the law reaches, and the rules by which they are walked. They say what a call hands back for every input within the bounds that each names; no other condition. -/
import Derived.Test.YtpkcophcldjboaaGreatDoorBf4
set_option linter.unusedSimpArgs false
set_option linter.unusedVariables false
set_option maxRecDepth 20000
set_option maxHeartbeats 16000000
namespace Go.Proofs.YtpkcophcldjboaaGreatDoor
open Go Go.RowKit Go.Pg Go.Pol Go.Proofs.Tryz
attribute [-bool_to_prop] Bool.and_eq_decide Bool.or_eq_decide Bool.decide_beq_decide decide_eq_decide
attribute [local go_sem] underlying3 underlying4 underlying128 underlying50 underlying52 underlying54 underlying39 underlying55 underlying57 underlying26 underlying27 sz3 by3 z3 szB zB Zas zRat Zay zInt Zax zNat Zah Zan Zai Bool.and_self Zal Za7 zSlQ szQT byQT zQT Za9 zSlT szQP zQP
theorem qOk_s {q:List Qt} {i:Nat} (h:(q.getD i Qt.zero).norm.2≠1):Zeb q i=false:=by
 unfold Zeb;rw [decide_eq_false λe=>h (congrArg Prod.snd e)];rfl
theorem qOk_n {q:List Qt} {i:Nat} (h:(q.getD i Qt.zero).norm.1≠q.getD i Qt.zero):Zeb q i=false:=by
 unfold Zeb;rw [decide_eq_false λe=>h (congrArg Prod.fst e)];rfl
theorem qOk_o {q:List Qt} {i:Nat} (h:¬Qt.cmp (q.getD i Qt.zero) (q.getD (i+1) Qt.zero)≤0):Zeb q (i+1)=false:=by
 unfold Zeb;rw [show i+1 - 1=i from rfl,decide_eq_false h];simp
theorem qOk_y {q:List Qt} {i:Nat} (h1:(q.getD i Qt.zero).norm.1=q.getD i Qt.zero) (h2:(q.getD i Qt.zero).norm.2=1) (h4:i=0∨Qt.cmp (q.getD (i - 1) Qt.zero) (q.getD i Qt.zero)≤0):Zeb q i=true:=by
 unfold Zeb;rw [decide_eq_true (show(q.getD i Qt.zero).norm=(q.getD i Qt.zero,1) from Prod.ext h1 h2)];simpa using h4
theorem exRight (l:List RE) {J:Nat} (hl:l.length≤1000000) (hr:∀t∈l,t.r.lm J) (hq:∀t∈l,t.q.length≤1000000) (hJ:J≤100000):Pure prog 13 [.sl 4 (l.map RE.av)] (.v (.bool (rgtB l))):=by
 have hlm:(l.map RE.av).length=l.length:=List.length_map ..;have hg:∀j,j < l.length→(l.map RE.av).getD j .u=RE.av (l.getD j RE.zero):=λj h=>re_atD h;have hr:∀j,j < l.length→(l.getD j RE.zero).r.lm J:=λj h=>hr _ (Zmq h);have hq:∀j,j < l.length→(l.getD j RE.zero).q.length≤1000000:=λj h=>hq _ (Zmq h);have hbad:∀i,i < l.length→Zd7 l i=false→rgtB l=false:=λi h hp=>Zic h hp;have hgood:(∀i,i < l.length→Zd7 l i=true)→rgtB l=true:=Zel;generalize l.map RE.av=A at *;generalize hB:rgtB l=B at *;refine Zaa (tok:=0) func13 rfl ntmps13 results13 call13 (by rfl) (by simp) ?_
 (focus (refine wkad (w_1 hlm) w_t w_t ?_;(repeat' first|exact w_t|apply w_l);all_goals intros));refine Zae (ι:=Nat) (λi e _=>i≤l.length∧(∀j,j < i→Zd7 l j=true)∧e 0=.sl 4 A∧e 9=.sl 4 A∧e 10=iv l.length∧e 11=iv i) (λi=>l.length - i) 0 (by rfl) ?_ ?_
 ·rintro i e m ⟨hi,hj,e0,e9,e10,e11⟩
  by_cases hlt:i < l.length
  ·have g1:=hg i hlt;have hri:=hr i hlt;have hqi:=hq i hlt;have hb:=hbad i hlt;have hnx:Zd7 l i=true→∀j,j < i+1→Zd7 l j=true:=λh j hji=>by
    by_cases e:j=i
    ·rw [e];exact h
    ·exact hj j (by omega)
   clear hgood hbad hj;have g1:A.getD i .u=.agg [.v (.bool (l.getD i RE.zero).r.s),lim (l.getD i RE.zero).r.l,lim (l.getD i RE.zero).r.d,.sl 4 ((l.getD i RE.zero).q.map Qt.av)]:=g1;have crq:=Zwd (l.getD i RE.zero).r ⟨hri.1,hri.2.1,by have:=hri.2.2.1;omega,by have:=hri.2.2.2;omega⟩;have crq:Pure prog 41 [.agg [.v (.bool (l.getD i RE.zero).r.s),lim (l.getD i RE.zero).r.l,lim (l.getD i RE.zero).r.d]] (.v (.bool (l.getD i RE.zero).r.ok)):=crq
   cases hro:(l.getD i RE.zero).r.ok with
   | false =>
     rw [hro] at crq;have hb:=hb (tOk_r hro);subst hb;clear hnx hg hr hq hro hri hqi;generalize l.getD i RE.zero=t at *;obtain⟨⟨s,x,d⟩,q⟩:=t;simp only at *;generalize q.map Qt.av=Q at *;(focus (refine wkad (w_6 e0 e9 e10 e11 hlm g1) (w_1 crq) w_t ?_;(repeat' first|exact w_t|apply w_l);all_goals intros));all_goals exact gL
   | true =>
     rw [hro] at crq;have hz:=(RQ.ok_av hri hro).2;have cz:=Zea _ hz (by omega);have hre:=RQ.ok_eq hri hro;have cz:Pure prog 42 [.agg [.v (.bool (decide ((l.getD i RE.zero).r.q.num < 0))),lim (toL (l.getD i RE.zero).r.q.num.natAbs),lim (toL (l.getD i RE.zero).r.q.den)]] (iv (l.getD i RE.zero).r.q.num.sign):=cz;have e1:(l.getD i RE.zero).r.s=decide ((l.getD i RE.zero).r.q.num < 0):=congrArg RQ.s hre;have e2:(l.getD i RE.zero).r.l=toL (l.getD i RE.zero).r.q.num.natAbs:=congrArg RQ.l hre;have e4:(l.getD i RE.zero).r.d=toL (l.getD i RE.zero).r.q.den:=congrArg RQ.d hre;rw [←e1,←e2,←e4] at cz
     clear e1 e2 e4 hre hz;by_cases hx:(l.getD i RE.zero).r.q=0
     ·have hz2:(l.getD i RE.zero).r.q.num.sign=0:=by rw [Ze8];exact hx
      rw [hz2] at cz;have hb:=hb (tOk_z hx);subst hb;clear hnx hg hr hq hro hri hqi hx hz2;generalize l.getD i RE.zero=t at *;obtain⟨⟨s,x,d⟩,q⟩:=t;simp only at *;generalize q.map Qt.av=Q at *;(focus (refine wkad (w_6 e0 e9 e10 e11 hlm g1) (w_2 crq cz) w_t ?_;(repeat' first|exact w_t|apply w_l);all_goals intros));all_goals exact gL
     ·have hz2:¬(l.getD i RE.zero).r.q.num.sign=0:=by rw [Ze8];exact hx
      have hlq:((l.getD i RE.zero).q.map Qt.av).length=(l.getD i RE.zero).q.length:=List.length_map ..;have hgq:∀j,j < (l.getD i RE.zero).q.length→((l.getD i RE.zero).q.map Qt.av).getD j .u=Qt.av ((l.getD i RE.zero).q.getD j Qt.zero):=λj h=>qt_atD h;have hpb:∀k,k < (l.getD i RE.zero).q.length→Zeb (l.getD i RE.zero).q k=false→B=false:=λk h hp=>hb (tOk_p (Zic h hp));have hpg:(∀k,k < (l.getD i RE.zero).q.length→Zeb (l.getD i RE.zero).q k=true)→Zid (l.getD i RE.zero).q=true:=Zel;have hz3:∀h:i=0,Zid (l.getD i RE.zero).q=true→∀j,j < i+1→Zd7 l j=true:=λh hp=>hnx (Zvw hro hx hp (.inl h))
      have hs1:∀k,i=k+1→ordQ (l.getD k RE.zero).q (l.getD i RE.zero).q < 0→Zid (l.getD i RE.zero).q=true→∀j,j < i+1→Zd7 l j=true:=λk h ho hp=>hnx (Zvw hro hx hp (.inr (by rw [h];rw [h] at ho;exact ho)));have hs2:∀k,i=k+1→¬ordQ (l.getD k RE.zero).q (l.getD i RE.zero).q < 0→B=false:=λk h ho=>hb (by rw [h];rw [h] at ho;exact tOk_o ho);have hqp:∀k,i=k+1→(l.getD k RE.zero).q.length≤1000000:=λk h=>hq k (by omega);have hgp:∀k,i=k+1→A.getD k .u=.agg [.v (.bool (l.getD k RE.zero).r.s),lim (l.getD k RE.zero).r.l,lim (l.getD k RE.zero).r.d,.sl 4 ((l.getD k RE.zero).q.map Qt.av)]:=λk h=>hg k (by omega)
      clear hb hnx hr hq hro hri hx hg;generalize (l.getD i RE.zero).r.q.num.sign=z at *;generalize l.getD i RE.zero=t at *;obtain⟨⟨s,x,d⟩,q⟩:=t;simp only at *;generalize hQ:q.map Qt.av=Q at *;(focus (refine wkad (w_8 e0 e9 e10 e11 hlm g1 hz2 hlq) (w_2 crq cz) w_t ?_;(repeat' first|exact w_t|apply w_l);all_goals intros));rename_i g4;clear crq cz g1 hz2;refine Zae (ι:=Nat) (λk e m=>k≤q.length∧(∀j,j < k→Zeb q j=true)∧(e 0=.sl 4 A∧e 9=.sl 4 A∧e 10=iv l.length∧e 11=iv i∧e 3=iv i)∧(e 27=.sl 4 Q∧e 28=iv q.length∧e 29=iv k)∧e 4=.pbox 4 g4 0∧m 4=some (.box g4 57 [.v (.bool s),lim x,lim d,.sl 4 Q] false)) (λk=>q.length - k) 0 (by rfl) ?_ ?_
      ·rintro k e m ⟨hk,hkj,⟨e0,e9,e10,e11,e3⟩,⟨e27,e28,e29⟩,e4,m4⟩
       by_cases hkt:k < q.length
       ·have gk:=hgq k hkt;have hb:=hpb k hkt;have hnk:Zeb q k=true→∀j,j < k+1→Zeb q j=true:=λh j hji=>by
         by_cases e:j=k
         ·rw [e];exact h
         ·exact hkj j (by omega)
        have c1:=Zsd (q.getD k Qt.zero).k (q.getD k Qt.zero).a (q.getD k Qt.zero).b (q.getD k Qt.zero).c;have c1:Pure prog 33 [Qt.av (q.getD k Qt.zero)] (.tup [(Qt.norm (q.getD k Qt.zero)).1.av,iv (Qt.norm (q.getD k Qt.zero)).2]):=c1;clear hpb hpg hz3 hs1 hs2 hgp hkj hqp;by_cases hn:(q.getD k Qt.zero).norm.1=q.getD k Qt.zero
        ·rw [hn] at c1;by_cases hs:(q.getD k Qt.zero).norm.2=1
         ·rw [hs] at c1
          cases k with
          | zero =>
            have hnk:=hnk (qOk_y hn hs (.inl rfl));clear hn hs hb hgq;generalize q.getD 0 Qt.zero=y at *;obtain⟨y1,y2,y3,y4⟩:=y;simp only at *;(focus (refine wkad (w_12 e0 e9 e10 e11 e3 e27 e28 e29 e4 m4 hlq gk) (w_1 c1) w_t ?_;(repeat' first|exact w_t|apply w_l);all_goals intros));exact⟨1,⟨by omega,hnk,⟨by exact gW e0,by exact gW e9,by exact gW e10,by exact gW e11,by exact gW e3⟩,⟨by exact gW e27,by exact gW e28,by exact gC⟩,by exact gW e4,by exact gW m4⟩,by omega⟩
          | succ k =>
            have gp:=hgq k (by omega);have c3:=quCmp (q.getD k Qt.zero).k (q.getD k Qt.zero).a (q.getD k Qt.zero).b (q.getD k Qt.zero).c (q.getD (k+1) Qt.zero).k (q.getD (k+1) Qt.zero).a (q.getD (k+1) Qt.zero).b (q.getD (k+1) Qt.zero).c;have c3:Pure prog 43 [Qt.av (q.getD k Qt.zero),Qt.av (q.getD (k+1) Qt.zero)] (iv (Qt.cmp (q.getD k Qt.zero) (q.getD (k+1) Qt.zero))):=c3;have en:((k+1:Nat):Int) - 1=(k:Int):=by omega
            by_cases ho:Qt.cmp (q.getD k Qt.zero) (q.getD (k+1) Qt.zero)≤0
            ·have hnk:=hnk (qOk_y hn hs (.inr ho));have ho2:¬0 < Qt.cmp (q.getD k Qt.zero) (q.getD (k+1) Qt.zero):=by omega
             clear hn hs hb hgq;generalize Qt.cmp (q.getD k Qt.zero) (q.getD (k+1) Qt.zero)=w at *;generalize q.getD (k+1) Qt.zero=y at *;generalize q.getD k Qt.zero=y' at *;obtain⟨y1,y2,y3,y4⟩:=y;obtain⟨x1,x2,x3,x4⟩:=y';simp only at *;(focus (refine wkad (w_16 e0 e9 e10 e11 e3 e27 e28 e29 e4 m4 hlq gk gp ho ho2 en) (w_2 c1 c3) (w_1 (w_d 10 [(18,iv w)] [] [])) ?_;(repeat' first|exact w_t|apply w_l);all_goals intros));exact⟨k+1+1,⟨by omega,hnk,⟨by exact gW e0,by exact gW e9,by exact gW e10,by exact gW e11,by exact gW e3⟩,⟨by exact gW e27,by exact gW e28,by exact gS⟩,by exact gW e4,by exact gW m4⟩,by omega⟩
            ·have hb:=hb (qOk_o ho);subst hb;have ho2:0 < Qt.cmp (q.getD k Qt.zero) (q.getD (k+1) Qt.zero):=by omega
             clear hn hs hnk hgq;generalize Qt.cmp (q.getD k Qt.zero) (q.getD (k+1) Qt.zero)=w at *;generalize q.getD (k+1) Qt.zero=y at *;generalize q.getD k Qt.zero=y' at *;obtain⟨y1,y2,y3,y4⟩:=y;obtain⟨x1,x2,x3,x4⟩:=y';simp only at *;(focus (refine wkad (w_16 e0 e9 e10 e11 e3 e27 e28 e29 e4 m4 hlq gk gp ho ho2 en) (w_2 c1 c3) (w_1 (w_d 10 [(18,iv w)] [] [])) ?_;(repeat' first|exact w_t|apply w_l);all_goals intros));all_goals exact gL
         ·have hb:=hb (qOk_s hs);subst hb;clear hn hnk hgq;generalize (q.getD k Qt.zero).norm.2=ns at *;generalize q.getD k Qt.zero=y at *;obtain⟨y1,y2,y3,y4⟩:=y;simp only at *;(focus (refine wkad (w_13 e0 e9 e10 e11 e3 e27 e28 e29 e4 m4 hlq gk hs) (w_1 c1) (w_1 (w_d 10 [(18,iv 0)] [] [])) ?_;(repeat' first|exact w_t|apply w_l);all_goals intros));all_goals exact gL
        ·have hb:=hb (qOk_n hn);subst hb;clear hnk hgq;generalize (q.getD k Qt.zero).norm.2=ns at *;generalize (q.getD k Qt.zero).norm.1=nn at *;generalize q.getD k Qt.zero=y at *;obtain⟨y1,y2,y3,y4⟩:=y;obtain⟨n1,n2,n3,n4⟩:=nn
         have hn:(n1 == y1 && (n2 == y2 && (n3 == y3 && n4 == y4)))=false:=by
          rw [Bool.eq_false_iff];intro h;simp only [Bool.and_eq_true,beq_iff_eq] at h;exact hn (by obtain⟨h1,h2,h3,h4⟩:=h;rw [h1,h2,h3,h4])
         try simp only at *
         (focus (refine wkad (w_13 e0 e9 e10 e11 e3 e27 e28 e29 e4 m4 hlq gk hn) (w_1 c1) (w_1 (w_d 10 [(18,iv 0)] [] [])) ?_;(repeat' first|exact w_t|apply w_l);all_goals intros));all_goals exact gL
       ·have hkl:k=q.length:=by omega
        subst hkl;have hp:=hpg hkj;clear hpb hpg hgq hkj
        cases i with
        | zero =>
          have hnx:=hz3 rfl hp;clear hz3 hs1 hs2 hgp hqp;(focus (refine wkad (w_12 e0 e9 e10 e11 e3 e27 e28 e29 e4 m4 hlq hlm) w_t (w_1 (w_d 13 [(11,iv 0)] [] [])) ?_;(repeat' first|exact w_t|apply w_l);all_goals intros));exact⟨1,⟨by omega,hnx,by exact gW e0,by exact gW e9,by exact gW e10,by exact gC⟩,by omega⟩
        | succ i =>
          have g2:=hgp i rfl;have hq2:=hqp i rfl;have co:=Zys (l.getD i RE.zero).q q hq2 hqi;have co:Pure prog 44 [.sl 4 ((l.getD i RE.zero).q.map Qt.av),.sl 4 (q.map Qt.av)] (iv (ordQ (l.getD i RE.zero).q q)):=co;rw [hQ] at co;have en:((i+1:Nat):Int) - 1=(i:Int):=by omega
          by_cases ho:ordQ (l.getD i RE.zero).q q < 0
          ·have hnx:=hs1 i rfl ho hp;clear hz3 hs1 hs2 hgp hqp hq2;have ho2:¬0≤ordQ (l.getD i RE.zero).q q:=by omega
           generalize ordQ (l.getD i RE.zero).q q=w at *;generalize l.getD i RE.zero=u at *;obtain⟨⟨s',x',d'⟩,q'⟩:=u;simp only at *;generalize q'.map Qt.av=Q' at *;(focus (refine wkad (w_16 e0 e9 e10 e11 e3 e27 e28 e29 e4 m4 hlq hlm g2 ho ho2 en) (w_1 co) (w_1 (w_d 13 [(11,iv w)] [] [])) ?_;(repeat' first|exact w_t|apply w_l);all_goals intros));exact⟨i+1+1,⟨by omega,hnx,by exact gW e0,by exact gW e9,by exact gW e10,by exact gS⟩,by omega⟩
          ·have hb:=hs2 i rfl ho;subst hb;clear hz3 hs1 hs2 hgp hqp hq2;have ho2:0≤ordQ (l.getD i RE.zero).q q:=by omega
           generalize ordQ (l.getD i RE.zero).q q=w at *;generalize l.getD i RE.zero=u at *;obtain⟨⟨s',x',d'⟩,q'⟩:=u;simp only at *;generalize q'.map Qt.av=Q' at *;(focus (refine wkad (w_16 e0 e9 e10 e11 e3 e27 e28 e29 e4 m4 hlq hlm g2 ho ho2 en) (w_1 co) (w_1 (w_d 13 [(11,iv w)] [] [])) ?_;(repeat' first|exact w_t|apply w_l);all_goals intros));all_goals exact gL
      ·exact⟨Nat.zero_le _,λj h=>by omega,⟨by exact gW e0,by exact gW e9,by exact gW e10,by exact gW e11,by exact gC⟩,⟨by exact gC,by exact gW hlq,by exact gC⟩,by exact gC,by exact gC⟩
  ·have hil:i=l.length:=by omega
   subst hil;have hb:=hgood hj;subst hb;clear hgood hbad hj hg hr hq;(focus (refine wkad (w_5 e0 e9 e10 e11 hlm) w_t w_t ?_;(repeat' first|exact w_t|apply w_l);all_goals intros));all_goals exact gL
 ·exact⟨Nat.zero_le _,λj h=>by omega,by exact gC,by exact gC,by exact gW hlm,by exact gC⟩
attribute [local go_sem] underlying81 underlying29 szFr byFr zFr Zb6 Zca zSQP underlying33 underlying45 underlying9 Zbh zStr
def nrmT (l:List RE):QTs:=if l.all RE.ok=true then gatM (l.map RE.t) else []
section
attribute [local go_sem] underlying3 underlying4 underlying128 underlying50 underlying52 underlying54 underlying39 underlying55 underlying57 underlying26 underlying27 sz3 by3 z3 szB zB Zas zRat Zay zInt Zax zNat Zah Zan Zai Bool.and_self Zal Za7 zSlQ szQT byQT zQT Za9 zSlT szQP zQP underlying81 underlying29 szFr byFr zFr Zb6 Zca zSQP underlying33 underlying45 underlying9 Zbh zStr
end
section
variable {N n:Nat} {cs:List AV}
theorem shProd (h:Zb5 prog N n 55 cs):∃l:List Qt,cs=[qsA l]∧l.length≤N:=by
 obtain⟨bs,rfl,hl,_⟩:=Zcs (g:=λq:Qt=>[iv q.k,iv q.a,iv q.b,iv q.c]) (Q:=λ_=>True) underlying55 h λm x hx=>by
  obtain⟨k,a,b,c,rfl⟩:=shQuantP hx;exact⟨⟨k,a,b,c⟩,rfl,trivial⟩
 refine⟨bs,?_,hl⟩;rw [show prog.cellsOf 39=4 from by kernel_rfl];have:(bs.map λq:Qt=>Zcv prog 39 [iv q.k,iv q.a,iv q.b,iv q.c])=bs.map Qt.av:=List.map_congr_left λb _=>Zzt _;rw [this]
theorem shQTerm (h:Zb5 prog N n 57 cs):∃t:RE,cs=[.v (.bool t.r.s),lim t.r.l,lim t.r.d,qsA t.q]∧t.r.lm N∧t.q.length≤N:=by
 obtain⟨m,rfl,hs⟩:=Zb0 underlying57 (by kernel_rfl) h;obtain⟨x,y,rfl,h1,hs⟩:=hs.inv;obtain⟨x2,y,rfl,h2,hs⟩:=hs.inv;obtain rfl:=hs.inv0;obtain⟨r,rfl,hr⟩:=shRat h1;obtain⟨l,rfl,hl⟩:=shProd h2;exact⟨⟨r,l⟩,rfl,hr,hl⟩
theorem Zv8 {T:TypeId} (hu:prog.underlying T=some (.slice 57)) (h:Zb5 prog N n T cs):∃l:List RE,cs=[.sl 4 (l.map RE.av)]∧l.length≤N∧(∀t∈l,t.r.lm N)∧∀t∈l,t.q.length≤N:=by
 obtain⟨bs,rfl,hl,hq⟩:=Zcs (g:=λt:RE=>[.v (.bool t.r.s),lim t.r.l,lim t.r.d,qsA t.q]) (Q:=λt=>t.r.lm N∧t.q.length≤N) hu h λm x hx=>by
  obtain⟨t,h1,h2⟩:=shQTerm hx;exact⟨t,h1,h2⟩
 refine⟨bs,?_,hl,λt ht=>(hq t ht).1,λt ht=>(hq t ht).2⟩;rw [show prog.cellsOf 57=4 from by kernel_rfl];have:(bs.map λt:RE=>Zcv prog 57 [.v (.bool t.r.s),lim t.r.l,lim t.r.d,qsA t.q])=bs.map RE.av:=List.map_congr_left λb _=>Zeo underlying57 _;rw [this]
end
def Ze7 (Q:Nat) (t:RE):Bool:=decide (t.q.length≤Q) && t.r.tiny
def Zgp (T Q:Nat) (l:List RE):Bool:=decide (l.length≤T) && (l.all (Ze7 Q) && rgtB l)
def RE.rt (t:RE):Rat × List Qt:=(t.r.q,t.q)
theorem rt_av {Q k:Nat} {l:List RE} (hr:∀t∈l,t.r.lm k) (h:l.all (Ze7 Q)=true):l.map RE.av=(l.map RE.rt).map qtA:=by
 rw [List.map_map];refine List.map_congr_left λt ht=>?_;have:=List.all_eq_true.1 h t ht;unfold Ze7 at this;simp only [Bool.and_eq_true] at this;have e:=(RQ.tiny_av (hr t ht).1 (hr t ht).2.1 this.2).1;have e1:t.r.av=.agg [.v (.bool t.r.s),lim t.r.l,lim t.r.d]:=rfl;have e2:ratQ t.r.q=.agg [.v (.bool (decide (t.r.q.num < 0))),lim (toL t.r.q.num.natAbs),lim (toL t.r.q.den)]:=rfl;rw [e1,e2] at e;simp only [AV.agg.injEq,List.cons.injEq,and_true] at e;show AV.agg [.v (.bool t.r.s),lim t.r.l,lim t.r.d,qsA t.q]=.agg [.v (.bool (decide (t.r.q.num < 0))),lim (toL t.r.q.num.natAbs),lim (toL t.r.q.den),qsA t.q]
 rw [e.1,e.2.1,e.2.2]
theorem rt_qk {Q k:Nat} {l:List RE} (hr:∀t∈l,t.r.lm k) (h:l.all (Ze7 Q)=true):QK (l.map RE.rt) 2 Q:=λu hu=>by
 obtain⟨t,ht,rfl⟩:=List.mem_map.1 hu;have:=List.all_eq_true.1 h t ht;unfold Ze7 at this;simp only [Bool.and_eq_true,decide_eq_true_eq] at this;exact⟨(RQ.tiny_av (hr t ht).1 (hr t ht).2.1 this.2).2,this.1⟩
theorem Zwc (l:List RE) (T Q:Nat) (hT:T≤100000) (hQ:Q≤100000) (hl:l.length≤9223372036854775807) (hr:∀t∈l,t.r.lm 9223372036854775807) (hq:∀t∈l,t.q.length≤9223372036854775807) :
 Pure prog 14 [.sl 4 (l.map RE.av),iv T,iv Q] (.v (.bool (Zgp T Q l))):=by
 have hpl:(l.map RE.av).length=l.length:=List.length_map ..;have hg:∀i (h:i < l.length),(l.map RE.av).getD i .u=.agg [.v (.bool l[i].r.s),lim l[i].r.l,lim l[i].r.d,.sl 4 (l[i].q.map Qt.av)]:=λi h=>Zat RE.av h;have ct:∀i (h:i < l.length),Pure prog 45 [.agg [.v (.bool l[i].r.s),lim l[i].r.l,lim l[i].r.d]] (.v (.bool l[i].r.tiny)):=λi h=>rqTiny l[i].r (hr _ (List.getElem_mem h));have cr:l.length≤T→l.all (Ze7 Q)=true→Pure prog 46 [.sl 4 (l.map RE.av)] (.v (.bool (rgtB l))):=λh1 h2=>by
  have h3:∀t∈l,t.q.length≤Q∧t.r.tiny=true:=λt ht=>by
   have:=List.all_eq_true.1 h2 t ht;unfold Ze7 at this
   simpa only [Bool.and_eq_true,decide_eq_true_eq] using this
  refine rxRight l (J:=2) (by omega) (λt ht=>?_) (λt ht=>by have:=h3 t ht;omega) (by omega);have h4:=(h3 t ht).2;unfold RQ.tiny at h4;simp only [Bool.and_eq_true,decide_eq_true_eq] at h4;exact⟨(hr t ht).1,(hr t ht).2.1,h4.1.1,h4.1.2⟩
 clear hr hq;generalize l.map RE.av=L at *;by_cases hlen:l.length≤T
 ·have h1:¬(T:Int) < (l.length:Int):=by omega
  have hsm:Zgp T Q l=(l.all (Ze7 Q) && rgtB l):=by unfold Zgp;rw [decide_eq_true hlen,Bool.true_and]
  rw [hsm];refine Zaa (tok:=0) func14 rfl ntmps14 results14 call14 (by rfl) (by simp) ?_;(focus (refine wkad (w_2 hpl h1) w_t w_t ?_;(repeat' first|exact w_t|apply w_l);all_goals intros));refine Zae (ι:=Nat) (λi e m=>i≤l.length∧(l.take i).all (Ze7 Q)=true∧e 0=.sl 4 L∧e 2=iv Q∧e 7=iv i) (λi=>l.length - i) 0 (by rfl) ?_ ?_
  ·rintro i e m ⟨hi,hs,e0,e2,e7⟩
   by_cases hlt:i < l.length
   ·have hgi:=hg i hlt;have cti:=ct i hlt;have hql:(l[i].q.map Qt.av).length=l[i].q.length:=List.length_map ..;have hst:Ze7 Q l[i]=true→(l.take (i+1)).all (Ze7 Q)=true:=Zk9 hlt hs;have hsn:Ze7 Q l[i]=false→l.all (Ze7 Q)=false:=λh=>List.all_eq_false.2 ⟨l[i],List.getElem_mem hlt,by rw [h];decide⟩;have hsd:Ze7 Q l[i]=(decide (l[i].q.length≤Q) && l[i].r.tiny):=rfl;clear hg ct cr hs hsm;generalize l[i].q.map Qt.av=qs at *;generalize l[i].q.length=qn at *;generalize l[i].r.tiny=tn at *;generalize l[i].r.s=ts at *;generalize l[i].r.l=tl at *;generalize l[i].r.d=td at *;by_cases h6:qn≤Q
    ·have g6:¬(Q:Int) < (qn:Int):=by omega
     cases tn with
     | true =>
       have hsy:=hst (by rw [hsd,decide_eq_true h6];rfl);(focus (refine wkad (w_7 e0 e2 e7 hpl hgi hql g6) (w_1 cti) w_t ?_;(repeat' first|exact w_t|apply w_l);all_goals intros));exact⟨i+1,⟨by omega,hsy,by exact gW e0,by exact gW e2,by exact gS⟩,by omega⟩
     | false =>
       rw [hsn (by rw [hsd,Bool.and_false]),Bool.false_and];(focus (refine wkad (w_7 e0 e2 e7 hpl hgi hql g6) (w_1 cti) w_t ?_;(repeat' first|exact w_t|apply w_l);all_goals intros));all_goals exact gL
    ·have g6:(Q:Int) < (qn:Int):=by omega
     rw [hsn (by rw [hsd,decide_eq_false h6];rfl),Bool.false_and];(focus (refine wkad (w_7 e0 e2 e7 hpl hgi hql g6) w_t w_t ?_;(repeat' first|exact w_t|apply w_l);all_goals intros));all_goals exact gL
   ·have:i=l.length:=by omega
    subst this;rw [List.take_length] at hs;have cr:=cr hlen hs;rw [hs,Bool.true_and];(focus (refine wkad (w_4 e0 e2 e7 hpl) (w_1 cr) w_t ?_;(repeat' first|exact w_t|apply w_l);all_goals intros));all_goals exact gL
  ·exact⟨Nat.zero_le _,rfl,by exact gC,by exact gC,by exact gC⟩
 ·have h1:(T:Int) < (l.length:Int):=by omega
  have hsm:Zgp T Q l=false:=by unfold Zgp;rw [decide_eq_false hlen,Bool.false_and]
  rw [hsm];refine Zaa (tok:=0) func14 rfl ntmps14 results14 call14 (by rfl) (by simp) ?_;(focus (refine wkad (w_2 hpl h1) w_t w_t ?_;(repeat' first|exact w_t|apply w_l);all_goals intros));all_goals exact gL
def mrgQ:List Qt→List Qt→List Qt
 | a,[]=>a
 | [],y :: b=>y :: b
 | x :: a,y :: b=>if Qt.cmp x y≤0 then x :: mrgQ a (y :: b) else y :: mrgQ (x :: a) b
termination_by a b=>a.length+b.length
section
attribute [local go_sem] underlying3 underlying4 underlying128 underlying50 underlying52 underlying54 underlying39 underlying55 underlying57 underlying26 underlying27 sz3 by3 z3 szB zB Zas zRat Zay zInt Zax zNat Zah Zan Zai Bool.and_self Zal Za7 zSlQ szQT byQT zQT Za9 zSlT szQP zQP
end
attribute [local go_sem] underlying69
theorem fst_of {α:Type} (F:α→Bool) (l:List α):∃n,n≤l.length∧(∀j (h:j < l.length),j < n→F l[j]=false)∧(∀h:n < l.length,F l[n]=true)∧l.any F=decide (n < l.length):=by
 induction l with
 | nil=>exact⟨0,by simp,by simp,by simp,by simp⟩
 | cons a l ih =>
   obtain⟨n,h1,h2,h3,h4⟩:=ih
   cases ha:F a with
   | true=>exact⟨0,by simp,λj h h'=>by omega,λ_=>ha,by simp [ha]⟩
   | false =>
     refine⟨n+1,by simpa using h1,λj h h'=>?_,λh=>h3 (by simpa using h),by simp [ha,h4]⟩
     cases j with
     | zero=>exact ha
     | succ j=>exact h2 j (by simpa using h) (by omega)
theorem Zsh (q:Qt):q.pts.length≤40:=by
 unfold Qt.pts;split
 ·rw [List.length_map];exact Nat.le_trans (List.length_filter_le _ _) (by simp)
 ·simp
theorem slIdxI (l:List Int) (x:Int) (hl:l.length≤1000000):∃z:Int,Pure prog 77 [ivs l,iv x] (iv z)∧decide (0≤z)=l.any λt=>decide (x=t):=by
 have hlm:(l.map iv).length=l.length:=List.length_map ..;have hg:∀i (h:i < l.length),(l.map iv).getD i .u=iv l[i]:=λi h=>Zat iv h;obtain⟨n,h1,h2,h3,h4⟩:=fst_of (λt:Int=>decide (x=t)) l;refine⟨if n < l.length then (n:Int) else -1,?_,?_⟩
 ·show Pure _ _ [.sl 1 (l.map iv),iv x] _;generalize l.map iv=L at *;refine Zaa (tok:=0) func77 rfl ntmps77 results77 call77 (by rfl) (by simp) ?_;(focus (refine wkap (w_1 hlm) w_t (w_r 0) ?_;(repeat' first|exact w_t|apply w_l);all_goals intros));refine Zae (ι:=Nat) (λk e m=>k≤n∧e 0=.sl 1 L∧e 1=iv x∧e 7=iv l.length∧e 8=iv k) (λk=>n - k) 0 (by rfl) ?_ ?_
  ·rintro k e m ⟨hk,e0,e1,e7,e8⟩
   by_cases hlt:k < l.length
   ·have hgk:=hg k hlt;by_cases hkn:k < n
    ·have hb:=of_decide_eq_false (h2 k hlt hkn);generalize l[k]=a at *;(focus (refine wkap (w_7 e0 e1 e7 e8 hgk hlm hb) w_t (w_r 0) ?_;(repeat' first|exact w_t|apply w_l);all_goals intros));exact⟨k+1,⟨by omega,by exact gW e0,by exact gW e1,by exact gW e7,by exact gS⟩,by omega⟩
    ·have hkn:k=n:=by omega
     subst hkn;have hb:=of_decide_eq_true (h3 hlt);rw [if_pos hlt];rw [←hb] at hgk;clear hb;(focus (refine wkap (w_6 e0 e1 e7 e8 hgk hlm) w_t (w_r 0) ?_;(repeat' first|exact w_t|apply w_l);all_goals intros));all_goals exact gL
   ·rw [if_neg (by omega)];(focus (refine wkap (w_5 e0 e1 e7 e8 hlm) w_t (w_r 0) ?_;(repeat' first|exact w_t|apply w_l);all_goals intros));all_goals exact gL
  ·exact⟨Nat.zero_le _,by exact gC,by exact gC,by exact gW hlm,by exact gC⟩
 ·rw [h4,Bool.eq_iff_iff,decide_eq_true_eq,decide_eq_true_eq];split<;>omega
theorem Zv5 (l:List Int) (x:Int) (hl:l.length≤1000000):Pure prog 34 [ivs l,iv x] (.v (.bool (l.any λt=>decide (x=t)))):=by
 obtain⟨z,c,hz⟩:=slIdxI l x hl;rw [←hz];show Pure _ _ [.sl 1 (l.map iv),iv x] _;have c:Pure _ _ [.sl 1 (l.map iv),iv x] _:=c;generalize l.map iv=L at *;refine Zaa (tok:=0) func34 rfl ntmps34 results34 call34 (by rfl) (by simp) ?_;(focus (refine wkap w_t (w_1 c) (w_r 0) ?_;(repeat' first|exact w_t|apply w_l);all_goals intros));all_goals exact gL
def hasQ (x:Int) (q:Qt):Bool:=q.pts.any λt=>decide (x=t)
def hasP (x:Int) (p:List Qt):Bool:=p.any (hasQ x)
def hasT (x:Int) (p:QTs):Bool:=p.any λt=>hasP x t.2
theorem Ztq {α:Type} {f:α→Bool} {l:List α} {i:Nat} (h:i < l.length) (h1:(l.take i).any f=false) (h2:f l[i]=false):(l.take (i+1)).any f=false:=by
 rw [List.take_succ_eq_append_getElem h,List.any_append,h1];simp [h2]
theorem Zzs {α:Type} {f:α→Bool} {l:List α} {i:Nat} (h:i < l.length) (h2:f l[i]=true):l.any f=true:=List.any_eq_true.2 ⟨_,List.getElem_mem h,h2⟩
theorem exHas (p:QTs) (x:Int) (hl:p.length≤1000000) (hq:∀t∈p,t.2.length≤1000000):Pure prog 12 [.sl 4 (p.map qtA),iv x] (.v (.bool (hasT x p))):=by
 have hlm:(p.map qtA).length=p.length:=List.length_map ..;have hg:∀i (h:i < p.length),(p.map qtA).getD i .u=.agg [.v (.bool (decide (p[i].1.num < 0))),lim (toL p[i].1.num.natAbs),lim (toL p[i].1.den),.sl 4 (p[i].2.map Qt.av)]:=λi h=>Zat qtA h;have hq2:∀i (h:i < p.length),p[i].2.length≤1000000:=λi h=>hq _ (List.getElem_mem h);generalize p.map qtA=P at *;refine Zaa (tok:=0) func12 rfl ntmps12 results12 call12 (by rfl) (by simp) ?_;(focus (refine wkad (w_1 hlm) w_t w_t ?_;(repeat' first|exact w_t|apply w_l);all_goals intros));refine Zae (ι:=Nat) (λi e m=>i≤p.length∧(e 1=iv x∧e 9=.sl 4 P∧e 10=iv p.length∧e 11=iv i)∧(p.take i).any (λt=>hasP x t.2)=false) (λi=>p.length - i) 0 (by rfl) ?_ ?_
 ·rintro i e m ⟨hi,⟨e1,e9,e10,e11⟩,hc⟩
  by_cases hlt:i < p.length
  ·have hgi:=hg i hlt;have hqi:=hq2 i hlt;have hqm:(p[i].2.map Qt.av).length=p[i].2.length:=List.length_map ..;have hqe:∀b (h:b < p[i].2.length),(p[i].2.map Qt.av).getD b .u=.agg [iv p[i].2[b].k,iv p[i].2[b].a,iv p[i].2[b].b,iv p[i].2[b].c]:=λb h=>Zat Qt.av h;have hst:hasP x p[i].2=false→(p.take (i+1)).any (λt=>hasP x t.2)=false:=Ztq hlt hc;have hht:hasP x p[i].2=true→hasT x p=true:=Zzs (f:=λt:Rat × List Qt=>hasP x t.2) hlt;generalize p[i].2=w at *;generalize w.map Qt.av=qs at *;(focus (refine wkad (w_7 e1 e9 e10 e11 hlm hgi hqm) w_t w_t ?_;(repeat' first|exact w_t|apply w_l);all_goals intros))
   refine Zae (ι:=Nat) (λb e m=>b≤w.length∧(e 1=iv x∧e 9=.sl 4 P∧e 10=iv p.length∧e 11=iv i∧e 16=.sl 4 qs∧e 17=iv w.length∧e 18=iv b)∧(w.take b).any (hasQ x)=false) (λb=>w.length - b) 0 (by rfl) ?_ ?_
   ·rintro b e m ⟨hb,⟨e1,e9,e10,e11,e16,e17,e18⟩,hcb⟩
    by_cases hbl:b < w.length
    ·have hqb:=hqe b hbl;have cp:Pure prog 32 [.agg [iv w[b].k,iv w[b].a,iv w[b].b,iv w[b].c]] (ivs w[b].pts):=Zjt w[b].k w[b].a w[b].b w[b].c;have cc:=Zv5 w[b].pts x (by have:=Zsh w[b];omega);have hs2:hasQ x w[b]=false→(w.take (b+1)).any (hasQ x)=false:=Ztq hbl hcb;have hh2:hasQ x w[b]=true→hasP x w=true:=Zzs (f:=hasQ x) hbl;have hqd:(w[b].pts.any λt=>decide (x=t))=hasQ x w[b]:=rfl;rw [hqd] at cc;generalize w[b].pts.map iv=pp at *
     cases hv:hasQ x w[b] with
     | true =>
       rw [hv] at cc;rw [hht (hh2 hv)];clear hs2 hh2 hst hht;generalize w[b]=y at *;obtain⟨y1,y2,y3,y4⟩:=y;simp only at *;generalize (Qt.pts ⟨y1,y2,y3,y4⟩)=pts at *;(focus (refine wkad (w_9 e1 e9 e10 e11 e16 e17 e18 hqm hqb) (w_2 cp cc) w_t ?_;(repeat' first|exact w_t|apply w_l);all_goals intros));all_goals exact gL
     | false =>
       rw [hv] at cc;have hs3:=hs2 hv;clear hs2 hh2 hst hht;generalize w[b]=y at *;obtain⟨y1,y2,y3,y4⟩:=y;simp only at *;generalize (Qt.pts ⟨y1,y2,y3,y4⟩)=pts at *;(focus (refine wkad (w_9 e1 e9 e10 e11 e16 e17 e18 hqm hqb) (w_2 cp cc) w_t ?_;(repeat' first|exact w_t|apply w_l);all_goals intros));exact⟨b+1,⟨by omega,⟨by exact gW e1,by exact gW e9,by exact gW e10,by exact gW e11,by exact gW e16,by exact gW e17,by exact gS⟩,hs3⟩,by omega⟩
    ·have:b=w.length:=by omega
     subst this;rw [List.take_length] at hcb;have hs3:=hst hcb;(focus (refine wkad (w_8 e1 e9 e10 e11 e16 e17 e18 hqm) w_t w_t ?_;(repeat' first|exact w_t|apply w_l);all_goals intros));exact⟨i+1,⟨by omega,⟨by exact gW e1,by exact gW e9,by exact gW e10,by exact gS⟩,hs3⟩,by omega⟩
   ·exact⟨Nat.zero_le _,⟨by exact gW e1,by exact gW e9,by exact gW e10,by exact gW e11,by exact gC,by exact gW hqm,by exact gC⟩,rfl⟩
  ·have:i=p.length:=by omega
   subst this;rw [List.take_length] at hc;rw [show hasT x p=false from hc];(focus (refine wkad (w_5 e1 e9 e10 e11 hlm) w_t w_t ?_;(repeat' first|exact w_t|apply w_l);all_goals intros));all_goals exact gL
 ·exact⟨Nat.zero_le _,⟨by exact gC,by exact gC,by exact gW hlm,by exact gC⟩,rfl⟩
section
attribute [local go_sem] underlying3 underlying4 underlying128 underlying50 underlying52 underlying54 underlying39 underlying55 underlying57 underlying26 underlying27 sz3 by3 z3 szB zB Zas zRat Zay zInt Zax zNat Zah Zan Zai Bool.and_self Zal Za7 zSlQ szQT byQT zQT Za9 zSlT szQP zQP underlying81 underlying29 szFr byFr zFr Zb6 Zca zSQP underlying33 underlying45 underlying9 Zbh zStr underlying69
end
section
attribute [local go_sem] underlying3 underlying4 underlying128 underlying50 underlying52 underlying54 underlying39 underlying55 underlying57 underlying26 underlying27 sz3 by3 z3 szB zB Zas zRat Zay zInt Zax zNat Zah Zan Zai Bool.and_self Zal Za7 zSlQ szQT byQT zQT Za9 zSlT szQP zQP underlying81 underlying29 szFr byFr zFr Zb6 Zca zSQP underlying33 underlying45 underlying9 Zbh zStr underlying69
end
end Go.Proofs.YtpkcophcldjboaaGreatDoor
namespace Go.Proofs.YtpkcophcldjboaaGreatDoor
open Go Go.RowKit Go.Pg Go.Pol Go.Proofs.Tryz
theorem Znv {α:Type} {R:α→α→Prop} (tr:∀a b c,R a b→R b c→R a c):∀{l:List α},(∀i (h:i+1 < l.length),R l[i] l[i+1])→l.Pairwise R
 | [],_=>.nil
 | [a],_=>List.pairwise_singleton _ _
 | a :: b :: l,h=>by
   have h0:R a b:=h 0 (by simp);have ht:(b :: l).Pairwise R:=Znv tr λi hi=>h (i+1) (by simpa using hi);refine List.pairwise_cons.2 ⟨λc hc=>?_,ht⟩;rcases List.mem_cons.1 hc with rfl | hc
   ·exact h0
   ·exact tr _ _ _ h0 ((List.pairwise_cons.1 ht).1 c hc)
theorem cmp_tr {α:Type} {cmp:α→α→Int} (o:CO cmp) (a b c:α) (h1:cmp a b≤0) (h2:cmp b c≤0):cmp a c≤0:=by
 rcases Int.lt_or_eq_of_le h1 with h | h
 ·rcases Int.lt_or_eq_of_le h2 with k | k
  ·have:=o.tr _ _ _ h k;omega
  ·rw [←o.eqz _ _ k];exact h1
 ·rw [o.eqz _ _ h];exact h2
theorem prod_ok {q:List Qt} (h:Zid q=true):okQ q:=by
 have hall:=λi (hi:i < q.length)=>List.all_eq_true.1 h i (List.mem_range.2 hi);refine⟨Znv (cmp_tr qtO) λi hi=>?_,λx hx=>?_⟩
 ·have:=hall (i+1) hi;unfold Zeb at this;simp only [Bool.and_eq_true,Bool.or_eq_true,decide_eq_true_eq,Nat.add_sub_cancel] at this;rcases this.2 with h1 | h1
  ·omega
  ·rwa [Zcq (by omega),Zcq hi] at h1
 ·obtain⟨i,hi,rfl⟩:=List.getElem_of_mem hx;have:=hall i hi;unfold Zeb at this;simp only [Bool.and_eq_true,decide_eq_true_eq] at this;have:=this.1
  rwa [Zcq hi] at this
theorem rgt_ex {l:List RE} (h:rgtB l=true):EX (l.map RE.rt):=by
 have hall:=λi (hi:i < l.length)=>List.all_eq_true.1 h i (List.mem_range.2 hi);refine⟨λt ht=>?_,List.pairwise_map.2 (Znv (R:=λa b:RE=>ordQ a.q b.q < 0) (λa b c h1 h2=>Zbk.tr _ _ _ h1 h2) λi hi=>?_)⟩
 ·obtain⟨u,hu,rfl⟩:=List.mem_map.1 ht;obtain⟨i,hi,rfl⟩:=List.getElem_of_mem hu;have:=hall i hi;unfold Zd7 at this;simp only [Bool.and_eq_true,Bool.not_eq_true',decide_eq_false_iff_not] at this;rw [Zcq hi] at this;exact⟨this.2.1,prod_ok this.2.2.1⟩
 ·have:=hall (i+1) hi;unfold Zd7 at this;simp only [Bool.and_eq_true,Bool.or_eq_true,decide_eq_true_eq,Nat.add_sub_cancel] at this;rcases this.2.2.2 with h1 | h1
  ·omega
  ·rwa [Zcq (by omega),Zcq hi] at h1
theorem Ztj:∀(l:QTs),(∀t∈l,(toL t.1.den).length≤2)→∃D,D≠0∧D < 65536 ^ (2*l.length+1)∧∀t∈l,t.1.den ∣ D
 | [],_=>⟨1,by omega,by decide,λt ht=>by cases ht⟩
 | a :: l,h=>by
   obtain⟨D,h0,h1,h2⟩:=Ztj l λt ht=>h t (.tail _ ht);have h3:=Zaf.1 (h a (.head _));refine⟨a.1.den*D,Nat.mul_ne_zero a.1.den_nz h0,?_,λt ht=>?_⟩
   ·have h4:=Nat.mul_lt_mul_of_lt_of_lt h3 h1;rw [←Nat.pow_add] at h4;rw [List.length_cons,show 2*(l.length+1)+1=2+(2*l.length+1) from by omega];exact h4
   ·rcases List.mem_cons.1 ht with rfl | ht
    ·exact Nat.dvd_mul_right _ _
    ·exact Nat.dvd_trans (h2 t ht) (Nat.dvd_mul_left _ _)
theorem cl_small {a:Rat} (h:(toL a.num.natAbs).length≤2):cl a≤65536 ^ 2:=by
 have h3:=Zaf.1 h;refine Zzg.2 (Nat.le_trans (Nat.le_of_lt h3) (Nat.le_mul_of_pos_right _ (Nat.pos_of_ne_zero a.den_nz)))
theorem Zsq:∀(l:QTs),(∀t∈l,(toL t.1.num.natAbs).length≤2)→n1 l≤l.length*65536 ^ 2
 | [],_=>by simp [n1]
 | a :: l,h=>by
   rw [Zba,List.length_cons,Nat.add_one_mul];have:=Zsq l λt ht=>h t (.tail _ ht);have:=cl_small (h a (.head _));omega
theorem Zrz {T Q k:Nat} {l:List RE} (hr:∀t∈l,t.r.lm k) (h:Zgp T Q l=true) (hT:T≤8):XB (l.map RE.rt) 17 Q∧(l.map RE.rt).length≤T:=by
 unfold Zgp at h;simp only [Bool.and_eq_true,decide_eq_true_eq] at h;have hq:=rt_qk hr h.2.1;have hl:(l.map RE.rt).length=l.length:=List.length_map ..;obtain⟨D,h0,h1,h2⟩:=Ztj (l.map RE.rt) λt ht=>(hq t ht).1.2;have h3:=Zsq (l.map RE.rt) λt ht=>(hq t ht).1.1;refine⟨⟨rgt_ex h.2.2,λt ht=>(hq t ht).2,D,n1 (l.map RE.rt),h0,Nat.lt_of_lt_of_le h1 (Nat.pow_le_pow_right (by omega) (by omega)),?_,h2,Nat.le_refl _⟩,by omega⟩;have h4:(l.map RE.rt).length*65536 ^ 2≤8*65536 ^ 2:=Nat.mul_le_mul_right _ (by omega);have h5:65536 ^ 3≤65536 ^ 17:=Nat.pow_le_pow_right (by omega) (by omega);have h6:8*65536 ^ 2 < 65536 ^ 3:=by decide
 omega
end Go.Proofs.YtpkcophcldjboaaGreatDoor
namespace Go.Proofs.YtpkcophcldjboaaGreatDoor
open Go Go.RowKit Go.Pg Go.Pol Go.Proofs.Tryz
attribute [-bool_to_prop] Bool.and_eq_decide Bool.or_eq_decide Bool.decide_beq_decide decide_eq_decide
attribute [local go_sem] underlying3 underlying4 underlying128 underlying50 underlying52 underlying54 underlying39 underlying55 underlying57 underlying26 underlying27 sz3 by3 z3 szB zB Zas zRat Zay zInt Zax zNat Zah Zan Zai Bool.and_self Zal Za7 zSlQ szQT byQT zQT Za9 zSlT szQP zQP underlying81 underlying29 szFr byFr zFr Zb6 Zca zSQP underlying33 underlying45 underlying9 Zbh zStr
theorem XB.neg {q:QTs} {k n:Nat} (h:XB q k n):XB (sclT (-1) q) k n:=by
 obtain⟨a,b,D,B,c,d,e,f⟩:=h;refine⟨⟨λt ht=>?_,List.pairwise_map.2 a.2⟩,λt ht=>?_,D,B,c,d,e,λt ht=>?_,?_⟩
 ·obtain⟨u,hu,rfl⟩:=List.mem_map.1 ht;refine⟨λh=>(a.1 u hu).1 ?_,(a.1 u hu).2⟩;have h:(-1:Rat)*u.1=0:=h;rw [Rat.neg_mul,Rat.one_mul] at h;have:=congrArg (λz:Rat=>-z) h
  simpa using this
 ·obtain⟨u,hu,rfl⟩:=List.mem_map.1 ht;exact b u hu
 ·obtain⟨u,hu,rfl⟩:=List.mem_map.1 ht;have:=f.1 u hu;show((-1:Rat)*u.1).den ∣ D;have e1:((-1:Rat)*u.1)=-u.1:=by rw [Rat.neg_mul,Rat.one_mul]
  rw [e1];exact this
 ·refine Nat.le_trans (Nat.le_of_eq ?_) f.2;unfold n1 sclT;rw [List.map_map];congr 1;refine List.map_congr_left λu _=>?_;show cl ((-1:Rat)*u.1)=cl u.1;have e1:((-1:Rat)*u.1)=-u.1:=by rw [Rat.neg_mul,Rat.one_mul]
  rw [e1];unfold cl;rw [show(-u.1).num=-u.1.num from rfl,show(-u.1).den=u.1.den from rfl,Int.natAbs_neg]
def reP (p:QTs):List RE:=p.map λt=>⟨rawQ t.1,t.2⟩
theorem reP_av (p:QTs):(reP p).map RE.av=p.map qtA:=by unfold reP;rw [List.map_map];rfl
theorem sgP_ok {l:List Qt} (h:∀q∈l,q.norm=(q,1)):sgP l=1:=by
 have key:∀(l:List Qt) (s:Int),(∀q∈l,q.norm=(q,1))→l.foldl (λs q=>s*q.norm.2) s=s:=by
  intro l
  induction l with
  | nil=>intro s _;rfl
  | cons a l ih=>intro s h;rw [List.foldl_cons,h a (.head _),Int.mul_one];exact ih s λq hq=>h q (.tail _ hq)
 exact key l 1 h
theorem nsP_ok:∀{l:List Qt},(∀q∈l,q.norm=(q,1))→nsP l=l
 | [],_=>rfl
 | a :: l,h=>by
   show a.norm.1 :: nsP l=a :: l;rw [h a (.head _),nsP_ok λq hq=>h q (.tail _ hq)]
theorem putP_ok {l:List Qt} (h:okQ l):putP l=l:=by
 rw [←Zv2 (by rw [sgP_ok h.2];decide),nsP_ok h.2];exact Zfo qtO (Zbz qtO.cp _) h.1 (Za2 _)
theorem reP_ok {p:QTs} (h:∀t∈p,okQ t.2):(reP p).all RE.ok=true:=by
 rw [List.all_eq_true];intro t ht;obtain⟨u,hu,rfl⟩:=List.mem_map.1 ht;show((rawQ u.1).ok && u.2.all Qt.ok)=true;rw [Zmr,Bool.true_and,List.all_eq_true];exact λq hq=>Zqp ((h u hu).2 q hq)
theorem reP_t:∀{p:QTs},(∀t∈p,okQ t.2)→(reP p).map RE.t=p
 | [],_=>rfl
 | u :: p,h=>by
   show RE.t ⟨rawQ u.1,u.2⟩ :: (reP p).map RE.t=u :: p;rw [reP_t λt ht=>h t (.tail _ ht)];show((rawQ u.1).q*(sgP u.2:Rat),putP u.2) :: p=u :: p;rw [Zsb,sgP_ok (h u (.head _)).2,putP_ok (h u (.head _)),show((1:Int):Rat)=1 from rfl,Rat.mul_one]
theorem nrm_re {p:QTs} (h:∀t∈p,okQ t.2):nrmR (reP p)=qpA (gatM p):=by rw [Zxg (reP_ok h),reP_t h]
theorem Zsa {p:QTs} {j n:Nat} (h:QK p j n):(∀t∈reP p,t.r.lm j)∧∀t∈reP p,t.q.length≤n:=by
 refine⟨λt ht=>?_,λt ht=>?_⟩<;>obtain⟨u,hu,rfl⟩:=List.mem_map.1 ht
 ·exact Zqd (h u hu).1
 ·exact(h u hu).2
theorem prodB_ok {q:List Qt} (h:okQ q):Zid q=true:=Zel λi hi=>by
 have h1:=h.2 _ (List.getElem_mem hi);refine qOk_y (by rw [Zcq hi,h1]) (by rw [Zcq hi,h1]) ?_;rcases Nat.eq_zero_or_pos i with h0 | h0
 ·exact .inl h0
 ·refine .inr ?_;rw [Zcq hi,Zcq (show i - 1 < q.length by omega)];exact List.pairwise_iff_getElem.1 h.1 _ _ _ hi (by omega)
theorem rgtB_ok {p:QTs} (h:EX p):rgtB (reP p)=true:=Zel λi hi=>by
 have hl:(reP p).length=p.length:=List.length_map ..;have hi':i < p.length:=by omega
 have hat:∀j (hj:j < p.length),(reP p).getD j RE.zero=⟨rawQ p[j].1,p[j].2⟩:=λj hj=>by
  rw [Zcq (show j < (reP p).length by omega)];unfold reP;rw [List.getElem_map]
 refine Zvw (by rw [hat i hi'];exact Zmr _) (by rw [hat i hi'];show(rawQ _).q≠0;rw [Zsb];exact(h.1 _ (List.getElem_mem hi')).1) (by rw [hat i hi'];exact prodB_ok (h.1 _ (List.getElem_mem hi')).2) ?_;rcases Nat.eq_zero_or_pos i with h0 | h0
 ·exact .inl h0
 ·refine .inr ?_;rw [hat i hi',hat (i - 1) (by omega)];exact List.pairwise_iff_getElem.1 h.2 _ _ _ hi' (by omega)
theorem Zre (φ:List Qt→Rat) (s:Rat):∀p:QTs,evl φ (sclT s p)=s*evl φ p
 | []=>by show(0:Rat)=s*0;rw [Rat.mul_zero]
 | t :: p=>by
   show s*t.1*φ t.2+evl φ (sclT s p)=s*(t.1*φ t.2+evl φ p);rw [Zre φ s p];grind
theorem EX.neg {p:QTs} (h:EX p):EX (sclT (-1) p):=by
 refine⟨λt ht=>?_,List.pairwise_map.2 h.2⟩;obtain⟨u,hu,rfl⟩:=List.mem_map.1 ht;refine⟨λh0=>(h.1 u hu).1 ?_,(h.1 u hu).2⟩;have h0:(-1:Rat)*u.1=0:=h0
 grind
theorem exRgt (p:QTs) {k n:Nat} (h:XB p k n) (hk:k≤50000) (hn:p.length≤1000000∧n≤1000000):Pure prog 13 [qpA p] (.v (.bool true)):=by
 have c:=exRight (reP p) (by show(List.map _ _).length≤_;rw [List.length_map];exact hn.1) (Zsa h.qk).1 (λt ht=>Nat.le_trans ((Zsa h.qk).2 t ht) hn.2) (by omega)
 rwa [reP_av,rgtB_ok h.1] at c
theorem NB.nz {D B:Nat} {l:QTs} (h:NB D B l):NB D B (nzT l):=by
 refine⟨λt ht=>h.1 t (List.mem_filter.1 ht).1,Nat.le_trans ?_ h.2⟩;clear h;unfold nzT
 induction l with
 | nil=>exact Nat.le_refl _
 | cons t l ih =>
   rw [Zba];by_cases h0:t.1=0
   ·rw [List.filter_cons_of_neg (by simpa using h0)];omega
   ·rw [List.filter_cons_of_pos (by simpa using h0),Zba];omega
theorem exNrmG (p:QTs) {D C a b n:Nat} (hN:NB D C p) (h0:D≠0) (hd:D < 65536 ^ a) (hb:C < 65536 ^ b) (ho:∀t∈p,okQ t.2) (hl:p.length≤1000000) (hq:∀t∈p,t.2.length≤n) (hn:n≤maxQ) (hj:a+b≤900000):Pure prog 78 [qpA p] (qpA (gatM p)):=by
 have hqk:=nb_qk hN h0 hd hb hq;have c:=exNormG (reP p) (J:=a+b) (JA:=a+b) (nQ:=n) (by show(List.map _ _).length≤_;rw [List.length_map];exact hl) (Zsa hqk).1 (Zsa hqk).2 hn hj (by omega) λi hi _=>by
  have e:((reP p).take i).map RE.t=p.take i:=by
   have e1:(reP p).take i=reP (p.take i):=by unfold reP;rw [List.map_take]
   rw [e1,reP_t λt ht=>ho t (List.mem_of_mem_take ht)]
  rw [e];have hmem:∀t∈nzT (p.take i),t∈p:=λt ht=>List.mem_of_mem_take (List.mem_filter.1 ht).1;have hnb:=acc_nb (nzT (p.take i)) [] (NB.nil D 0) (NB.nz (hN.take i));rw [Nat.zero_add] at hnb;refine⟨nb_qk hnb h0 hd hb ?_,?_,?_⟩
  ·exact Zi6 (P:=λx=>x.length≤n) _ [] (λt ht=>by cases ht) λt ht=>hq t (hmem t ht)
  ·exact Zi6 (P:=λx=>∀q∈x,q.b8) _ [] (λt ht=>by cases ht) λt ht=>(ho t (hmem t ht)).b8
  ·have h1:=Zz0 (nzT (p.take i)) [];have h2:=Zqn (p.take i);rw [List.length_take] at h2;rw [List.length_nil] at h1;exact Nat.le_trans h1 (by omega)
 rwa [reP_av,nrm_re ho] at c
theorem Zr0 {T Q k:Nat} {l:List RE} (hr:∀t∈l,t.r.lm k) (h:Zgp T Q l=true):l.map RE.av=(l.map RE.rt).map qtA:=by
 unfold Zgp at h;simp only [Bool.and_eq_true,decide_eq_true_eq] at h;exact rt_av hr h.2.1
end Go.Proofs.YtpkcophcldjboaaGreatDoor
namespace Go.Proofs.YtpkcophcldjboaaGreatDoor
open Go Go.RowKit Go.Pg Go.Pol Go.Proofs.Tryz
def tmQ (q:Qt) (l:List Qt):Nat:=(l.filter λx=>decide (x=q)).length
def woQ (q:Qt) (l:List Qt):List Qt:=l.filter λx=>decide (x≠q)
def woL (q:Qt) (a:QTs) (k:Nat):QTs:=(a.filter λt=>decide (tmQ q t.2=k)).map λt=>(t.1,woQ q t.2)
def moQ (q:Qt) (a:QTs):Nat:=a.foldl (λn t=>max n (tmQ q t.2)) 0
theorem Zvn (q:Qt):∀l:List Qt,tmQ q l+(woQ q l).length=l.length
 | []=>rfl
 | a :: l=>by
   have ih:=Zvn q l;unfold tmQ woQ at *;by_cases h:a=q
   ·rw [List.filter_cons_of_pos (by simpa using h),List.filter_cons_of_neg (by simpa using h),List.length_cons,List.length_cons];omega
   ·rw [List.filter_cons_of_neg (by simpa using h),List.filter_cons_of_pos (by simpa using h),List.length_cons,List.length_cons];omega
theorem tm_le (q:Qt) (l:List Qt):tmQ q l≤l.length:=by have:=Zvn q l;omega
theorem Zxp (q:Qt) (a:QTs) (t:Rat × List Qt):moQ q (a++[t])=max (moQ q a) (tmQ q t.2):=by unfold moQ;rw [List.foldl_append];rfl
theorem mo_le {q:Qt} {n:Nat} {a:QTs} (h:∀t∈a,t.2.length≤n):moQ q a≤n:=by
 have key:∀(a:QTs) (s:Nat),s≤n→(∀t∈a,t.2.length≤n)→a.foldl (λn t=>max n (tmQ q t.2)) s≤n:=by
  intro a
  induction a with
  | nil=>exact λs hs _=>hs
  | cons t a ih=>exact λs hs h=>ih _ (by show max s (tmQ q t.2)≤n;have:=tm_le q t.2;have:=h t (.head _);omega) λu hu=>h u (.tail _ hu)
 exact key a 0 (Nat.zero_le _) h
theorem wo_snoc (q:Qt) (a:QTs) (t:Rat × List Qt) (k:Nat):woL q (a++[t]) k=if tmQ q t.2=k then woL q a k++[(t.1,woQ q t.2)] else woL q a k:=by
 unfold woL;rw [List.filter_append,List.map_append];split
 ·rename_i h;rw [List.filter_cons_of_pos (by simpa using h)];rfl
 ·rename_i h;rw [List.filter_cons_of_neg (by simpa using h)];simp
theorem wo_above {q:Qt}:∀{a:QTs} {k:Nat},moQ q a < k→woL q a k=[]:=by
 intro a k h
 have key:∀(a:QTs) (s:Nat),a.foldl (λn t=>max n (tmQ q t.2)) s < k→s < k∧a.filter (λt=>decide (tmQ q t.2=k))=[]:=by
  intro a
  induction a with
  | nil=>exact λs hs=>⟨hs,rfl⟩
  | cons t a ih =>
    intro s hs;obtain⟨h1,h2⟩:=ih _ hs;have h1:max s (tmQ q t.2) < k:=h1;refine⟨by omega,?_⟩;rw [List.filter_cons_of_neg (by simp;omega)];exact h2
 unfold woL;rw [(key a 0 h).2];rfl
theorem Zve (q:Qt) (a:QTs) (k:Nat):(woL q a k).length≤a.length:=by unfold woL;rw [List.length_map];exact List.length_filter_le _ _
theorem okQ.wo {l:List Qt} (h:okQ l) (q:Qt):okQ (woQ q l):=⟨h.1.filter _,λx hx=>h.2 x (List.mem_filter.1 hx).1⟩
theorem Zjf {q:Qt} {a:QTs} {k:Nat} {u:Rat × List Qt} (h:u∈woL q a k):∃t∈a,u=(t.1,woQ q t.2):=by
 obtain⟨t,ht,rfl⟩:=List.mem_map.1 h;exact⟨t,(List.mem_filter.1 ht).1,rfl⟩
theorem Zro {a:QTs} (h:∀t∈a,okQ t.2) (q:Qt) (k:Nat):∀t∈woL q a k,okQ t.2:=λu hu=>by
 obtain⟨t,ht,rfl⟩:=Zjf hu;exact(h t ht).wo q
theorem Zpt {a:QTs} {n:Nat} (h:∀t∈a,t.2.length≤n) (q:Qt) (k:Nat):∀t∈woL q a k,t.2.length≤n:=λu hu=>by
 obtain⟨t,ht,rfl⟩:=Zjf hu;exact Nat.le_trans (by have:=Zvn q t.2;show(woQ q t.2).length≤_;omega) (h t ht)
theorem n1_wo (q:Qt) (k:Nat):∀a:QTs,n1 (woL q a k)≤n1 a
 | []=>Nat.le_refl _
 | t :: a=>by
   have ih:=n1_wo q k a;unfold woL at *;by_cases h:tmQ q t.2=k
   ·rw [List.filter_cons_of_pos (by simpa using h),List.map_cons,Zba,Zba];exact Nat.add_le_add_left ih _
   ·rw [List.filter_cons_of_neg (by simpa using h),Zba];omega
abbrev paQ (q:Qt) (a:QTs) (k:Nat):QTs:=gatM (woL q a k)
theorem XB.part {a:QTs} {k n:Nat} (h:XB a k n) (q:Qt) (i:Nat):XB (paQ q a i) k n:=by
 obtain⟨a1,b,D,B,c,d,e,f⟩:=h;refine⟨Zgo Zbk (Zro a1.dom q i),Zj1 (Zpt b q i),D,B,c,d,e,NB.sumG ⟨λt ht=>?_,Nat.le_trans (n1_wo q i a) f.2⟩⟩;obtain⟨u,hu,rfl⟩:=Zjf ht;exact f.1 u hu
theorem gat_len (l:QTs):(gatM l).length≤l.length:=by
 obtain⟨j,hj⟩:∃j,QK l j ((l.map λt=>t.2.length).sum):=by
  induction l with
  | nil=>exact⟨0,λt ht=>by cases ht⟩
  | cons a l ih =>
    obtain⟨j,hj⟩:=ih;refine⟨max j (max (toL a.1.num.natAbs).length (toL a.1.den).length),λt ht=>?_⟩;rw [List.map_cons,List.sum_cons];rcases List.mem_cons.1 ht with rfl | ht
    ·exact⟨⟨by omega,by omega⟩,by omega⟩
    ·exact⟨(hj t ht).1.mono (by omega),by have:=(hj t ht).2;omega⟩
 exact(Zyh _ l rfl hj).2
theorem pa_len (q:Qt) (a:QTs) (k:Nat):(paQ q a k).length≤a.length:=Nat.le_trans (gat_len _) (Zve q a k)
abbrev pwX (d:QTs) (i:Nat):QTs:=pwG ordQ muQ [] d i
abbrev hnX (P:Nat→QTs) (a d:QTs) (m i:Nat):QTs:=hnG ordQ muQ [] P a d m i
abbrev rfX (P:Nat→QTs) (a d:QTs) (m i:Nat):QTs:=rfG ordQ muQ [] P a d m i
theorem Zrn:XB [((1:Rat),[])] 1 0:=xbC _ _ (by decide +kernel)
theorem Zli:XB [] 1 0:=xbC _ _ (by decide +kernel)
theorem XB.pw {d:QTs} {k n:Nat} (h:XB d k n):∀i,XB (pwX d i) (1+i*k) (i*n)
 | 0=>by rw [Nat.zero_mul,Nat.zero_mul];exact Zrn
 | i+1=>(XB.mul (h.pw i) h).mono (by rw [Nat.succ_mul];omega) (by rw [Nat.succ_mul];omega)
theorem Zoh {d:QTs} {L:Nat} (h:d.length≤L):∀i,(pwX d i).length≤L ^ i
 | 0=>Nat.le_refl _
 | i+1=>Nat.le_trans (Zds _ _) (by rw [Nat.pow_succ];exact Nat.mul_le_mul (Zoh h i) h)
section
variable {P:Nat→QTs} {a d:QTs} {kp kb np nb LP L:Nat}
theorem XB.hn (hP:∀k,XB (P k) kp np) (ha:XB a kb nb) (hd:XB d kb nb) (m:Nat):∀i,XB (hnX P a d m i) (1+i*(kp+kb+2+i*kb)) (np+i*nb)
 | 0=>Zli.mono (by omega) (Nat.zero_le _)
 | i+1=>by
   have h1:=((XB.hn hP ha hd m i).mul ha).add ((hP (m - i)).mul (hd.pw i));refine XB.mono h1 ?_ ?_
   ·have e:(i+1)*(kp+kb+2+(i+1)*kb)=i*(kp+kb+2+i*kb)+i*kb+(kp+kb+2+(i*kb+kb)):=by grind
    rw [e];omega
   ·rw [Nat.succ_mul];exact Nat.max_le.2 ⟨by omega,by omega⟩
theorem hn_len (hP:∀k,(P k).length≤LP) (ha:a.length≤L) (hd:d.length≤L) (hL:1≤L) (m:Nat):∀i,(hnX P a d m i).length≤i*LP*L ^ i
 | 0=>Nat.zero_le _
 | i+1=>by
   refine Nat.le_trans (Zfe _ _) ?_;have h1:=Nat.le_trans (Zds (hnX P a d m i) a) (Nat.mul_le_mul (hn_len hP ha hd hL m i) ha);have h2:=Nat.le_trans (Zds (P (m - i)) (pwX d i)) (Nat.mul_le_mul (hP _) (Zoh hd i));have h3:LP*L ^ i≤LP*L ^ i*L:=Nat.le_mul_of_pos_right _ hL;refine Nat.le_trans (Nat.add_le_add h1 h2) ?_;have e:(i+1)*LP*L ^ (i+1)=i*LP*L ^ i*L+LP*L ^ i*L:=by rw [Nat.pow_succ];grind
   rw [e];omega
theorem XB.rf (hP:∀k,XB (P k) kp np) (ha:XB a kb nb) (hd:XB d kb nb) (m:Nat):∀i,i≤m+1→XB (rfX P a d m i) (1+i*(kp+3+m*kb)) (np+m*nb)
 | 0,_=>Zli.mono (by omega) (Nat.zero_le _)
 | i+1,hi=>by
   have h1:=(XB.rf hP ha hd m i (by omega)).add (((hP i).mul (ha.pw i)).mul (hd.pw (m - i)));have e1:i*kb+(m - i)*kb=m*kb:=by rw [←Nat.add_mul];congr 1;omega
   have e2:i*nb+(m - i)*nb=m*nb:=by rw [←Nat.add_mul];congr 1;omega
   refine XB.mono h1 ?_ ?_
   ·rw [Nat.succ_mul];omega
   ·exact Nat.max_le.2 ⟨by omega,by omega⟩
theorem rf_len (hP:∀k,(P k).length≤LP) (ha:a.length≤L) (hd:d.length≤L) (m:Nat):∀i,i≤m+1→(rfX P a d m i).length≤i*(LP*L ^ m)
 | 0,_=>Nat.zero_le _
 | i+1,hi=>by
   refine Nat.le_trans (Zfe _ _) ?_;have h1:=rf_len hP ha hd m i (by omega);have h2:=Nat.le_trans (Zds (P i) (pwX a i)) (Nat.mul_le_mul (hP _) (Zoh ha i));have h3:=Nat.le_trans (Zds (mulX (P i) (pwX a i)) (pwX d (m - i))) (Nat.mul_le_mul h2 (Zoh hd (m - i)));have e:LP*L ^ i*L ^ (m - i)=LP*L ^ m:=by rw [Nat.mul_assoc,←Nat.pow_add];congr 2;omega
   rw [e] at h3;rw [Nat.succ_mul];exact Nat.add_le_add h1 h3
end
abbrev rpN (q:Qt) (a num den:QTs):QTs:=rfX (paQ q a) num den (moQ q a) (moQ q a+1)
abbrev rpD (q:Qt) (a den:QTs):QTs:=pwX den (moQ q a)
theorem Zwf (q:Qt) {a num den:QTs} (ha:EX a) (hn:EX num) (hd:EX den):hnX (paQ q a) num den (moQ q a) (moQ q a+1)=rpN q a num den :=
 horner rgQ (λk=>Zgo Zbk (Zro ha.dom q k)) hn hd _
theorem Zke (p:QTs):sclT 1 p=p:=Zr1 p
theorem mul_neg {p:QTs} (h:EX p):mulX [((-1:Rat),[])] p=sclT (-1) p :=
 Zh5 (D:=okQ) Zbk (Zbe rgQ ⟨λt ht=>by rw [List.mem_singleton.1 ht];exact⟨by decide +kernel,rgQ.de⟩,List.pairwise_singleton _ _⟩ h) h.neg λφ=>by
  rw [Zfn Zbk,Zre];show(-1:Rat)*evl (λk=>φ (muQ [] k)) p+0=_;rw [Rat.add_zero];congr 1
  have key:∀p:QTs,(∀t∈p,okQ t.2)→evl (λk=>φ (muQ [] k)) p=evl φ p:=by
   intro p
   induction p with
   | nil=>intro _;rfl
   | cons t p ih =>
     intro h;show t.1*φ (muQ [] t.2)+_=t.1*φ t.2+_;rw [ih λu hu=>h u (.tail _ hu),rgQ.comm,rgQ.one _ (h t (.head _))]
  exact key p h.dom
end Go.Proofs.YtpkcophcldjboaaGreatDoor
namespace Go.Proofs.YtpkcophcldjboaaGreatDoor
open Go Go.RowKit Go.Pg Go.Pol Go.Proofs.Tryz
attribute [-bool_to_prop] Bool.and_eq_decide Bool.or_eq_decide Bool.decide_beq_decide decide_eq_decide
attribute [local go_sem] underlying3 underlying4 underlying128 underlying50 underlying52 underlying54 underlying39 underlying55 underlying57 underlying26 underlying27 sz3 by3 z3 szB zB Zas zRat Zay zInt Zax zNat Zah Zan Zai Bool.and_self Zal Za7 zSlQ szQT byQT zQT Za9 zSlT szQP zQP underlying81 underlying29 szFr byFr zFr Zb6 Zca zSQP
theorem Zvo (q:Qt) (l:List Qt) (x:Qt):tmQ q (l++[x])=if x=q then tmQ q l+1 else tmQ q l:=by
 unfold tmQ;rw [List.filter_append,List.length_append];split
 ·rename_i h;rw [List.filter_cons_of_pos (by simpa using h)];rfl
 ·rename_i h;rw [List.filter_cons_of_neg (by simpa using h)];rfl
theorem woQ_y {q x:Qt} (l:List Qt) (h:x≠q):woQ q (l++[x])=woQ q l++[x]:=by unfold woQ;rw [List.filter_append,List.filter_cons_of_pos (by simpa using h)];rfl
theorem woQ_n {q x:Qt} (l:List Qt) (h:x=q):woQ q (l++[x])=woQ q l:=by unfold woQ;rw [List.filter_append,List.filter_cons_of_neg (by simpa using h)];simp
theorem cst_ok (a:Rat):nrmR (cstE a)=qpA (if a=0 then [] else [(a,[])]):=by
 have h:=nrm_re (p:=[(a,[])]) (λt ht=>by rw [List.mem_singleton.1 ht];exact rgQ.de)
 rwa [Znd] at h
end Go.Proofs.YtpkcophcldjboaaGreatDoor
namespace Go.Pg
open Go Go.RowKit
section
variable {P:Program} {c:Cx} {n:Nat}
theorem at_lt {l s:List Oper} {j:Nat} (h:j < l.length):(l++s).toArray[j]?=l.toArray[j]?:=by
 rw [List.getElem?_toArray,List.getElem?_toArray,List.getElem?_append_left h]
theorem at_suf {l s:List Oper} (k:Nat):(l++s).toArray[l.length+k]?=s[k]?:=by
 rw [List.getElem?_toArray,List.getElem?_append_right (Nat.le_add_right _ _),Nat.add_sub_cancel_left]
def LastK (P:Program) (n:Nat) (o:Oper) (K:St→Prop) (st:St):Prop:=(∃c a w imm,Rel c n st a w imm)→∃st',Frz n st st'∧Zbi P 0 [o] [o] (λst1=>∃st2,Frz n st1 st2∧K st2) st'
def Zjm (P:Program) (n:Nat):List Oper→(St→Prop)→St→Prop
 | [],K=>K
 | o :: s,K=>LastK P n o (Zjm P n s K)
def Zx5 (n:Nat) (l s:List Oper):Bool :=
 s.all (λo=>Zef n o && o.guard.isNone) && l.all (λx=>x.guard.isNone) &&
 ((List.range (l.length+s.length)).all λj=>match (l++s).toArray[j]? with
   | some x=>x.after.toList.all λe=>!Region.binds .any e || decide (e.on < j)
   | none=>true) && (List.range s.length).all λk=>(List.range (l.length+k)).all λj=>Zib (l++s).toArray (l.length+s.length) j (l.length+k)
structure LastOk (n:Nat) (l s:List Oper):Prop where
 fits:∀o∈s,Zef n o=true
 g:∀o∈s,o.guard=none
 gl:∀x∈l,x.guard=none
 dj:∀j x,(l++s).toArray[j]?=some x→∀e∈x.after,Region.binds .any e=true→e.on < j
 r:∀k,k < s.length→∀j,j < l.length+k→Zib (l++s).toArray (l.length+s.length) j (l.length+k)=true
theorem Zq4 {l s:List Oper} (h:Zx5 n l s=true):LastOk n l s:=by
 unfold Zx5 at h;simp only [Bool.and_eq_true,List.all_eq_true,Option.isNone_iff_eq_none,List.mem_range] at h;obtain⟨⟨⟨h1,h3⟩,h5⟩,h6⟩:=h;refine⟨λo ho=>(h1 o ho).1,λo ho=>(h1 o ho).2,h3,λj x hx e he hb=>?_,h6⟩
 have hj:j < l.length+s.length:=by
  rw [List.getElem?_toArray] at hx;have:=(List.getElem?_eq_some_iff.1 hx).1
  rwa [List.length_append] at this
 have:=h5 j hj;rw [hx] at this;simp only [List.all_eq_true,Bool.or_eq_true,Bool.not_eq_true',decide_eq_true_eq,Array.mem_toList_iff] at this;exact(this e he).resolve_left (by simp [hb])
theorem wpOp_app {l s:List Oper} (ho:LastOk n l s) {Q:Exit→Act→World→Prop} {i:Nat} (hi:i < l.length) {K:Act→World→Prop} {a:Act} {w:World} (h:wpOp P l.toArray Q i K a w):wpOp P (l++s).toArray Q i K a w:=by
 unfold wpOp at h ⊢;rw [at_lt hi];have hx:l.toArray[i]?=some l[i]:=by rw [List.getElem?_toArray,List.getElem?_eq_getElem hi]
 rw [hx] at h ⊢;have hg:=ho.gl l[i] (List.getElem_mem hi);simp only [Region.wanted,hg] at h ⊢;exact h
theorem Zvd {ops:Array Oper} {Q:Exit→Act→World→Prop} {listed:Array Bool} {a:Act} {w:World} (h:Region.ready .any ops listed=[]) (hq:Q .normal a w):∀f,wpAny P .any ops Q f listed a w
 | 0=>⟨h,hq⟩
 | f+1=>⟨λ_=>hq,λi hi=>by rw [h] at hi;cases hi⟩
theorem Zhg {listed:Array Bool} {j:Nat} (h:j < listed.size):listed.getD j false=listed.getD j true:=by
 simp [h]
theorem Zwj {l s:List Oper} {listed:Array Bool} {i:Nat} (hi:i∈Region.ready .any l.toArray listed):i∈Region.ready .any (l++s).toArray listed:=by
 obtain⟨h0,x,hx,hd⟩:=mem_ready.1 hi
 have hil:i < l.length:=by
  rw [List.getElem?_toArray] at hx;exact(List.getElem?_eq_some_iff.1 hx).1
 exact mem_ready.2 ⟨h0,x,by rw [at_lt hil];exact hx,hd⟩
theorem Zr9 {l s:List Oper} (ho:LastOk n l s) {listed:Array Bool} (hsz:listed.size=l.length+s.length):∀j,j < l.length→listed.getD j true=false→∃i,i∈Region.ready .any l.toArray listed:=by
 intro j
 induction j using Nat.strongRecOn with
 | _ j ih =>
   intro hj hb;have hx:l.toArray[j]?=some l[j]:=by rw [List.getElem?_toArray,List.getElem?_eq_getElem hj]
   by_cases hd:∀e∈l[j].after,Region.binds .any e=true→listed.getD e.on false=true
   ·exact⟨j,mem_ready.2 ⟨hb,l[j],hx,hd⟩⟩
   ·obtain⟨e,he⟩:=Classical.not_forall.1 hd;obtain⟨he,h1⟩:=Classical.not_imp.1 he;obtain⟨hbd,h1⟩:=Classical.not_imp.1 h1;have hlt:=ho.dj j l[j] (by rw [at_lt hj];exact hx) e he hbd;refine ih e.on hlt (by omega) ?_;rw [←Zhg (by omega)];simpa using h1
theorem lastGo {l s:List Oper} (ho:LastOk n l s) {Q:AE→St→Prop}:∀(r:List Oper) (k:Nat),s.drop k=r→∀(f:Nat) (listed:Array Bool) (st:St) (a:Act) (w:World) (imm:Imm),Rel c n st a w imm→listed.size=l.length+s.length→(∀j,j < l.length+k→listed.getD j true=true)→(∀j,l.length+k≤j→j < l.length+s.length→listed.getD j true=false) →
 Zjm P n r (Q .normal) st→wpAny P .any (l++s).toArray (post c n Q) (f+r.length) listed a w:=by
 intro r
 induction r with
 | nil =>
   intro k hk f listed st a w imm h hsz hall hno hK
   have hks:s.length≤k:=by
    rcases Nat.lt_or_ge k s.length with h1 | h1
    ·have:=congrArg List.length hk;rw [List.length_drop,List.length_nil] at this;omega
    ·exact h1
   refine Zvd (List.eq_nil_iff_forall_not_mem.2 λi hi=>?_) ⟨.normal,st,imm,rfl,hK,h⟩ _;obtain⟨h0,x,hx,_⟩:=mem_ready.1 hi;rw [List.getElem?_toArray] at hx;have:=(List.getElem?_eq_some_iff.1 hx).1;rw [List.length_append] at this;rw [hall i (by omega)] at h0;cases h0
 | cons o r ih =>
   intro k hk f listed st a w imm h hsz hall hno hK
   have hks:k < s.length:=by
    rcases Nat.lt_or_ge k s.length with h1 | h1
    ·exact h1
    ·rw [List.drop_eq_nil_of_le h1] at hk;cases hk
   have hok:s[k]?=some o:=by
    have h1:=List.drop_eq_getElem_cons hks;rw [hk] at h1;rw [List.getElem?_eq_getElem hks,(List.cons.inj h1).1]
   have hr':s.drop (k+1)=r:=by
    have h1:=List.drop_eq_getElem_cons hks;rw [hk] at h1;exact(List.cons.inj h1).2.symm
   have hom:o∈s:=List.mem_of_getElem? hok;have hat:(l++s).toArray[l.length+k]?=some o:=by rw [at_suf];exact hok
   have hrdy:l.length+k∈Region.ready .any (l++s).toArray listed:=mem_ready.2 ⟨hno _ (Nat.le_refl _) (by omega),o,hat,λe he hb=>by
    have:=ho.dj _ _ hat e he hb;rw [Zhg (by omega)];exact hall _ this⟩
   refine⟨λh0=>(by rw [h0] at hrdy;cases hrdy),λi hi=>?_⟩;obtain⟨h0,x,hx,hd⟩:=mem_ready.1 hi
   have hil:i < l.length+s.length:=by
    rw [List.getElem?_toArray] at hx;have:=(List.getElem?_eq_some_iff.1 hx).1
    rwa [List.length_append] at this
   have hiL:i=l.length+k:=by
    rcases Nat.lt_trichotomy i (l.length+k) with h1 | h1 | h1
    ·rw [hall i h1] at h0;cases h0
    ·exact h1
    ·exfalso;obtain⟨m,rfl⟩:∃m,i=l.length+m:=⟨i - l.length,by omega⟩;have hrm:=ho.r m (by omega) (l.length+k) (by omega);have key:=fun(hc:Closed (l++s).toArray (Array.replicate (l.length+s.length) false))=>hc
     have hcl:Closed (l++s).toArray listed:=by
      intro j o' ho' hj e he hb
      have hj2:j < l.length+k:=by
       rcases Nat.lt_or_ge j (l.length+k) with h2 | h2
       ·exact h2
       ·have hjs:j < l.length+s.length:=by
         rw [List.getElem?_toArray] at ho';have:=(List.getElem?_eq_some_iff.1 ho').1
         rwa [List.length_append] at this
        have h3:=hno j h2 hjs;rw [Zhg (by omega),h3] at hj;cases hj
      have h4:=ho.dj j o' ho' e he hb;rw [Zhg (by omega)];exact hall _ (by omega)
     have:=Zc4 hcl (l.length+s.length) (l.length+m) x hx hd hrm;rw [Zhg (by omega),hno _ (Nat.le_refl _) (by omega)] at this;cases this
   subst hiL;obtain⟨st',hF,hK⟩:=hK ⟨c,a,w,imm,h⟩;obtain⟨imm',hr⟩:=hF c a w imm h;have hg:=ho.g o hom;have hfit:=ho.fits o hom
   have hK:aRes P (0+o.dst.getD 0) o.dst (Zak P st' o.op) (λst1=>∃st2,Frz n st1 st2∧Zjm P n r (Q .normal) st2) st':=by
    obtain⟨d,op,t,pos,af,g⟩:=o;simp only at hg;subst hg;exact hK
   have hdst:∀d,o.dst=some d→d < n:=by
    intro d hdd;rw [Zef,hdd] at hfit
    simpa using hfit
   unfold wpOp;rw [hat];simp only [Region.wanted,hg];refine .inl (Oper.wp_mono (λa1 w1 hg=>?_) (Zdc hr hdst hK));obtain⟨st1,imm1,⟨st2,hF2,hk2⟩,hr1⟩:=hg;obtain⟨imm2,hr2⟩:=hF2 c a1 w1 imm1 hr1;refine ih (k+1) hr' f _ st2 a1 w1 imm2 hr2 (by simpa using hsz) (λj hj=>?_) (λj h1 h2=>?_) hk2
   ·rcases Nat.lt_or_ge j (l.length+k) with h1 | h1
    ·rw [getD_set_ne true (by omega)];exact hall j h1
    ·have:j=l.length+k:=by omega
     subst this;have:l.length+k < listed.size:=by omega
     simp [this]
   ·rw [getD_set_ne true (by omega)];exact hno j (by omega) h2
theorem Zrl {l s:List Oper} (ho:LastOk n l s) (hf:l.all (Zef n)=true) {rs:Nat→AV} {bar:List Nat} {Q:AE→St→Prop} :
 ∀(f:Nat) (σs:Mem) (listed:Array Bool) (st:St) (a:Act) (w:World) (imm:Imm),Rel c n st a w imm→Part σs st.mem→listed.size=l.length+s.length→(∀j,l.length≤j→j < l.length+s.length→listed.getD j true=false)→Closed (l++s).toArray listed →
 aAny P 0 l rs bar σs f listed (Zjm P n s (Q .normal)) st→wpAny P .any (l++s).toArray (post c n Q) (f+s.length) listed a w:=by
 intro f
 induction f with
 | zero =>
   intro σs listed st a w imm h hp hsz hL hc hK;exact lastGo ho s 0 rfl 0 _ st a w imm h hsz (λj hj=>by
    refine Classical.byContradiction λhb=>?_;obtain⟨i,hi⟩:=Zr9 ho hsz j (by omega) (by simpa using hb);rw [hK.1] at hi;cases hi) hL hK.2
 | succ f ih =>
   intro σs listed st a w imm h hp hsz hL hc hK;by_cases hall:∀j,j < l.length→listed.getD j true=true
   ·refine lastGo ho s 0 rfl (f+1) _ st a w imm h hsz hall hL (hK.1 ?_);refine List.eq_nil_iff_forall_not_mem.2 λi hi=>?_;obtain⟨h0,x,hx,_⟩:=mem_ready.1 hi
    have hil:i < l.length:=by
     rw [List.getElem?_toArray] at hx;exact(List.getElem?_eq_some_iff.1 hx).1
    rw [hall i hil] at h0;cases h0
   ·obtain⟨j,hj⟩:=Classical.not_forall.1 hall;obtain⟨hj,hb⟩:=Classical.not_imp.1 hj;have hb:listed.getD j true=false:=by simpa using hb
    rw [Nat.add_right_comm];refine⟨λh0=>?_,λi hi=>?_⟩
    ·exfalso;obtain⟨i,hi⟩:=Zr9 ho hsz j hj hb;have:=Zwj (s:=s) hi;rw [h0] at this;cases this
    ·obtain⟨h0,x,hx,hd⟩:=mem_ready.1 hi
     have hil:i < l.length:=by
      rcases Nat.lt_or_ge i l.length with h1 | h1
      ·exact h1
      ·exfalso;obtain⟨m,rfl⟩:∃m,i=l.length+m:=⟨i - l.length,by omega⟩
       have hms:m < s.length:=by
        rw [List.getElem?_toArray] at hx;have:=(List.getElem?_eq_some_iff.1 hx).1;rw [List.length_append] at this;omega
       have:=Zc4 hc (l.length+s.length) (l.length+m) x hx hd (ho.r m hms j (by omega));rw [Zhg (by omega)] at this;rw [this] at hb;cases hb
     have hi':i∈Region.ready .any l.toArray listed:=mem_ready.2 ⟨h0,x,by rw [←at_lt hil];exact hx,hd⟩;refine wpOp_app ho hil (wpOp_mono (λa' w' hg=>?_) (Zj5 hf h hp (hK.2 i hi')));obtain⟨st',imm',⟨hk,hs'⟩,hr⟩:=hg;exact ih _ _ st' a' w' imm' hr hs' (by simpa using hsz) (λj h1 h2=>by rw [getD_set_ne true (by omega)];exact hL j h1 h2) (hc.set hi) hk
theorem Zmt {id:Nat} {Q:AE→St→Prop} {st:St} {ops l s:List Oper} (j:Nat) (rs:Nat→AV) (bar cut:List Nat) (hs1:ops.take j=l) (hs2:ops.drop j=s) (hm:P.follows .mixedOrders=true) (hf:l.all (Zef n)=true) (hok:Zx5 n l s=true)
 (hlex:Zm5 l.toArray bar l.length 0 (Array.replicate (l.length+s.length) false)=true) {N:Nat} (hN:l.length=N) (h:Zbn P 0 l rs bar (cutM cut st.mem) N 0 (Zjm P n s (Q .normal)) st):Za3 P 0 n (.region id ops.toArray true) Q st:=by
 have hops:l++s=ops:=by rw [←hs1,←hs2];exact List.take_append_drop ..
 subst hN;rw [←hops];intro c a w imm hr;refine wp_region_any hm ?_;have kd:Keeps w imm w.drew imm:=λad h=>⟨h,rfl⟩;have hgd:w.grownBy w.drew none:=⟨rfl,rfl,rfl,Nat.le_refl _,λ_ _ _=>rfl⟩;have hdr:Rel c n st a w.drew imm:=⟨λt=>kd.rs (hr.env t),hr.size,hr.defers,⟨⟨λk e hk=>(hr.mem.ok.ent k e hk).keep hgd (by cases e.blk<;>simp) (λ_ h=>h) (λ_ _=>rfl) (λ_ h=>.inl h),hr.mem.ok.apart,hr.mem.ok.lt,hr.mem.ok.spot⟩,hr.mem.below.drew,hr.mem.lt,hr.mem.old,hr.mem.new,hr.mem.cells⟩⟩
 have hcl:∀ops:Array Oper,Closed ops (Array.replicate (l.length+s.length) false):=by
  intro ops j o ho hj;exfalso;by_cases hjl:j < l.length+s.length<;>simp [Array.getElem?_replicate,hjl] at hj
 have h1:=Zq2 (K:=Zjm P n s (Q .normal)) l.length 0 (cutM cut st.mem) _ st (hcl _) hlex h;have h2:=Zrl (c:=c) (Q:=Q) (Zq4 hok) hf l.length (cutM cut st.mem) _ st a w.drew imm hdr (λt e ht=>by unfold cutM at ht;split at ht;cases ht;exact ht) (by simp) (λj h1 h2=>by simp [h2]) (hcl _) h1
 simpa using h2
theorem r_loopZ {body:Code} {st:St} {Q:AE→St→Prop} (h:Za3 P 0 n (.loop body) (λae st'=>∃st'',Frz n st' st''∧Q ae st'') st):Za3 P 0 n (.loop body) Q st:=λc a w imm hr =>
 Code.wp_mono (λe a' w' hp=>by
  obtain⟨ae,st',imm',rfl,⟨st'',hF,hq⟩,hr'⟩:=hp;obtain⟨imm2,h2⟩:=hF c a' w' imm' hr';exact⟨ae,st'',imm2,rfl,hq,h2⟩) (h c a w imm hr)
end
theorem Zfq {α:Type} {f:Nat→α} {k n:Nat} {v:α} (h:n≠k):upd f k v n=f n:=by rw [Zam,if_neg h]
theorem Zja {α:Type} {f:Nat→α} {k:Nat} {v:α}:upd f k v k=v:=by rw [Zam,if_pos rfl]
section
variable {n:Nat} {e:Nat→AV} {m:Mem}
theorem Zqj {w:World} {B:Nat} {ty:TypeId} {mm len:Nat} {sv:Value} {xs:List Value} (h:w.ownsRow B ty mm sv len xs):sv.oneCell'=true:=by
 rcases h.2 with h1 | ⟨g,cap,cur,h1,_⟩
 ·rw [h1.1];rfl
 ·rw [h1];rfl
theorem Frz.slotV {d k:Nat} {sv:Value} (he:e d=.own k sv):Frz n ⟨e,m⟩ ⟨upd e d (.v sv),m⟩:=by
 intro c a w imm h;refine⟨imm,λt=>?_,h.size,h.defers,h.mem⟩;have ht:=h.env t;show Rs w imm (upd e d (.v sv) t) _;rw [Zam];split
 ·subst_vars
  rw [show(St.mk e m).env t=_ from he] at ht;rw [ht.own_inv];exact .pure (.v _)
 ·exact ht
theorem own_one {d k:Nat} {sv:Value} (he:e d=.own k sv) (h:∃c a w imm,Rel c n ⟨e,m⟩ a w imm):sv.oneCell'=true:=by
 obtain⟨c,a,w,imm,h⟩:=h;have ht:=h.env d;rw [show(St.mk e m).env d=_ from he] at ht;exact ht.own_one
theorem el_ent {c:Cx} {w:World} {imm:Imm} {sv:Value} {ty:TypeId} {pub j:Nat} {es:List AV} {x y:AV} (h:EntOk c.B w imm (.row sv ty 1 es pub)) (hj:es[j]?=some x) (hy:y.one=true) (hyc:y.cells=[y]) (hxc:x.cells=[x]) (hr:∀v,Rd w imm x v→Rd w imm y v):EntOk c.B w imm (.row sv ty 1 (es.set j y) pub):=by
 obtain⟨xs,h1,h2,h3,h4,h5,h6,h7⟩:=h;have hlen:(es.set j y).length=es.length:=List.length_set ..;have hjl:j < es.length:=(List.getElem?_eq_some_iff.1 hj).1
 have hf:∀l:List AV,(∀x∈l,x.cells.length=1)→∀i:Nat,(flat l)[i]?=(l[i]?).bind λx:AV=>x.cells[0]?:=by
  intro l
  induction l with
  | nil=>intro _ i;simp [flat]
  | cons a l ih =>
    intro hl i;have ha:=hl a (.head _);obtain⟨b,hb⟩:=List.length_eq_one_iff.1 ha;have e1:flat (a :: l)=b :: flat l:=by simp [flat,hb]
    rw [e1]
    cases i with
    | zero=>simp [hb]
    | succ i=>simpa using ih (λx hx=>hl x (.tail _ hx)) i
 have hm:∀z∈es.set j y,z.cells.length=1:=λz hz=>by
  rcases List.mem_or_eq_of_mem_set hz with hz | rfl
  ·exact h2 z hz
  ·rw [hyc];rfl
 refine⟨xs,by rw [hlen];exact h1,hm,λz hz=>?_,λi a v ha hv=>?_,by rw [hlen];exact h5,h6,h7⟩
 ·rcases List.mem_or_eq_of_mem_set hz with hz | rfl
  ·exact h3 z hz
  ·cases z with
   | agg cs=>cases hy
   | _=>exact hy
 ·rw [hf _ hm] at ha;by_cases hij:i=j
  ·subst hij;rw [List.getElem?_set_self hjl] at ha;simp only [Option.bind_some,hyc,List.getElem?_cons_zero,Option.some.injEq] at ha;subst ha;refine hr v (h4 i x v ?_ hv);rw [hf _ h2,hj];simp [hxc]
  ·rw [List.getElem?_set_ne (Ne.symm hij),←hf _ h2] at ha;exact h4 i a v ha hv
theorem el_mx {c:Cx} {w:World} {imm:Imm} {K:Nat} {sv:Value} {ty:TypeId} {pub j:Nat} {es:List AV} {x y:AV} (h:Mx c m w imm) (hK:m K=some (.row sv ty 1 es pub)) (hj:es[j]?=some x) (hy:y.one=true) (hyc:y.cells=[y]) (hxc:x.cells=[x]) (hr:∀v,Rd w imm x v→Rd w imm y v):Mx c (upd m K (some (.row sv ty 1 (es.set j y) pub))) w imm:=by
 have hb:∀k e',upd m K (some (.row sv ty 1 (es.set j y) pub)) k=some e'→∃e0,m k=some e0∧e'.blk=e0.blk:=λk e' hk=>by
  rw [Zam] at hk;split at hk
  ·subst_vars;cases hk;exact⟨_,hK,rfl⟩
  ·exact⟨e',hk,rfl⟩
 refine⟨⟨λk e' hk=>?_,λk k' e1 e2 b hk hk' h1 h2=>?_,h.ok.lt,h.ok.spot⟩,h.below,h.lt,h.old,h.new,h.cells⟩
 ·rw [Zam] at hk;split at hk
  ·subst_vars;cases hk;exact el_ent (h.ok.ent _ _ hK) hj hy hyc hxc hr
  ·exact h.ok.ent _ _ hk
 ·obtain⟨e3,h3,h4⟩:=hb k e1 hk;obtain⟨e5,h5,h6⟩:=hb k' e2 hk';exact h.ok.apart k k' e3 e5 b h3 h5 (by rw [←h4];exact h1) (by rw [←h6];exact h2)
theorem Frz.elOwn {K k pub pub' mm j:Nat} {svK sv:Value} {ty ty':TypeId} {es el:List AV} (hK:m K=some (.row svK ty 1 es pub)) (hk:m k=some (.row sv ty' mm el pub')) (hj:es[j]?=some (.v sv)):Frz n ⟨e,m⟩ ⟨e,upd m K (some (.row svK ty 1 (es.set j (.own k sv)) pub))⟩:=by
 intro c a w imm h;obtain⟨xs,hx,_⟩:=h.mem.ok.ent k _ hk;refine⟨imm,h.env,h.size,h.defers,el_mx h.mem hK hj rfl rfl rfl λv hv=>?_⟩;cases hv;exact .own k sv (Zqj hx)
theorem Frz.elNil {K pub j:Nat} {svK:Value} {ty:TypeId} {es:List AV} (t mm:Nat) (ty':TypeId) (hK:m K=some (.row svK ty 1 es pub)) (ht:t≠K) (hj:es[j]?=some (.v (.slice none 0 0))) :
 Frz n ⟨e,m⟩ ⟨e,upd (upd m t (some (.row (.slice none 0 0) ty' mm [] 0))) K (some (.row svK ty 1 (es.set j (.own t (.slice none 0 0))) pub))⟩:=by
 intro c a w imm h;have hm:Mx c (upd m t (some (.row (.slice none 0 0) ty' mm [] 0))) w imm :=
  (Zdf h.mem (World.grownBy.refl w none) (Nat.le_refl _) (by simp) (λ_ _=>rfl) t (.row (.slice none 0 0) ty' mm [] 0) ⟨[],World.ownsRow_nil w c.B ty' mm,by simp,by simp,by simp [flat],by simp,λad _ h2=>by simp [Value.ownBlock] at h2,λg off h1 _=>by simp [Value.ownBlock] at h1⟩ λj e2 b _ _ _=>⟨by simp,by simp [Ent.blk,Value.ownBlock]⟩).1
 refine⟨imm,h.env,h.size,h.defers,el_mx hm (by rw [Zfq (Ne.symm ht)];exact hK) hj rfl rfl rfl λv hv=>?_⟩;cases hv;exact .own t _ rfl
theorem Frz.elPub {K k pub pub' mm j:Nat} {svK sv:Value} {ty ty':TypeId} {es el:List AV} (hK:m K=some (.row svK ty 1 es pub)) (hk:m k=some (.row sv ty' mm el pub')) (hne:k≠K) (hj:es[j]?=some (.own k sv)) :
 Frz n ⟨e,m⟩ ⟨e,upd (upd m k (some (.row sv ty' mm el el.length))) K (some (.row svK ty 1 (es.set j (.sl mm el)) pub))⟩:=by
 intro c a w imm h;obtain⟨i,h1,h2⟩:=Zqz h.mem k;have em:mark m k=upd m k (some (.row sv ty' mm el el.length)):=by unfold mark;rw [hk];rfl
 have h1:Mx c (mark m k) w i:=h1;rw [em] at h1;refine⟨i,λt=>h2.rs (h.env t),h.size,h.defers,el_mx h1 (by rw [Zfq (Ne.symm hne)];exact hK) hj rfl rfl rfl λv hv=>?_⟩;cases hv;exact Zr3 (k:=k) (e:=ty') (pub:=el.length) h1 (by rw [Zja]) rfl
theorem Frz.elsPub {K pub mm len d:Nat} {svK:Value} {ty ty':TypeId} (f:Nat→Nat) (S:Nat→Value) (L:Nat→List AV) (hK:m K=some (.row svK ty 1 ((List.range len).map λj=>.own (f j) (S j)) pub)) (hf:∀j,j < len→m (f j)=some (.row (S j) ty' mm (L j) 0)∧f j≠K) (hi:∀i j,i < len→j < len→f i=f j→i=j)
 (he:e d=.own K svK):∃m',Frz n ⟨e,m⟩ ⟨upd e d (.sl 1 ((List.range len).map λj=>.sl mm (L j))),m'⟩:=by
 have key:∀i,i≤len→∃m',Frz n ⟨e,m⟩ ⟨e,m'⟩∧m' K=some (.row svK ty 1 ((List.range len).map λj=>if j < i then .sl mm (L j) else .own (f j) (S j)) pub)∧∀j,i≤j→j < len→m' (f j)=some (.row (S j) ty' mm (L j) 0):=by
  intro i
  induction i with
  | zero =>
    intro _;refine⟨m,.refl _ _,?_,λj _ hj=>(hf j hj).1⟩;rw [hK];simp
  | succ i ih =>
    intro hil;obtain⟨m',h1,h2,h3⟩:=ih (by omega);have hn:=(hf i (by omega)).2;refine⟨_,h1.trans (Frz.elPub (j:=i) h2 (h3 i (Nat.le_refl _) (by omega)) hn (by simp [List.getElem?_map,List.getElem?_range (show i < len by omega)])),?_,λj hj hjl=>?_⟩
    ·rw [Zja];congr 2;refine List.ext_getElem? λj=>?_;by_cases hj:j < len
     ·by_cases hij:j=i
      ·subst hij;rw [List.getElem?_set_self (by simp;omega)];simp [List.getElem?_map,List.getElem?_range hj]
      ·rw [List.getElem?_set_ne (Ne.symm hij)];simp only [List.getElem?_map,List.getElem?_range hj,Option.map_some];have:(j < i)↔(j < i+1):=by omega
       simp only [this]
     ·rw [List.getElem?_eq_none (by simp;omega),List.getElem?_eq_none (by simp;omega)]
    ·rw [Zfq (hf j hjl).2,Zfq (λh=>by have:=hi j i hjl (by omega) h;omega)];exact h3 j (by omega) hjl
 obtain⟨m',h1,h2,_⟩:=key len (Nat.le_refl _);have e1:((List.range len).map λj=>if j < len then AV.sl mm (L j) else .own (f j) (S j))=(List.range len).map λj=>.sl mm (L j):=List.map_congr_left λj hj=>if_pos (List.mem_range.1 hj);rw [e1] at h2;exact⟨_,h1.trans (Frz.own he h2)⟩
end
end Go.Pg
namespace Go.Proofs.YtpkcophcldjboaaGreatDoor
open Go Go.RowKit Go.Pg Go.Pol Go.Proofs.Tryz
attribute [-bool_to_prop] Bool.and_eq_decide Bool.or_eq_decide Bool.decide_beq_decide decide_eq_decide
attribute [local go_sem] underlying3 underlying4 underlying128 underlying50 underlying52 underlying54 underlying39 underlying55 underlying57 underlying26 underlying27 sz3 by3 z3 szB zB Zas zRat Zay zInt Zax zNat Zah Zan Zai Bool.and_self Zal Za7 zSlQ szQT byQT zQT Za9 zSlT szQP zQP underlying81 underlying29 szFr byFr zFr Zb6 Zca zSQP
theorem Zwn {α:Type} (f:Nat→α) {n k:Nat} (x:α) (h:k < n):((List.range n).map f).set k x=(List.range n).map λj=>if j=k then x else f j:=by
 refine List.ext_getElem? λj=>?_;by_cases hj:j < n
 ·by_cases hjk:j=k
  ·subst hjk;rw [List.getElem?_set_self (by simp;omega)];simp [List.getElem?_map,List.getElem?_range hj]
  ·rw [List.getElem?_set_ne (Ne.symm hjk)];simp [List.getElem?_map,List.getElem?_range hj,hjk]
 ·rw [List.getElem?_eq_none (by simp;omega),List.getElem?_eq_none (by simp;omega)]
theorem Zt9 {α:Type} (f:Nat→α) (n:Nat):(List.range (n+1)).map f=(List.range n).map f++[f n]:=by rw [List.range_succ,List.map_append];rfl
structure PtM (m:Mem) (sv:Value) (S:Nat→Value) (L:Nat→List AV) (len:Nat):Prop where
 top:m 12=some (.row sv 27 1 ((List.range len).map λj=>.own (2000+j) (S j)) 0)
 el:∀j,j < len→m (2000+j)=some (.row (S j) 57 4 (L j) 0)
theorem PtM.upd {m:Mem} {sv:Value} {S:Nat→Value} {L:Nat→List AV} {len k:Nat} {x:Option Ent} (h:PtM m sv S L len) (hk:k≠12) (hk2:k < 2000):PtM (upd m k x) sv S L len :=
 ⟨by rw [Zfq (Ne.symm hk)];exact h.top,λj hj=>by rw [Zfq (by omega)];exact h.el j hj⟩
theorem Zx4 {P:Program} {n:Nat} {K:St→Prop} {st:St} (h:K st):Zjm P n [] K st:=h
theorem exSplit (a:QTs) (q:Qt) {n:Nat} (hl:a.length≤100000) (hq:∀t∈a,t.2.length≤n) (hn:n≤100000):Pure prog 115 [qpA a,q.av] (.sl 1 ((List.range (moQ q a+1)).map λk=>qpA (woL q a k))):=by
 have hpm:(a.map qtA).length=a.length:=List.length_map ..;have gp:∀i (h:i < a.length),(a.map qtA).getD i .u=qtA a[i]:=λi h=>Zat qtA h;have hmo:∀i,moQ q (a.take i)≤n:=λi=>mo_le λt ht=>hq t (List.mem_of_mem_take ht);have hwl:∀i k,((woL q (a.take i) k).map qtA).length≤100000:=λi k=>by
  rw [List.length_map];have:=Zve q (a.take i) k;rw [List.length_take] at this;omega
 have hfull:a.take a.length=a:=List.take_length;obtain⟨q1,q2,q3,q4⟩:=q;generalize hQ:(⟨q1,q2,q3,q4⟩:Qt)=q at *;show Pure _ _ [.sl 4 (a.map qtA),q.av] (.sl 1 ((List.range (moQ q a+1)).map λk=>.sl 4 ((woL q a k).map qtA)));generalize a.map qtA=A at *;have hqv:q.av=.agg [iv q1,iv q2,iv q3,iv q4]:=by rw [←hQ]
 rw [hqv];refine Zaa (tok:=0) func115 rfl ntmps115 results115 call115 (by rfl) (by simp) ?_;(focus (refine wkad w_t w_t w_t ?_;(repeat' first|exact w_t|apply w_l);all_goals intros));rename_i g3 s12;refine Zgr (Frz.elNil (K:=12) (j:=0) 2000 4 57 (by exact gC) (by omega) (by rfl)) ?_;refine r_loopZ ?_;refine Zae (ι:=Nat) (λi e m=>i≤a.length∧(e 3=.pbox 3 g3 0∧m 3=some (.box g3 39 [iv q1,iv q2,iv q3,iv q4] false))∧(e 13=.sl 4 A∧e 14=iv a.length∧e 15=iv i)∧∃sv S,e 5=.own 12 sv∧PtM m sv S (λk=>(woL q (a.take i) k).map qtA) (moQ q (a.take i)+1)) (λi=>a.length - i) 0 (by rfl) ?_ ?_
 ·rintro i e m ⟨hi,⟨e3,m3⟩,⟨e13,e14,e15⟩,sv,S,e5,hM⟩
  by_cases hlt:i < a.length
  ·have gpi:=gp i hlt;have hql:a[i].2.length≤n:=hq _ (List.getElem_mem hlt);have hmi:=hmo i;have hsn:a.take (i+1)=a.take i++[a[i]]:=by rw [List.take_succ_eq_append_getElem hlt]
   have hm2:moQ q (a.take (i+1))=max (moQ q (a.take i)) (tmQ q a[i].2):=by rw [hsn,Zxp]
   have hw2:∀k,woL q (a.take (i+1)) k=if tmQ q a[i].2=k then woL q (a.take i) k++[(a[i].1,woQ q a[i].2)] else woL q (a.take i) k:=λk=>by rw [hsn,wo_snoc]
   have habv:∀k,moQ q (a.take i) < k→woL q (a.take i) k=[]:=λk h=>wo_above h;have hwl:=hwl i;clear gp hq hmo hsn;generalize woL q (a.take i)=W at *;generalize moQ q (a.take i)=mo at *;generalize a[i]=u at *;obtain⟨u1,u2⟩:=u;simp only at hql hm2 hw2;have gpi:A.getD i .u=.agg [.v (.bool (decide (u1.num < 0))),lim (toL u1.num.natAbs),lim (toL u1.den),.sl 4 (u2.map Qt.av)]:=gpi;have hqt:[(u1,woQ q u2)].map qtA=[.agg [.v (.bool (decide (u1.num < 0))),lim (toL u1.num.natAbs),lim (toL u1.den),.sl 4 ((woQ q u2).map Qt.av)]]:=rfl;have hum:(u2.map Qt.av).length=u2.length:=List.length_map ..;have gu:∀k (h:k < u2.length),(u2.map Qt.av).getD k .u=Qt.av u2[k]:=λk h=>Zat Qt.av h
   generalize toL u1.num.natAbs=un at *;generalize toL u1.den=ud at *;generalize decide (u1.num < 0)=us at *;generalize u2.map Qt.av=UQ at *;(focus (refine wkad (w_8 e3 m3 e13 e14 e15 e5 hpm gpi) w_t w_t ?_;(repeat' first|exact w_t|apply w_l);all_goals intros));rename_i g7;refine Zgr (Frz.nilOwn (d:=8) 500 4 39 (by exact gC)) ?_;refine Zae (ι:=Nat) (λk e m=>k≤u2.length∧(e 3=.pbox 3 g3 0∧m 3=some (.box g3 39 [iv q1,iv q2,iv q3,iv q4] false))∧(e 13=.sl 4 A∧e 14=iv a.length∧e 15=iv i∧e 5=.own 12 sv)∧(e 7=.pbox 7 g7 0∧m 7=some (.box g7 57 [.v (.bool us),lim un,lim ud,.sl 4 UQ] false))∧(e 20=.sl 4 UQ∧e 21=iv u2.length∧e 22=iv k)∧(∃s8,e 8=.own 500 s8∧m 500=some (.row s8 39 4 ((woQ q (u2.take k)).map Qt.av) 0))∧PtM m sv S (λk=>(W k).map qtA) (mo+1)) (λk=>u2.length - k) 0 (by rfl) ?_ ?_
   ·clear e3 m3 e13 e14 e15 e5 hM
    rintro k e m ⟨hk,⟨e3,m3⟩,⟨e13,e14,e15,e5⟩,⟨e7,m7⟩,⟨e20,e21,e22⟩,⟨s8,e8,m8⟩,hM⟩
    by_cases hkl:k < u2.length
    ·have guk:=gu k hkl
     have hwk:(woQ q (u2.take k)).length≤100000:=by
      have:=Zvn q (u2.take k);rw [List.length_take] at this;omega
     have hwm:((woQ q (u2.take k)).map Qt.av).length≤100000:=by rw [List.length_map];exact hwk
     have hts:u2.take (k+1)=u2.take k++[u2[k]]:=by rw [List.take_succ_eq_append_getElem hkl]
     by_cases hx:u2[k]=q
     ·have hnx:(woQ q (u2.take (k+1))).map Qt.av=(woQ q (u2.take k)).map Qt.av:=by rw [hts,woQ_n _ hx]
      rw [hx,hqv] at guk;clear gu hts;generalize (woQ q (u2.take k)).map Qt.av=R at *;(focus (refine wkad (w_15 e3 m3 e13 e14 e15 e5 e7 m7 e20 e21 e22 e8 m8 hum guk) w_t w_t ?_;(repeat' first|exact w_t|apply w_l);all_goals intros));exact⟨k+1,⟨by omega,⟨by exact gW e3,by exact gW m3⟩,⟨by exact gW e13,by exact gW e14,by exact gW e15,by exact gW e5⟩,⟨by exact gW e7,by exact gW m7⟩,⟨by exact gW e20,by exact gW e21,by exact gS⟩,⟨s8,by exact gW e8,by rw [hnx];exact gW m8⟩,by(repeat' first|exact hM|refine PtM.upd ?_ (by decide) (by decide))⟩,by omega⟩
     ·have hnx:woQ q (u2.take (k+1))=woQ q (u2.take k)++[u2[k]]:=by rw [hts,woQ_y _ hx]
      have hmp:(woQ q (u2.take (k+1))).map Qt.av=(woQ q (u2.take k)).map Qt.av++[Qt.av u2[k]]:=by rw [hnx,List.map_append];rfl
      clear gu hts hnx;generalize (woQ q (u2.take k)).map Qt.av=R at *;generalize u2[k]=x at *;obtain⟨x1,x2,x3,x4⟩:=x;have hx:¬(x1=q1∧x2=q2∧x3=q3∧x4=q4):=λh=>hx (by rw [←hQ];obtain⟨rfl,rfl,rfl,rfl⟩:=h;rfl);(focus (refine wkad (w_15 e3 m3 e13 e14 e15 e5 e7 m7 e20 e21 e22 e8 m8 hum guk) w_t w_t ?_;(repeat' first|exact w_t|apply w_l);all_goals intros));all_goals exact⟨k+1,⟨by omega,⟨by exact gW e3,by exact gW m3⟩,⟨by exact gW e13,by exact gW e14,by exact gW e15,by exact gW e5⟩,⟨by exact gW e7,by exact gW m7⟩,⟨by exact gW e20,by exact gW e21,by exact gS⟩,⟨_,by exact gC,by rw [hmp];exact gC⟩,by(repeat' first|exact hM|refine PtM.upd ?_ (by decide) (by decide))⟩,by omega⟩
    ·have hku:k=u2.length:=by omega
     subst hku;rw [List.take_length] at m8;have htw:=Zvn q u2;have hRm:((woQ q u2).map Qt.av).length=(woQ q u2).length:=List.length_map ..;have hn1:(u2.length:Int) - ((woQ q u2).length:Int)=(tmQ q u2:Int):=by omega
     have hn2:(tmQ q u2:Int)≤n:=by omega
     generalize (woQ q u2).map Qt.av=R at *;generalize (woQ q u2).length=rl at *;generalize tmQ q u2=tn at *;(focus (refine wkad (w_16 e3 m3 e13 e14 e15 e5 e7 m7 e20 e21 e22 e8 m8 hum hRm hn1) w_t w_t ?_;(repeat' first|exact w_t|apply w_l);all_goals intros));refine Zwp (ι:=Nat) (λj e m=>(mo+1≤j∧j≤max mo tn+1)∧(e 3=.pbox 3 g3 0∧m 3=some (.box g3 39 [iv q1,iv q2,iv q3,iv q4] false))∧(e 13=.sl 4 A∧e 14=iv a.length∧e 15=iv i)∧(e 7=.pbox 7 g7 0∧m 7=some (.box g7 57 [.v (.bool us),lim un,lim ud,.sl 4 UQ] false))∧(e 8=.own 500 s8∧m 500=some (.row s8 39 4 R 0))∧e 11=iv tn∧∃sv S,e 5=.own 12 sv∧PtM m sv S (λk=>(W k).map qtA) j) (λj=>max mo tn+1 - j) (mo+1) (by rfl) ?_ ?_
     ·clear e3 m3 e13 e14 e15 e5 hM e7 m7 e8 m8 e20 e21 e22
      rintro j e m ⟨⟨hj1,hj2⟩,⟨e3,m3⟩,⟨e13,e14,e15⟩,⟨e7,m7⟩,⟨e8,m8⟩,e11,sv,S,e5,hM⟩
      have hlE:((List.range j).map λk=>AV.own (2000+k) (S k)).length=j:=by rw [List.length_map,List.length_range]
      by_cases hjt:j≤tn
      ·obtain⟨top,el⟩:=hM;have hjt':(j:Int)≤(tn:Int):=by omega
       have hW:=habv j (by omega);have n3:¬3=2000+j:=by omega
       have n7:¬7=2000+j:=by omega
       have n5:¬500=2000+j:=by omega
       have hset:∀x y:AV,(((List.range j).map λk=>AV.own (2000+k) (S k))++[x]).set j y=((List.range j).map λk=>AV.own (2000+k) (S k))++[y]:=λx y=>by
        rw [List.set_append_right _ _ (by omega),hlE,Nat.sub_self];rfl
       have hnw:(List.range (j+1)).map (λk=>AV.own (2000+k) (if k=j then .slice none 0 0 else S k))=((List.range j).map λk=>AV.own (2000+k) (S k))++[.own (2000+j) (.slice none 0 0)]:=by
        rw [Zt9,if_pos rfl];congr 1;exact List.map_congr_left λk hk=>by rw [if_neg (by have:=List.mem_range.1 hk;omega)]
       generalize (List.range j).map (λk=>AV.own (2000+k) (S k))=E at *;(focus (refine wkad (w_14 e3 m3 e13 e14 e15 e7 m7 e8 m8 e11 e5 top hlE hjt') w_t w_t ?_;(repeat' first|exact w_t|apply w_l);all_goals intros));refine⟨j+1,_,Frz.elNil (K:=12) (j:=j) (2000+j) 4 57 (by exact gC) (by omega) (by rw [List.getElem?_append_right (by omega),hlE,Nat.sub_self];rfl),⟨⟨by omega,by omega⟩,⟨by exact gW e3,by exact gW (And.intro m3 n3)⟩,⟨by exact gW e13,by exact gW e14,by exact gW e15⟩,⟨by exact gW e7,by exact gW (And.intro m7 n7)⟩,⟨by exact gW e8,by exact gW (And.intro m8 n5)⟩,by exact gW e11,_,(λk=>if k=j then .slice none 0 0 else S k),by exact gC,⟨?_,λk hk=>?_⟩⟩,by omega⟩
       ·dsimp only;rw [Zja,hset,←hnw]
       ·by_cases hkj:k=j
        ·subst hkj;dsimp only;rw [Zfq (by omega),Zja,if_pos rfl,hW];rfl
        ·rw [if_neg hkj];simp (disch:=omega) only [Zfq,marks];exact el k (by omega)
      ·have hjt':¬(j:Int)≤(tn:Int):=by omega
       have hjm:j=max mo tn+1:=by omega
       have hM2:=hM.top;(focus (refine wkax (w_14 e3 m3 e13 e14 e15 e7 m7 e8 m8 e11 e5 hM2 hlE hjt') w_t w_t w_t w_t w_t w_t (w_r 0) ?_;(repeat' first|exact w_t|apply w_l);all_goals intros));refine r_frzD (Frz.own (d:=8) (k:=500) (sv:=s8) (ty:=39) (mm:=4) (es:=R) (pub:=0) (by exact gW e8) (by exact m8)) ?_;have hM:PtM (Go.Pg.mark m 500) sv S (λk=>(W k).map qtA) j:=hM.upd (by omega) (by omega);obtain⟨top,el⟩:=hM;have etn:=el tn (by omega)
       have hgE:((List.range j).map λk=>AV.own (2000+k) (S k)).getD tn .u=.own (2000+tn) (S tn):=by
        rw [List.getD_eq_getElem?_getD,List.getElem?_map,List.getElem?_range (by omega)];rfl
       have hwt:=hwl tn;have hset:=λx:AV=>Zwn (λk=>AV.own (2000+k) (S k)) (n:=j) x (show tn < j by omega);have w7:Go.Pg.mark m 500 7=some (.box g7 57 [.v (.bool us),lim un,lim ud,.sl 4 UQ] false):=by show Go.Pg.upd m 500 _ 7=_;rw [Zfq (by omega)];exact m7
       have w3:Go.Pg.mark m 500 3=some (.box g3 39 [iv q1,iv q2,iv q3,iv q4] false):=by show Go.Pg.upd m 500 _ 3=_;rw [Zfq (by omega)];exact m3
       have htj:(tn:Int) < (j:Int):=by omega
       have htj2:tn < j:=by omega
       obtain⟨kn,hkn⟩:∃kn,kn=2000+tn:=⟨_,rfl⟩;rw [←hkn] at etn hgE;have b3:(3 == kn)=false:=by rw [beq_eq_false_iff_ne];omega
       have b7:(7 == kn)=false:=by rw [beq_eq_false_iff_ne];omega
       have b12:(12 == kn)=false:=by rw [beq_eq_false_iff_ne];omega
       have n3:¬3=kn:=by omega
       have n7:¬7=kn:=by omega
       have n12:¬12=kn:=by omega
       have n12':¬kn=12:=by omega
       have hWn:∀k,(woL q (a.take (i+1)) k).map qtA=if tn=k then (W k).map qtA++[.agg [.v (.bool us),lim un,lim ud,.sl 4 R]] else (W k).map qtA:=λk=>by
        rw [hw2];by_cases h:tn=k
        ·rw [if_pos h,if_pos h,List.map_append,hqt]
        ·rw [if_neg h,if_neg h]
       generalize Go.Pg.mark m 500=m1 at *;clear m3 m7 m8 hM2 hw2;generalize hLT:(W tn).map qtA=LT at *;generalize (List.range j).map (λk=>AV.own (2000+k) (S k))=E at *;refine Zmt 13 (Zd3 [(10,.sl 4 [.agg [.v (.bool us),lim un,lim ud,.sl 4 R]])]) [11,1011] [kn] (by simp only [List.take_succ_cons,List.take_zero];rfl) (by simp only [List.drop_succ_cons,List.drop_zero];rfl) (by kernel_rfl) (by rfl) (by kernel_rfl) (by kernel_rfl) (by simp only [List.length_cons,List.length_nil,Nat.reduceAdd];rfl) ?_;(focus (refine wkax (w_22 e3 w3 e13 e14 e15 e7 w7 e11 e5 top hlE hgE etn b3 b7 b12 n12 n12' n3 n7 hwt htj) w_t w_t w_t w_t w_t w_t (w_r 0) ?_;(repeat' first|exact w_t|apply w_l);all_goals intros))
       rename_i svn;intro hrel;have h1:=own_one (d:=58) (k:=kn) (sv:=svn) (by exact gC) hrel;unfold Value.oneCell' at h1;refine⟨_,Frz.slotV (d:=58) (k:=kn) (by exact gC),?_⟩;(focus (refine wkax (w_17 h1 e3 w3 e13 e14 e15 e7 w7 e11 e5 top hlE n12 n12' n3 n7 htj) w_t w_t w_t w_t w_t w_t (w_r 0) ?_;(repeat' first|exact w_t|apply w_l);all_goals intros));refine⟨_,Frz.elOwn (K:=12) (k:=kn) (j:=tn) (by exact gW n12) (by exact gW n12') (by rw [List.getElem?_set_self (by omega)]),?_⟩;refine Zx4 ?_;(focus (refine wkax (w_13 e3 w3 e13 e14 e15 e7 w7 e11 e5 n12 n12' n3 n7) w_t w_t w_t w_t w_t w_t (w_r 0) ?_;(repeat' first|exact w_t|apply w_l);all_goals intros))
       refine⟨i+1,⟨by omega,⟨by exact gW e3,by exact gW (And.intro w3 n3)⟩,⟨by exact gW e13,by exact gW e14,by exact gS⟩,_,(λk=>if k=tn then svn else S k),by exact gW e5,⟨?_,λk hk=>?_⟩⟩,by omega⟩
       ·dsimp only;rw [Zja,List.set_set,hset,hm2,←hjm];congr 2;refine List.map_congr_left λk hk=>?_;by_cases h:k=tn
        ·rw [if_pos h,if_pos h,hkn,h]
        ·rw [if_neg h,if_neg h]
       ·dsimp only;by_cases h:k=tn
        ·subst h;rw [←hkn,if_pos rfl,hWn,if_pos rfl,hLT];simp (disch:=omega) only [Zfq,Zja,marks]
        ·rw [if_neg h,hWn,if_neg (λh2=>h h2.symm)];simp (disch:=omega) only [Zfq,marks];exact el k (by omega)
     ·exact⟨⟨Nat.le_refl _,by omega⟩,⟨by exact gW e3,by exact gW m3⟩,⟨by exact gW e13,by exact gW e14,by exact gW e15⟩,⟨by exact gW e7,by exact gW m7⟩,⟨by exact gW e8,by exact gW m8⟩,by exact gC,_,_,by exact gW e5,by(repeat' first|exact hM|refine PtM.upd ?_ (by decide) (by decide))⟩
   ·exact⟨Nat.zero_le _,⟨by exact gW e3,by exact gW m3⟩,⟨by exact gW e13,by exact gW e14,by exact gW e15,by exact gW e5⟩,⟨by exact gC,by exact gC⟩,⟨by exact gC,by exact gW hum,by exact gC⟩,⟨_,by exact gC,by exact gC⟩,by(repeat' first|exact hM|refine PtM.upd ?_ (by decide) (by decide))⟩
  ·have hia:i=a.length:=by omega
   subst hia;rw [hfull] at hM;have hM2:=hM.top;(focus (refine wkad (w_8 e3 m3 e13 e14 e15 e5 hM2 hpm) w_t w_t ?_;(repeat' first|exact w_t|apply w_l);all_goals intros));refine Exists.elim (Frz.elsPub (K:=12) (d:=5) (mm:=4) (λj=>2000+j) S _ hM2 (λj hj=>⟨hM.el j hj,by omega⟩) (λi j _ _ h=>by omega) (by exact gW e5)) λm' hF=>⟨_,hF,?_⟩;(focus (refine wkad (w_8 e3 m3 e13 e14 e15 e5 hM2 hpm) w_t w_t ?_;(repeat' first|exact w_t|apply w_l);all_goals intros));all_goals exact gL
 ·refine⟨Nat.zero_le _,⟨by exact gC,by exact gC⟩,⟨by exact gC,by exact gW hpm,by exact gC⟩,s12,(λ_=>.slice none 0 0),by exact gC,⟨?_,λj hj=>?_⟩⟩
  ·rw [Zja];rfl
  ·have hj0:j=0:=by
    have:moQ q (a.take 0)=0:=rfl;omega
   subst hj0;rw [Zfq (by decide),Zja];rfl
end Go.Proofs.YtpkcophcldjboaaGreatDoor
namespace Go.Proofs.YtpkcophcldjboaaGreatDoor
open Go Go.RowKit Go.Pg Go.Pol Go.Proofs.Tryz
structure XN (p:QTs) (D B n:Nat):Prop where
 ex:EX p
 q:∀t∈p,t.2.length≤n
 nb:NB D B p
theorem XN.mono {p:QTs} {D B n E C m:Nat} (h:XN p D B n) (hd:D ∣ E) (hb:B≤C) (hn:n≤m):XN p E C m:=⟨h.ex,λt ht=>Nat.le_trans (h.q t ht) hn,h.nb.mono hd hb⟩
theorem XN.mul {p q:QTs} {D B n E C m:Nat} (h:XN p D B n) (g:XN q E C m):XN (mulX p q) (D*E) (B*C) (n+m) :=
 ⟨Zbe rgQ h.ex g.ex,Zj1 (Zkn h.q g.q),(h.nb.prodL g.nb).sumG⟩
theorem XN.add {p q:QTs} {D B n C m:Nat} (h:XN p D B n) (g:XN q D C m):XN (Za6 p q) D (B+C) (max n m):=by
 refine⟨Zgh Zbk h.ex g.ex,λt ht=>?_,h.nb.addP g.nb⟩;rcases Zgx ht with h1 | h1 | ⟨s,hs,u,hu,rfl⟩
 ·have:=h.q t h1;omega
 ·have:=g.q t h1;omega
 ·have:=h.q s hs;show s.2.length≤_;omega
theorem XN.xb {p:QTs} {D B n k:Nat} (h:XN p D B n) (h0:D≠0) (hd:D < 65536 ^ k) (hb:B < 65536 ^ k):XB p k n:=⟨h.ex,h.q,D,B,h0,hd,hb,h.nb⟩
theorem XN.nil (D:Nat):XN [] D 0 0:=⟨Zli.1,λt ht=>(by cases ht),NB.nil D 0⟩
theorem XN.one:XN [((1:Rat),[])] 1 1 0:=⟨Zrn.1,λt ht=>by rw [List.mem_singleton.1 ht];exact Nat.le_refl _,λt ht=>by rw [List.mem_singleton.1 ht];decide +kernel,by decide +kernel⟩
theorem XN.pw {d:QTs} {E C n:Nat} (h:XN d E C n):∀i,XN (pwX d i) (E ^ i) (C ^ i) (i*n)
 | 0=>by rw [Nat.pow_zero,Nat.pow_zero,Nat.zero_mul];exact XN.one
 | i+1=>by rw [Nat.pow_succ,Nat.pow_succ,Nat.succ_mul];exact(h.pw i).mul h
theorem XN.part {a:QTs} {D B n:Nat} (h:XN a D B n) (q:Qt) (k:Nat):XN (paQ q a k) D B n :=
 ⟨Zgo Zbk (Zro h.ex.dom q k),Zj1 (Zpt h.q q k),NB.sumG ⟨λt ht=>by obtain⟨u,hu,rfl⟩:=Zjf ht;exact h.nb.1 u hu,Nat.le_trans (n1_wo q k a) h.nb.2⟩⟩
section
variable {P:Nat→QTs} {a d:QTs} {D B E C np nb:Nat}
theorem XN.hn (hP:∀k,XN (P k) D B np) (ha:XN a E C nb) (hd:XN d E C nb) (hC:1≤C) (m:Nat):∀i,XN (hnX P a d m i) (D*E ^ i) (i*(B*C ^ i)) (np+i*nb)
 | 0=>by rw [Nat.zero_mul,Nat.zero_mul];exact(XN.nil _).mono (Nat.dvd_refl _) (Nat.le_refl _) (Nat.zero_le _)
 | i+1=>by
   have h1:=(XN.hn hP ha hd hC m i).mul ha;have h2:=(hP (m - i)).mul (hd.pw i);have e1:D*E ^ (i+1)=D*E ^ i*E:=by rw [Nat.pow_succ,Nat.mul_assoc]
   have e2:(i+1)*(B*C ^ (i+1))=i*(B*C ^ i)*C+B*C ^ i*C:=by rw [Nat.pow_succ];grind
   have h3:=XN.add h1 (h2.mono (E:=D*E ^ i*E) (Nat.dvd_mul_right _ _) (Nat.le_refl _) (Nat.le_refl _));rw [e1,e2];exact h3.mono (Nat.dvd_refl _) (Nat.add_le_add_left (Nat.le_mul_of_pos_right _ hC) _) (by rw [Nat.succ_mul];exact Nat.max_le.2 ⟨by omega,by omega⟩)
theorem XN.rf (hP:∀k,XN (P k) D B np) (ha:XN a E C nb) (hd:XN d E C nb) (m:Nat):∀i,i≤m+1→XN (rfX P a d m i) (D*E ^ m) (i*(B*C ^ m)) (np+m*nb)
 | 0,_=>by rw [Nat.zero_mul];exact(XN.nil _).mono (Nat.dvd_refl _) (Nat.le_refl _) (Nat.zero_le _)
 | i+1,hi=>by
   have h1:=XN.rf hP ha hd m i (by omega);have h2:=((hP i).mul (ha.pw i)).mul (hd.pw (m - i));have e1:D*E ^ i*E ^ (m - i)=D*E ^ m:=by rw [Nat.mul_assoc,←Nat.pow_add];congr 2;omega
   have e2:B*C ^ i*C ^ (m - i)=B*C ^ m:=by rw [Nat.mul_assoc,←Nat.pow_add];congr 2;omega
   have e3:np+i*nb+(m - i)*nb=np+m*nb:=by rw [Nat.add_assoc,←Nat.add_mul];congr 2;omega
   rw [e1,e2,e3] at h2;have h3:=h1.add h2;rw [Nat.succ_mul];exact h3.mono (Nat.dvd_refl _) (Nat.le_refl _) (by omega)
end
theorem two_xn {a d:QTs} {k n:Nat} (ha:XB a k n) (hd:XB d k n):∃E C,E≠0∧1≤C∧E < 65536 ^ (2*k)∧C < 65536 ^ k∧XN a E C n∧XN d E C n:=by
 obtain⟨a1,b1,D1,B1,c1,d1,e1,f1⟩:=ha;obtain⟨a2,b2,D2,B2,c2,d2,e2,f2⟩:=hd;have hk:k≠0:=λh=>by rw [h,Nat.pow_zero] at d1;omega
 have hp:65536≤65536 ^ k:=Nat.le_self_pow hk _;refine⟨D1*D2,max 1 (max B1 B2),Nat.mul_ne_zero c1 c2,by omega,?_,by omega,⟨a1,b1,f1.mono (Nat.dvd_mul_right ..) (by omega)⟩,⟨a2,b2,f2.mono (Nat.dvd_mul_left ..) (by omega)⟩⟩;rw [Nat.two_mul,Nat.pow_add];exact Nat.mul_lt_mul_of_lt_of_lt d1 d2
theorem Zwv {E k:Nat} (h:E < 65536 ^ k) (i:Nat):E ^ i≤65536 ^ (i*k):=by
 rw [Nat.mul_comm,Nat.pow_mul];exact Nat.pow_le_pow_left (Nat.le_of_lt h) i
theorem Zxu {B C k j i m:Nat} (hB:B < 65536 ^ k) (hC:C < 65536 ^ j) (hi:i≤65536):i*(B*C ^ m) < 65536 ^ (k+1+m*(2*j)):=by
 have h1:C ^ m≤65536 ^ (m*(2*j)):=Nat.le_trans (Zwv hC m) (Nat.pow_le_pow_right (by decide) (Nat.mul_le_mul_left _ (by omega)));have h0:0 < 65536 ^ (m*(2*j)):=Nat.pow_pos (by decide);have h2:B*C ^ m < 65536 ^ k*65536 ^ (m*(2*j)):=Nat.lt_of_le_of_lt (Nat.mul_le_mul_left _ h1) (Nat.mul_lt_mul_of_pos_right hB h0);have e:65536 ^ (k+1+m*(2*j))=65536*(65536 ^ k*65536 ^ (m*(2*j))):=by rw [Nat.pow_add,Nat.pow_succ];grind
 rw [e];rcases Nat.eq_zero_or_pos i with rfl | h3
 ·rw [Nat.zero_mul];exact Nat.mul_pos (by decide) (Nat.mul_pos (Nat.pow_pos (by decide)) h0)
 ·exact Nat.lt_of_lt_of_le ((Nat.mul_lt_mul_left h3).2 h2) (Nat.mul_le_mul_right _ hi)
theorem Zxv {D E k j m:Nat} (hD:D < 65536 ^ k) (hE:E < 65536 ^ (2*j)):D*E ^ m < 65536 ^ (k+1+m*(2*j)):=by
 have h1:E ^ m≤65536 ^ (m*(2*j)):=Zwv hE m;have h0:0 < 65536 ^ (m*(2*j)):=Nat.pow_pos (by decide);have h2:D*E ^ m < 65536 ^ k*65536 ^ (m*(2*j)):=Nat.lt_of_le_of_lt (Nat.mul_le_mul_left _ h1) (Nat.mul_lt_mul_of_pos_right hD h0);rw [←Nat.pow_add] at h2;exact Nat.lt_of_lt_of_le h2 (Nat.pow_le_pow_right (by decide) (by omega))
theorem hn_xb {a num den:QTs} {ka kb na nb:Nat} (ha:XB a ka na) (hu:XB num kb nb) (hd:XB den kb nb) (q:Qt) (m i:Nat) (hi:i≤65536):XB (hnX (paQ q a) num den m i) (ka+1+i*(2*kb)) (na+i*nb):=by
 obtain⟨E,C,e0,c0,e1,c1,g1,g2⟩:=two_xn hu hd;obtain⟨a1,b1,D,B,d0,d1,d2,d3⟩:=ha;have g:XN a D B na:=⟨a1,b1,d3⟩;exact(XN.hn (λk=>g.part q k) g1 g2 c0 m i).xb (Nat.mul_ne_zero d0 (Nat.ne_of_gt (Nat.pow_pos (Nat.pos_of_ne_zero e0)))) (Zxv d1 e1) (Zxu d2 c1 hi)
theorem rf_xb {a num den:QTs} {ka kb na nb:Nat} (ha:XB a ka na) (hu:XB num kb nb) (hd:XB den kb nb) (q:Qt) (m i:Nat) (hm:m < 65536) (hi:i≤m+1):XB (rfX (paQ q a) num den m i) (ka+1+m*(2*kb)) (na+m*nb):=by
 obtain⟨E,C,e0,c0,e1,c1,g1,g2⟩:=two_xn hu hd;obtain⟨a1,b1,D,B,d0,d1,d2,d3⟩:=ha;have g:XN a D B na:=⟨a1,b1,d3⟩;exact(XN.rf (λk=>g.part q k) g1 g2 m i hi).xb (Nat.mul_ne_zero d0 (Nat.ne_of_gt (Nat.pow_pos (Nat.pos_of_ne_zero e0)))) (Zxv d1 e1) (Zxu d2 c1 (by omega))
theorem hn_len2 {P:Nat→QTs} {a d:QTs} {LP L:Nat} (hP:∀k,(P k).length≤LP) (ha:a.length≤L) (hd:d.length≤L) (hL:1≤L) (m i M:Nat) (hi:i≤M):(hnX P a d m i).length≤M*LP*L ^ M :=
 Nat.le_trans (hn_len hP ha hd hL m i) (Nat.mul_le_mul (Nat.mul_le_mul_right _ hi) (Nat.pow_le_pow_right hL hi))
end Go.Proofs.YtpkcophcldjboaaGreatDoor
namespace Go.Proofs.YtpkcophcldjboaaGreatDoor
open Go Go.RowKit Go.Pg Go.Pol Go.Proofs.Tryz
attribute [-bool_to_prop] Bool.and_eq_decide Bool.or_eq_decide Bool.decide_beq_decide decide_eq_decide
attribute [local go_sem] underlying3 underlying4 underlying128 underlying50 underlying52 underlying54 underlying39 underlying55 underlying57 underlying26 underlying27 sz3 by3 z3 szB zB Zas zRat Zay zInt Zax zNat Zah Zan Zai Bool.and_self Zal Za7 zSlQ szQT byQT zQT Za9 zSlT szQP zQP underlying81 underlying29 szFr byFr zFr Zb6 Zca zSQP
theorem XB.scl {p:QTs} {k n:Nat} (h:XB p k n) {s:Int} (hs:s=-1∨s=1):XB (sclT (s:Rat) p) k n:=by
 rcases hs with rfl | rfl
 ·exact h.neg
 ·show XB (sclT 1 p) k n;rw [Zke];exact h
theorem ratOfm1:Pure prog 56 [iv (-1)] (ratQ (-1:Rat)):=Zog (z:=-1) (.inl rfl)
theorem Zyr:Pure prog 55 [ratQ (-1:Rat)] (.sl 4 ([((-1:Rat),[])].map qtA)):=by
 have c:=Zrd (-1) sz_m1 (by omega)
 rwa [cst_ok,if_neg (by decide +kernel)] at c
theorem ratOf1':Pure prog 56 [iv 1] (.agg [.v (.bool false),lim [1],lim [1]]):=by rw [←Zsc];exact Zog (z:=1) (.inr (.inr rfl))
theorem Zyn (a num den:QTs) (q:Qt) {ka kb na nb L LA M:Nat} (ha:XB a ka na) (hu:XB num kb nb) (hd:XB den kb nb) (la:a.length≤LA) (hLA:1≤LA∧LA≤100000) (hMM:M≤1000) (hmo:moQ q.norm.1 a≤M) (lu:num.length≤L) (ld:den.length≤L) (h1:1≤L)
 (hq:na+(M+1)*nb≤maxQ) (hL:(M+1)*LA*L ^ (M+1)≤100000000) (hk:ka+(M+1)*(2*kb)+10≤100000) :
 Pure prog 54 [qpA a,q.av,.agg [qpA num,qpA den]] (if q.norm.2=0 then .agg [qpA a,qpA [((1:Rat),[])]] else .agg [qpA (rpN q.norm.1 a (sclT (q.norm.2:Rat) num) den),qpA (rpD q.norm.1 a den)]):=by
 have cn0:=Zsd q.k q.a q.b q.c;have cn:Pure prog 33 [q.av] (.tup [q.norm.1.av,iv q.norm.2]):=cn0;clear cn0;have hs:=Zh2 q;have c1:=ratOf1';have cc:=awConst1
 have o1:qpA [((1:Rat),[])]=.sl 4 [.agg [.v (.bool false),lim [1],lim [1],.sl 4 []]]:=by
  show AV.sl 4 [qtA ((1:Rat),[])]=_;rw [Ziz];rfl
 obtain⟨q1,q2,q3,q4⟩:=q;generalize hN:Qt.norm ⟨q1,q2,q3,q4⟩=nn at *;obtain⟨n,s⟩:=nn;simp only at hs cn ⊢;by_cases hs0:s=0
 ·subst hs0;rw [if_pos rfl,o1];show Pure _ _ [.sl 4 (a.map qtA),.agg [iv q1,iv q2,iv q3,iv q4],.agg [.sl 4 (num.map qtA),.sl 4 (den.map qtA)]] (.agg [.sl 4 (a.map qtA),.sl 4 [.agg [.v (.bool false),lim [1],lim [1],.sl 4 []]]]);obtain⟨n1,n2,n3,n4⟩:=n;generalize a.map qtA=A at *;generalize num.map qtA=U at *;generalize den.map qtA=D at *;refine Zaa (tok:=0) func54 rfl ntmps54 results54 call54 (by rfl) (by simp) ?_;(focus (refine wkad w_t (w_3 cn c1 cc) w_t ?_;(repeat' first|exact w_t|apply w_l);all_goals intros));all_goals exact gL
 ·rw [if_neg hs0];have hs':s=-1∨s=1:=by rcases hs with h | h | h;exact .inl h;exact absurd h hs0;exact .inr h
  have hv:=hu.scl hs';have lv:(sclT (s:Rat) num).length≤L:=by rw [Zct];exact lu
  obtain⟨mm,hmm⟩:∃mm,mm=moQ n a:=⟨_,rfl⟩;have hm:mm≤M:=by rw [hmm];exact hmo
  have e0:L ^ (M+1)=L ^ M*L:=Nat.pow_succ ..;have p1:∀i,i≤M+1→L ^ i≤L ^ (M+1):=λi hi=>Nat.pow_le_pow_right h1 hi;have p0:∀i,i≤M→L ^ i≤L ^ M:=λi hi=>Nat.pow_le_pow_right h1 hi;have p2:∀i,i≤M+1→i*nb≤(M+1)*nb:=λi hi=>Nat.mul_le_mul_right _ hi;have p3:∀i,i≤M+1→i*kb≤(M+1)*(2*kb):=λi hi=>Nat.mul_le_mul hi (by omega);have r3:∀i,i≤M+1→i*(2*kb)≤(M+1)*(2*kb):=λi hi=>Nat.mul_le_mul_right _ hi;have hM:=Zi1;have b0:(M+1)*LA*L ^ (M+1)≤100000000:=hL;have b1:(M+1)*LA*L ^ (M+1)=M*LA*L ^ (M+1)+LA*L ^ (M+1):=by rw [Nat.succ_mul,Nat.add_mul]
  have b2:L ^ M≤L ^ (M+1):=Nat.pow_le_pow_right h1 (by omega);have b3:L≤L ^ (M+1):=by have h:=p1 1 (by omega);rwa [Nat.pow_one] at h
  have b4:M*LA*L ^ M≤M*LA*L ^ (M+1):=Nat.mul_le_mul_left _ b2;have b6':L ^ (M+1)≤LA*L ^ (M+1):=Nat.le_mul_of_pos_left _ (by omega);have b7':LA*L ^ M≤LA*L ^ (M+1):=Nat.mul_le_mul_left _ b2;have b8:1*(2*kb)≤(M+1)*(2*kb):=Nat.mul_le_mul_right _ (by omega);have b5:nb≤(M+1)*nb:=Nat.le_mul_of_pos_left _ (by omega);have hpa:∀k,XB (paQ n a k) ka na:=λk=>ha.part n k;have hpl:∀k,(paQ n a k).length≤LA:=λk=>Nat.le_trans (pa_len n a k) la;have hpn:=Zwf n (num:=sclT (s:Rat) num) ha.1 hv.1 hd.1;rw [←hpn];show Pure _ _ _ (.agg [.sl 4 ((hnX (paQ n a) (sclT (s:Rat) num) den (moQ n a) (moQ n a+1)).map qtA),.sl 4 ((pwX den (moQ n a)).map qtA)])
  rw [←hmm];have hlen:∀i,i≤mm→(hnX (paQ n a) (sclT (s:Rat) num) den mm i).length≤M*LA*L ^ M:=λi hi=>hn_len2 hpl lv ld h1 mm i M (by omega);have hlp:∀i,i≤mm→(pwX den i).length≤L ^ M:=λi hi=>Nat.le_trans (Zoh ld i) (p0 i (by omega));have hx:∀i,i≤mm→XB (hnX (paQ n a) (sclT (s:Rat) num) den mm i) (ka+1+i*(2*kb)) (na+i*nb):=λi hi=>hn_xb ha hv hd n mm i (by omega);have cX:∀i,i≤mm→Pure prog 40 [.sl 4 ((hnX (paQ n a) (sclT (s:Rat) num) den mm i).map qtA),.sl 4 ((sclT (s:Rat) num).map qtA)] (.sl 4 ((mulX (hnX (paQ n a) (sclT (s:Rat) num) den mm i) (sclT (s:Rat) num)).map qtA)):=λi hi=>by
   have l1:=hlen i hi;have l2:(hnX (paQ n a) (sclT (s:Rat) num) den mm i).length*(sclT (s:Rat) num).length≤M*LA*L ^ M*L:=Nat.mul_le_mul l1 lv;rw [Nat.mul_assoc (M*LA),←e0] at l2;have l3:=p2 i (by omega);have l6:=r3 i (by omega);have l4:i*nb≤M*nb:=Nat.mul_le_mul_right _ (by omega);have l5:(M+1)*nb=M*nb+nb:=Nat.succ_mul ..;exact Zyp _ _ (hx i hi) hv (by omega) (by omega) (by omega) (by omega) (by omega) (by omega)
  have cN:∀k,Pure prog 78 [.sl 4 ((woL n a k).map qtA)] (.sl 4 ((paQ n a k).map qtA)):=λk=>by
   obtain⟨a1,a2,D,C,a3,a4,a5,a6⟩:=ha;exact exNrmG (woL n a k) (D:=D) (C:=C) ⟨λt ht=>by obtain⟨u,hu,rfl⟩:=Zjf ht;exact a6.1 u hu,Nat.le_trans (n1_wo n k a) a6.2⟩ a3 a4 a5 (Zro a1.dom n k) (by have:=Zve n a k;omega) (Zpt a2 n k) (by omega) (by omega)
  have cY:∀i,i≤mm→Pure prog 40 [.sl 4 ((paQ n a (mm - i)).map qtA),.sl 4 ((pwX den i).map qtA)] (.sl 4 ((mulX (paQ n a (mm - i)) (pwX den i)).map qtA)):=λi hi=>by
   have l1:=hlp i hi;have l0:=hpl (mm - i);have l2:(paQ n a (mm - i)).length*(pwX den i).length≤LA*L ^ M:=Nat.mul_le_mul l0 l1;have l3:=p2 i (by omega);have l4:=p3 i (by omega);exact Zyp _ _ (hpa _) (hd.pw i) (by omega) (by omega) (by omega) (by omega) (by omega) (by omega)
  have cA:∀i,i≤mm→Pure prog 82 [.sl 4 ((mulX (hnX (paQ n a) (sclT (s:Rat) num) den mm i) (sclT (s:Rat) num)).map qtA),.sl 4 ((mulX (paQ n a (mm - i)) (pwX den i)).map qtA)] (.sl 4 ((hnX (paQ n a) (sclT (s:Rat) num) den mm (i+1)).map qtA)):=λi hi=>by
   have x1:=(hx i hi).mul hv;have x2:=(hpa (mm - i)).mul (hd.pw i);have l1:=Nat.le_trans (Zds (hnX (paQ n a) (sclT (s:Rat) num) den mm i) (sclT (s:Rat) num)) (Nat.mul_le_mul (hlen i hi) lv);rw [Nat.mul_assoc (M*LA),←e0] at l1;have l7:=r3 (i+1) (by omega);rw [Nat.succ_mul] at l7;have l2:=Nat.le_trans (Zds (paQ n a (mm - i)) (pwX den i)) (Nat.mul_le_mul (hpl (mm - i)) (hlp i hi));have l3:=p2 i (by omega);have l4:=p3 i (by omega);have l5:i*nb≤M*nb:=Nat.mul_le_mul_right _ (by omega);have l6:(M+1)*nb=M*nb+nb:=Nat.succ_mul ..;exact exPlus _ _ (x1.mono (k:=_) (Nat.le_refl _) (show _≤na+(M+1)*nb by omega)).qk (x2.mono (k:=_) (Nat.le_refl _) (show _≤na+(M+1)*nb by omega)).qk x1.nz x2.nz (by omega) (by omega) (by omega) (by omega) (by omega)
  have cD:∀i,i < mm→Pure prog 40 [.sl 4 ((pwX den i).map qtA),.sl 4 (den.map qtA)] (.sl 4 ((pwX den (i+1)).map qtA)):=λi hi=>by
   have l1:=hlp i (by omega);have l2:(pwX den i).length*den.length≤L ^ M*L:=Nat.mul_le_mul l1 ld;rw [←e0] at l2;have l3:=p2 (i+1) (by omega);have l4:=p3 (i+1) (by omega);have l5:(i+1)*nb=i*nb+nb:=Nat.succ_mul ..;have l6:(i+1)*kb=i*kb+kb:=Nat.succ_mul ..;exact Zyp _ _ (hd.pw i) hd (by omega) (by omega) (by omega) (by omega) (by omega) (by omega)
  have cS0:=exSplit a n (by omega) ha.2.1 (by omega);rw [←hmm] at cS0
  have cM:Pure prog 40 [.sl 4 ([((-1:Rat),[])].map qtA),.sl 4 (num.map qtA)] (.sl 4 ((mulX [((-1:Rat),[])] num).map qtA)):=by
   have hx1:XB [((-1:Rat),[])] 1 0:=xbC _ _ (by decide +kernel);have l1:([((-1:Rat),[])]:QTs).length*num.length≤1*L:=Nat.mul_le_mul (by simp) lu;have l2:([((-1:Rat),[])]:QTs).length≤1:=by simp
   exact Zyp _ _ hx1 hu (by omega) (by omega) (by omega) (by omega) (by omega) (by omega)
  have hVW:s=-1→(sclT (s:Rat) num).map qtA=(mulX [((-1:Rat),[])] num).map qtA:=λh=>by rw [h,mul_neg hu.1];rfl
  have hVU:s=1→(sclT (s:Rat) num).map qtA=num.map qtA:=λh=>by rw [h];show(sclT 1 num).map qtA=_;rw [Zke]
  have cM1:=ratOfm1;have cM2:=Zyr;have hpl2:((List.range (mm+1)).map λk=>qpA (woL n a k)).length=mm+1:=by rw [List.length_map,List.length_range]
  have hpg:∀k,k≤mm→((List.range (mm+1)).map λk=>qpA (woL n a k)).getD k .u=.sl 4 ((woL n a k).map qtA):=λk hk=>by
   rw [List.getD_eq_getElem?_getD,List.getElem?_map,List.getElem?_range (by omega)];rfl
  have d00:(pwX den 0).map qtA=[.agg [.v (.bool false),lim [1],lim [1],.sl 4 []]]:=by
   show [qtA ((1:Rat),[])]=_;rw [Ziz];rfl
  clear hx hlen hlp hpa hpl b0 b1 b2 b3 b4 b5 b6' b7' b8 p1 p0 p2 p3 r3 e0 hq hL hk;have cS1:Pure prog 115 [.sl 4 (a.map qtA),n.av] (.sl 1 ((List.range (mm+1)).map λk=>qpA (woL n a k))):=cS0;clear cS0;show Pure _ _ [.sl 4 (a.map qtA),.agg [iv q1,iv q2,iv q3,iv q4],.agg [.sl 4 (num.map qtA),.sl 4 (den.map qtA)]] _;have h00:(hnX (paQ n a) (sclT (s:Rat) num) den mm 0).map qtA=[]:=rfl;generalize hHN:(λi=>(hnX (paQ n a) (sclT (s:Rat) num) den mm i).map qtA)=HN at *;have hHN:∀i,(hnX (paQ n a) (sclT (s:Rat) num) den mm i).map qtA=HN i:=λi=>by rw [←hHN]
  generalize hXX:(λi=>(mulX (hnX (paQ n a) (sclT (s:Rat) num) den mm i) (sclT (s:Rat) num)).map qtA)=XX at *;have hXX:∀i,(mulX (hnX (paQ n a) (sclT (s:Rat) num) den mm i) (sclT (s:Rat) num)).map qtA=XX i:=λi=>by rw [←hXX]
  generalize hYY:(λi=>(mulX (paQ n a (mm - i)) (pwX den i)).map qtA)=YY at *;have hYY:∀i,(mulX (paQ n a (mm - i)) (pwX den i)).map qtA=YY i:=λi=>by rw [←hYY]
  generalize hDN:(λi=>(pwX den i).map qtA)=DN at *;have hDN:∀i,(pwX den i).map qtA=DN i:=λi=>by rw [←hDN]
  generalize hPN:(λi=>(paQ n a i).map qtA)=PN at *;have hPN:∀i,(paQ n a i).map qtA=PN i:=λi=>by rw [←hPN]
  simp only [hHN,hXX,hYY,hDN,hPN] at cX cN cY cA cD h00 d00 ⊢;clear hHN hXX hYY hDN hPN;generalize (List.range (mm+1)).map (λk=>qpA (woL n a k))=PT at *;obtain⟨n1,n2,n3,n4⟩:=n;generalize a.map qtA=A at *;have cUV:s=1→num.map qtA=(sclT (s:Rat) num).map qtA:=λh=>by rw [h];show _=(sclT 1 num).map qtA;rw [Zke]
  generalize (sclT (s:Rat) num).map qtA=V at *;generalize (mulX [((-1:Rat),[])] num).map qtA=W at *;generalize num.map qtA=U at *;generalize den.map qtA=D at *;generalize [((-1:Rat),[])].map qtA=NG at *;have cS:Pure prog 115 [.sl 4 A,.agg [iv n1,iv n2,iv n3,iv n4]] (.sl 1 PT):=cS1;clear cS1;have hmm1:((mm+1:Nat):Int) - 1=(mm:Int):=by omega
  clear hN hs hs0 hpn hv lv hu hd ha hmm;rcases hs' with rfl | rfl
  rotate_left
  have hV:=hVU rfl
  rotate_left
  have hV:=hVW rfl;all_goals (
   subst hV;clear hVU hVW;refine Zaa (tok:=0) func54 rfl ntmps54 results54 call54 (by rfl) (by simp) ?_;(focus (refine wkad (w_2 hmm1 hpl2) (w_7 cn cM1 cM2 cM cS c1 cc) w_t ?_;(repeat' first|exact w_t|apply w_l);all_goals intros));refine Zgr (Frz.nil (d:=11) 4 (by exact gC)) ?_;refine Zae (ι:=Nat) (λi e m=>i≤mm+1∧(∃g x,e 5=.pbox 5 g 0∧m 5=some (.box g 29 [x,.sl 4 D] false))∧(∃g,e 6=.pbox 6 g 0∧m 6=some (.box g 29 [.v (.slice none 0 0),.v (.slice none 0 0)] false))∧(e 9=.sl 4 V∧e 10=.sl 1 PT)∧e 11=.sl 4 (HN i)∧e 12=.sl 4 (DN (min i mm))∧e 13=.v (.int .i64 ((mm:Int) - (i:Int)))) (λi=>mm+1 - i) 0 (by rfl) ?_ ?_
   ·rintro i e m ⟨hi,⟨g5,x5,e5,m5⟩,⟨g6,e6,m6⟩,⟨e9,e10⟩,e11,e12,e13⟩
    by_cases hlt:i≤mm
    ·obtain⟨k,hk⟩:∃k,mm=i+k:=⟨mm - i,by omega⟩;have h13:(mm:Int) - (i:Int)=(k:Int):=by omega
     have hmin:min i mm=i:=by omega
     have x1:=cX i hlt;have y1:=cY i hlt;have a1:=cA i hlt;have k1:=cN k;have hg:=hpg k (by omega);have hk3:k < PT.length:=by omega
     have h13':(k:Int) - 1=(mm:Int) - ((i+1:Nat):Int):=by omega
     rw [h13] at e13;rw [hmin] at e12;rw [show mm - i=k by omega] at y1;have cDi:=cD i;clear cX cY cA cN cD hpg cn cS c1 cc cM cM1 cM2 h00 d00;generalize (woL _ a k).map qtA=WK at *;by_cases hk0:k=0
     ·have hmin':min (i+1) mm=i:=by omega
      have hk0':¬(k:Int) > 0:=by omega
      (focus (refine wkad (w_12 e5 m5 e6 m6 e9 e10 e11 e12 e13 hpl2 hg hk0') (w_4 k1 x1 y1 a1) (w_1 (w_d 13 [(2,.sl 4 (XX i)),(7,.sl 4 (PN k)),(9,.sl 4 (YY i)),(10,.sl 4 (HN (i+1)))] [] [])) ?_;(repeat' first|exact w_t|apply w_l);all_goals intros));exact⟨i+1,⟨by omega,⟨g5,x5,by exact gW e5,by exact gW m5⟩,⟨g6,by exact gW e6,by exact gW m6⟩,⟨by exact gW e9,by exact gW e10⟩,by exact gC,by rw [hmin'];exact gW e12,by rw [←h13'];exact gC⟩,by omega⟩
     ·have hmin':min (i+1) mm=i+1:=by omega
      have hk0':(k:Int) > 0:=by omega
      have d1:=cDi (by omega);(focus (refine wkad (w_12 e5 m5 e6 m6 e9 e10 e11 e12 e13 hpl2 hg hk0') (w_5 k1 x1 y1 a1 d1) (w_1 (w_d 13 [(2,.sl 4 (XX i)),(7,.sl 4 (PN k)),(9,.sl 4 (YY i)),(10,.sl 4 (HN (i+1)))] [] [])) ?_;(repeat' first|exact w_t|apply w_l);all_goals intros));exact⟨i+1,⟨by omega,⟨g5,x5,by exact gW e5,by exact gW m5⟩,⟨g6,by exact gW e6,by exact gW m6⟩,⟨by exact gW e9,by exact gW e10⟩,by exact gC,by rw [hmin'];exact gC,by rw [←h13'];exact gC⟩,by omega⟩
    ·have him:i=mm+1:=by omega
     have h13:(mm:Int) - (i:Int)=-1:=by omega
     have hmin:min i mm=mm:=by omega
     rw [h13] at e13;rw [hmin] at e12;subst him;clear cX cY cA cN cD hpg cn cS c1 cc cM cM1 cM2 h00 d00 h13 hmin;generalize HN (mm+1)=H at *;generalize DN mm=E at *;(focus (refine wkad (w_9 e5 m5 e6 m6 e9 e10 e11 e12 e13) w_t w_t ?_;(repeat' first|exact w_t|apply w_l);all_goals intros));all_goals (all_goals (try simp (disch:=omega) only [go_sem,e6,m6,decide_eq_true,decide_eq_false,if_pos,if_neg,Int.reduceAdd,Int.reduceSub,Int.reduceToNat,Int.zero_add]));(all_goals first|done|rfl|(congr 2;first|done|omega|(rw [Bool.eq_iff_iff];simp only [bool_to_prop,Bool.false_eq_true,iff_true,true_iff,iff_false,false_iff];omega))|skip)
   ·exact⟨Nat.zero_le _,⟨_,_,by exact gC,by exact gC⟩,⟨_,by exact gC,by exact gC⟩,⟨by exact gC,by exact gC⟩,by rw [h00];exact gC,by rw [Nat.zero_min,d00];exact gC,by rw [show(mm:Int) - ((0:Nat):Int)=(mm:Int) by omega];exact gC⟩)
attribute [local go_sem] underlying33 underlying45 underlying9 Zbh zStr
abbrev cQ (a:Rat):List AV:=[.v (.bool (decide (a.num < 0))),lim (toL a.num.natAbs),lim (toL a.den)]
def pV (ps:List PQ) (rs:List Rat) (t:Rat × List Qt):Nat→Rat
 | 0=>t.1
 | i+1=>pV ps rs t i*Qt.val (t.2.getD i Qt.zero) ps rs
def eV (ps:List PQ) (rs:List Rat) (l:QTs):Nat→Rat
 | 0=>0
 | i+1=>eV ps rs l i+pV ps rs (l.getD i (0,[])) (l.getD i (0,[])).2.length
def chQ (n m:Int):List Qt→Int
 | []=>0
 | q :: l=>if Qt.chk q n m=0 then chQ n m l else Qt.chk q n m
def chE (n m:Int):QTs→Int
 | []=>0
 | t :: l=>if chQ n m t.2=0 then chE n m l else chQ n m t.2
abbrev cQ0:List AV:=[.v (.bool false),.v (.slice none 0 0),.v (.slice none 0 0)]
section
attribute [local go_sem] underlying3 underlying4 underlying128 underlying50 underlying52 underlying54 underlying39 underlying55 underlying57 underlying26 underlying27 sz3 by3 z3 szB zB Zas zRat Zay zInt Zax zNat Zah Zan Zai Bool.and_self Zal Za7 zSlQ szQT byQT zQT Za9 zSlT szQP zQP underlying81 underlying29 szFr byFr zFr Zb6 Zca zSQP underlying33 underlying45 underlying9 Zbh zStr
end
end Go.Proofs.YtpkcophcldjboaaGreatDoor
namespace Go.Proofs.YtpkcophcldjboaaGreatDoor
open Go Go.RowKit Go.Pg Go.Proofs.Tryz
attribute [-bool_to_prop] Bool.and_eq_decide Bool.or_eq_decide Bool.decide_beq_decide decide_eq_decide
attribute [local go_sem] underlying3 underlying2 underlying160 underlying128 underlying4 underlying33 underlying39 underlying55 underlying54 underlying50 underlying52 sz3 by3 z3 szL byL zL Zah Zan Zce zErr Zas zRat Zax zNat Zay zInt szB zB Zai Bool.and_self
theorem Zl4 (A B C:PQ):Zfd A B A C=- Zfd B A B C:=by unfold Zfd;grind
theorem Zf1 (A B C:PQ):Zfd A B A C=Zfd B C B A:=by unfold Zfd;grind
theorem dot_swap (A B C:PQ):dotP B A B C=dotP B C B A:=by unfold dotP;grind
theorem Zuk {k a b c:Int} {ps:List PQ} {rs:List Rat} (h:Qt.chk ⟨k,a,b,c⟩ ps.length rs.length=0) (hl:ps.length≤40) :
 (Qt.norm ⟨k,a,b,c⟩=(Qt.zero,0)∧Qt.val ⟨k,a,b,c⟩ ps rs=0) ∨
 (∃(k1 a1 b1 c1 s:Int),Qt.norm ⟨k,a,b,c⟩=(⟨k1,a1,b1,c1⟩,s)∧(s=1∨s=-1)∧Qt.norm ⟨k1,a1,b1,c1⟩=(⟨k1,a1,b1,c1⟩,1)∧Qt.chk ⟨k1,a1,b1,c1⟩ ps.length rs.length=0∧Qt.val ⟨k,a,b,c⟩ ps rs=Qt.val ⟨k1,a1,b1,c1⟩ ps rs*(s:Rat)):=by
 have hh:=chk_val h
 have hok:Qt.ok ⟨k,a,b,c⟩=true:=by
  unfold Qt.chk at h;split at h
  ·assumption
  ·omega
 rcases hh with⟨rfl,h1,h2,h3⟩ | ⟨h0,h1,h2,h3,h4⟩
 ·have hn:Qt.norm ⟨3,a,b,c⟩=(⟨3,a,b,c⟩,1):=by
   unfold Qt.norm;rw [if_pos hok];rfl
  refine .inr ⟨3,a,b,c,1,hn,.inl rfl,hn,h,?_⟩;rw [show((1:Int):Rat)=1 from rfl,Rat.mul_one]
 ·have okN:∀k x y z:Int,(k=1∨k=2)→(0≤x∧x < ps.length)→(0≤y∧y < ps.length)→(0≤z∧z < ps.length)→Qt.ok ⟨k,x,y,z⟩=true:=by
   intro k x y z hk hx hy hz;unfold Qt.ok;rw [decide_eq_true_eq];simp only;omega
  have chN:∀k x y z:Int,(k=1∨k=2)→(0≤x∧x < ps.length)→(0≤y∧y < ps.length)→(0≤z∧z < ps.length)→Qt.chk ⟨k,x,y,z⟩ ps.length rs.length=0:=by
   intro k x y z hk hx hy hz;unfold Qt.chk;rw [if_pos (okN k x y z hk hx hy hz)];simp only;rw [if_neg (by omega),if_neg (by omega)]
  rcases h1 with rfl | rfl
  ·have v1:∀x y z:Int,Qt.val ⟨1,x,y,z⟩ ps rs=Zfd (ps.getD x.toNat (0,0)) (ps.getD y.toNat (0,0)) (ps.getD x.toNat (0,0)) (ps.getD z.toNat (0,0)):=λx y z=>by unfold Qt.val;rfl
   have nN:∀x y z:Int,(0≤x∧x < ps.length)→(0≤y∧y < ps.length)→(0≤z∧z < ps.length)→Qt.norm ⟨1,x,y,z⟩=Zec x y z:=by
    intro x y z hx hy hz;unfold Qt.norm;rw [if_pos (okN 1 x y z (.inl rfl) hx hy hz)];rfl
   have nS:∀x y z:Int,x < y→y < z→Zec x y z=(⟨1,x,y,z⟩,1):=by
    intro x y z hxy hyz;unfold Zec;rw [if_neg (by omega),if_pos hxy,if_pos hyz]
   rw [nN a b c h2 h3 h4,v1];have one:∀x:Rat,x=x*((1:Int):Rat):=λx=>by rw [show((1:Int):Rat)=1 from rfl,Rat.mul_one]
   have neg:∀x:Rat,-x=x*((-1:Int):Rat):=λx=>by rw [show((-1:Int):Rat)=-1 from rfl];grind
   by_cases he:a=b∨b=c∨a=c
   ·refine .inl ⟨by unfold Zec;rw [if_pos he],?_⟩;rcases he with rfl | rfl | rfl
    ·unfold Zfd;grind
    ·unfold Zfd;grind
    ·unfold Zfd;grind
   ·have fin:∀(x y z:Int) (s:Int),Zec a b c=(⟨1,x,y,z⟩,s)→x < y→y < z→(0≤x∧x < ps.length)→(0≤y∧y < ps.length)→(0≤z∧z < ps.length)→(s=1∨s=-1) →
     Zfd (ps.getD a.toNat (0,0)) (ps.getD b.toNat (0,0)) (ps.getD a.toNat (0,0)) (ps.getD c.toNat (0,0))=Qt.val ⟨1,x,y,z⟩ ps rs*(s:Rat) →
     ∃(k1 a1 b1 c1 s:Int),Zec a b c=(⟨k1,a1,b1,c1⟩,s)∧(s=1∨s=-1)∧Qt.norm ⟨k1,a1,b1,c1⟩=(⟨k1,a1,b1,c1⟩,1)∧Qt.chk ⟨k1,a1,b1,c1⟩ ps.length rs.length=0∧Zfd (ps.getD a.toNat (0,0)) (ps.getD b.toNat (0,0)) (ps.getD a.toNat (0,0)) (ps.getD c.toNat (0,0))=Qt.val ⟨k1,a1,b1,c1⟩ ps rs*(s:Rat) :=
     λx y z s e hxy hyz hx hy hz hs hv=>⟨1,x,y,z,s,e,hs,by rw [nN x y z hx hy hz,nS x y z hxy hyz],chN 1 x y z (.inl rfl) hx hy hz,hv⟩
    right;by_cases h5:a < b
    ·by_cases h6:b < c
     ·exact fin a b c 1 (by unfold Zec;rw [if_neg he,if_pos h5,if_pos h6]) h5 h6 h2 h3 h4 (.inl rfl) (by rw [v1];exact one _)
     ·by_cases h7:a < c
      ·exact fin a c b (-1) (by unfold Zec;rw [if_neg he,if_pos h5,if_neg h6,if_pos h7]) h7 (by omega) h2 h4 h3 (.inr rfl) (by rw [v1,←neg,Zf1,Zl4,Zf1 (ps.getD a.toNat (0,0))])
      ·exact fin c a b 1 (by unfold Zec;rw [if_neg he,if_pos h5,if_neg h6,if_neg h7]) (by omega) h5 h4 h2 h3 (.inl rfl) (by rw [v1,←one,Zf1,Zf1])
    ·by_cases h6:a < c
     ·exact fin b a c (-1) (by unfold Zec;rw [if_neg he,if_neg h5,if_pos h6]) (by omega) h6 h3 h2 h4 (.inr rfl) (by rw [v1,←neg];exact Zl4 _ _ _)
     ·by_cases h7:b < c
      ·exact fin b c a 1 (by unfold Zec;rw [if_neg he,if_neg h5,if_neg h6,if_pos h7]) h7 (by omega) h3 h4 h2 (.inl rfl) (by rw [v1,←one];exact Zf1 _ _ _)
      ·exact fin c b a (-1) (by unfold Zec;rw [if_neg he,if_neg h5,if_neg h6,if_neg h7]) (by omega) (by omega) h4 h3 h2 (.inr rfl) (by rw [v1,←neg];unfold Zfd;grind)
  ·have v2:∀x y z:Int,Qt.val ⟨2,x,y,z⟩ ps rs=2*dotP (ps.getD y.toNat (0,0)) (ps.getD x.toNat (0,0)) (ps.getD y.toNat (0,0)) (ps.getD z.toNat (0,0)):=λx y z=>by unfold Qt.val;rfl
   have nN:∀x y z:Int,(0≤x∧x < ps.length)→(0≤y∧y < ps.length)→(0≤z∧z < ps.length)→Qt.norm ⟨2,x,y,z⟩=Zfi x y z:=by
    intro x y z hx hy hz;unfold Qt.norm;rw [if_pos (okN 2 x y z (.inr rfl) hx hy hz)];rfl
   have one:∀x:Rat,x=x*((1:Int):Rat):=λx=>by rw [show((1:Int):Rat)=1 from rfl,Rat.mul_one]
   rw [nN a b c h2 h3 h4,v2];by_cases he:a=b∨b=c
   ·refine .inl ⟨by unfold Zfi;rw [if_pos he],?_⟩;rcases he with rfl | rfl
    ·unfold dotP;grind
    ·unfold dotP;grind
   ·right;by_cases h5:a=c∧b < a
    ·obtain⟨rfl,h6⟩:=h5;refine⟨2,b,a,b,1,by unfold Zfi;rw [if_neg he,if_pos ⟨rfl,h6⟩],.inl rfl,?_,chN 2 b a b (.inr rfl) h3 h2 h3,?_⟩
     ·rw [nN b a b h3 h2 h3];unfold Zfi;rw [if_neg (by omega),if_neg (by omega),if_neg (by omega)]
     ·rw [v2,←one];unfold dotP;grind
    ·by_cases h6:c < a
     ·refine⟨2,c,b,a,1,by unfold Zfi;rw [if_neg he,if_neg h5,if_pos h6],.inl rfl,?_,chN 2 c b a (.inr rfl) h4 h3 h2,?_⟩
      ·rw [nN c b a h4 h3 h2];unfold Zfi;rw [if_neg (by omega),if_neg (by omega),if_neg (by omega)]
      ·rw [v2,←one,dot_swap]
     ·refine⟨2,a,b,c,1,by unfold Zfi;rw [if_neg he,if_neg h5,if_neg h6],.inl rfl,?_,chN 2 a b c (.inr rfl) h2 h3 h4,?_⟩
      ·rw [nN a b c h2 h3 h4];unfold Zfi;rw [if_neg he,if_neg h5,if_neg h6]
      ·rw [v2,←one]
def sumV (ps:List PQ) (l:List Qt):Rat:=l.foldl (λs q=>s+Qt.val q ps []) 0
end Go.Proofs.YtpkcophcldjboaaGreatDoor
namespace Go.Proofs.YtpkcophcldjboaaGreatDoor
open Go Go.RowKit Go.Pg Go.Pol Go.Proofs.Tryz
section
variable {ps:List PQ} {rs:List Rat}
def vlQ (ps:List PQ) (rs:List Rat):List Qt→Rat
 | []=>1
 | q :: l=>Qt.val q ps rs*vlQ ps rs l
def pwr (x:Rat):Nat→Rat
 | 0=>1
 | n+1=>pwr x n*x
def swX (W:Nat→Rat) (x:Rat):Nat→Rat
 | 0=>0
 | i+1=>swX W x i+W i*pwr x i
end
def alQ (C:Qt→Prop) (l:QTs):Prop:=∀t∈l,∀q∈t.2,C q
section
variable {C:Qt→Prop}
theorem alQ.join {p q:QTs} (hp:alQ C p) (hq:alQ C q):alQ C (Za6 p q):=λt ht=>by
 obtain⟨s,hs,e⟩:=Zih ht;rw [e];rcases List.mem_append.1 hs with h | h
 ·exact hp s h
 ·exact hq s h
theorem alQ.gat {l:QTs} (h:alQ C l):alQ C (gatM l):=by
 rw [←Zqt];intro t ht;exact Zi6 (P:=λx=>∀q∈x,C q) l [] (λt ht=>by cases ht) h t (List.mem_filter.1 ((Za2 _).mem_iff.1 ht)).1
theorem alQ.mul {p q:QTs} (hp:alQ C p) (hq:alQ C q):alQ C (mulX p q):=alQ.gat λu hu=>by
 obtain⟨s,hs,t,ht,rfl⟩:=Zfs hu;intro x hx;rcases List.mem_append.1 ((Za2 _).mem_iff.1 hx) with h | h
 ·exact hp s hs x h
 ·exact hq t ht x h
theorem alQ.pw {d:QTs} (h:alQ C d):∀i,alQ C (pwX d i)
 | 0=>λt ht x hx=>by
   rw [List.mem_singleton.1 ht] at hx;cases hx
 | i+1=>(h.pw i).mul h
theorem alQ.part {a:QTs} (h:alQ C a) (q:Qt) (k:Nat):alQ C (paQ q a k):=alQ.gat λu hu x hx=>by
 obtain⟨t,ht,rfl⟩:=Zjf hu;exact h t ht x (List.mem_filter.1 hx).1
theorem alQ.scl {p:QTs} (h:alQ C p) (s:Rat):alQ C (sclT s p):=λu hu=>by
 obtain⟨t,ht,rfl⟩:=List.mem_map.1 hu;exact h t ht
theorem alQ.rf {P:Nat→QTs} {a d:QTs} (hP:∀k,alQ C (P k)) (ha:alQ C a) (hd:alQ C d) (m:Nat):∀i,alQ C (rfX P a d m i)
 | 0=>λt ht=>by cases ht
 | i+1=>(alQ.rf hP ha hd m i).join (((hP i).mul (ha.pw i)).mul (hd.pw (m - i)))
end
def cstT (u:Rat):QTs:=if u=0 then [] else [(u,[])]
theorem cstT_xb {u:Rat} {k:Nat} (h:Sz u k):XB (cstT u) (k+1) 0:=by
 have hd:=Zaf.1 h.2;have hn:=Zaf.1 h.1;have hk:65536 ^ k < 65536 ^ (k+1):=Nat.pow_lt_pow_right (by omega) (by omega);unfold cstT;split
 ·exact Zli.mono (by omega) (Nat.le_refl _)
 ·rename_i h0;refine⟨⟨λt ht=>by rw [List.mem_singleton.1 ht];exact⟨h0,rgQ.de⟩,List.pairwise_singleton _ _⟩,λt ht=>by rw [List.mem_singleton.1 ht];exact Nat.le_refl _,u.den,u.num.natAbs,u.den_nz,by omega,by omega,λt ht=>by rw [List.mem_singleton.1 ht];exact Nat.dvd_refl _,?_⟩;rw [Zba];exact Zzg.2 (Nat.le_mul_of_pos_right _ (Nat.pos_of_ne_zero u.den_nz))
theorem Zge (u:Rat):(cstT u).length≤1:=by unfold cstT;split<;>simp
theorem Zzf {C:Qt→Prop} (u:Rat):alQ C (cstT u):=by
 unfold cstT;split
 ·exact λt ht=>by cases ht
 ·exact λt ht x hx=>by rw [List.mem_singleton.1 ht] at hx;cases hx
theorem Zxi {q:Qt} (h:q.ok=true) (hs:q.norm.2≠0):q.norm.1.norm=(q.norm.1,1):=by
 obtain⟨k,a,b,c⟩:=q
 have hk:(k=3∧0≤a∧a < 64∧b=0∧c=0)∨((k=1∨k=2)∧(0≤a∧a < 40)∧(0≤b∧b < 40)∧(0≤c∧c < 40)):=by
  unfold Qt.ok at h;simpa using h
 have hc:Qt.chk ⟨k,a,b,c⟩ (List.replicate 40 ((0:Rat),(0:Rat))).length (List.replicate 64 (0:Rat)).length=0:=by
  rw [List.length_replicate,List.length_replicate];unfold Qt.chk;rw [if_pos h];simp only;rcases hk with⟨rfl,h1,h2,_⟩ | ⟨h0,h1,h2,h3⟩
  ·rw [if_pos rfl,if_neg (by omega)]
  ·rw [if_neg (by omega),if_neg (by omega)]
 rcases Zuk (ps:=List.replicate 40 ((0:Rat),(0:Rat))) (rs:=List.replicate 64 (0:Rat)) hc (by rw [List.length_replicate];exact Nat.le_refl _) with⟨hn,_⟩ | ⟨k1,a1,b1,e1,s,hn,_,hn2,_,_⟩
 ·rw [hn] at hs;exact absurd rfl hs
 ·rw [hn];exact hn2
structure XL (p:QTs) (k n l:Nat):Prop where
 x:XB p k n
 l:p.length≤l
theorem XL.mono {p:QTs} {k n l j m i:Nat} (h:XL p k n l) (hk:k≤j) (hn:n≤m) (hl:l≤i):XL p j m i:=⟨h.x.mono hk hn,Nat.le_trans h.l hl⟩
theorem XL.mul {p q:QTs} {k n l j m i:Nat} (h:XL p k n l) (g:XL q j m i):XL (mulX p q) (k+j) (n+m) (l*i):=⟨h.x.mul g.x,Nat.le_trans (Zds p q) (Nat.mul_le_mul h.l g.l)⟩
theorem XL.add {p q:QTs} {k n l j m i:Nat} (h:XL p k n l) (g:XL q j m i):XL (Za6 p q) (k+j+1) (max n m) (l+i):=⟨h.x.add g.x,Nat.le_trans (Zfe p q) (Nat.add_le_add h.l g.l)⟩
abbrev subX (p q:QTs):QTs:=Za6 p (sclT (-1) q)
theorem XL.neg {q:QTs} {j m i:Nat} (g:XL q j m i):XL (sclT (-1) q) j m i:=⟨g.x.neg,by rw [Zct];exact g.l⟩
theorem XL.sub {p q:QTs} {k n l j m i:Nat} (h:XL p k n l) (g:XL q j m i):XL (subX p q) (k+j+1) (max n m) (l+i):=h.add g.neg
theorem XL.nil:XL [] 1 0 0:=⟨Zli,Nat.le_refl _⟩
def ofX (q:Qt):QTs:=if q.norm.2=0 then [] else [((q.norm.2:Rat),[q.norm.1])]
theorem of_ok {q:Qt} (h:q.ok=true):nrmR (ofE q)=qpA (ofX q):=by
 rw [Zxg (by show(RE.ok ⟨rawQ 1,[q]⟩ && true)=true;rw [Bool.and_true];show((rawQ 1).ok && [q].all Qt.ok)=true;rw [Zmr,Bool.true_and,List.all_cons,h];rfl)];congr 2;show gatM [RE.t ⟨rawQ 1,[q]⟩]=ofX q;have hs:sgP [q]=q.norm.2:=by show 1*q.norm.2=_;rw [Int.one_mul]
 have ht:RE.t ⟨rawQ 1,[q]⟩=((q.norm.2:Rat),putP [q]):=by
  show((rawQ 1).q*(sgP [q]:Rat),putP [q])=_;rw [Zsb,hs,Rat.one_mul]
 rw [ht,Znd];unfold ofX;by_cases h0:q.norm.2=0
 ·rw [if_pos h0,if_pos (by show(q.norm.2:Rat)=0;rw [h0];rfl)]
 ·have h1:¬(q.norm.2:Rat)=0:=by
   rcases Zh2 q with h2 | h2 | h2
   ·rw [h2];decide +kernel
   ·exact absurd h2 h0
   ·rw [h2];decide +kernel
  rw [if_neg h0,if_neg h1];have hp:=putP_y [] (q:=q) h0;rw [List.nil_append] at hp;rw [hp];rfl
theorem Zci {q:Qt} (h:q.ok=true):XL (ofX q) 1 1 1:=by
 unfold ofX;split
 ·exact XL.nil.mono (Nat.le_refl _) (by omega) (by omega)
 ·rename_i h0;have hn:=Zxi h h0
  have hs:(q.norm.2:Rat)≠0∧(q.norm.2:Rat).den ∣ 1∧cl (q.norm.2:Rat)≤65535:=by
   rcases Zh2 q with h2 | h2 | h2
   ·rw [h2];decide +kernel
   ·exact absurd h2 h0
   ·rw [h2];decide +kernel
  refine⟨⟨⟨λt ht=>?_,List.pairwise_singleton _ _⟩,λt ht=>by rw [List.mem_singleton.1 ht];exact Nat.le_refl _,1,65535,by decide,by decide,by decide,λt ht=>by rw [List.mem_singleton.1 ht];exact hs.2.1,?_⟩,Nat.le_refl _⟩
  ·rw [List.mem_singleton.1 ht];exact⟨hs.1,List.pairwise_singleton _ _,λx hx=>by rw [List.mem_singleton.1 hx];exact hn⟩
  ·rw [Zba];exact hs.2.2
theorem Zez {u:Rat} {k:Nat} (h:Sz u k):XL (cstT u) (k+1) 0 1:=⟨cstT_xb h,Zge u⟩
theorem cstX_mul {c:Rat} {p:QTs} (h:EX p):mulX (cstT c) p=if c=0 then [] else sclT c p:=by
 unfold cstT;split
 ·exact Zxr p
 ·rename_i h0;refine Zh5 (D:=okQ) Zbk (Zbe rgQ ⟨λt ht=>by rw [List.mem_singleton.1 ht];exact⟨h0,rgQ.de⟩,List.pairwise_singleton _ _⟩ h) ⟨λt ht=>?_,List.pairwise_map.2 h.2⟩ λφ=>?_
  ·obtain⟨u,hu,rfl⟩:=List.mem_map.1 ht;exact⟨λh1=>(Rat.mul_eq_zero.1 h1).elim h0 (h.1 u hu).1,(h.1 u hu).2⟩
  ·rw [Zfn Zbk,Zre];show c*evl (λk=>φ (muQ [] k)) p+0=_;rw [Rat.add_zero];congr 1
   have key:∀p:QTs,(∀t∈p,okQ t.2)→evl (λk=>φ (muQ [] k)) p=evl φ p:=by
    intro p
    induction p with
    | nil=>intro _;rfl
    | cons t p ih =>
      intro h;show t.1*φ (muQ [] t.2)+_=t.1*φ t.2+_;rw [ih λu hu=>h u (.tail _ hu),rgQ.comm,rgQ.one _ (h t (.head _))]
   exact key p h.dom
structure Cb where
 ps:List Int
 ab:List QTs
 be:QTs
abbrev aX (a b c:Int):QTs:=ofX ⟨1,a,b,c⟩
abbrev pX (a b c:Int):QTs:=ofX ⟨2,a,b,c⟩
abbrev nX (n:Rat):QTs:=cstT n
abbrev twX (p:QTs):QTs:=mulX (nX 2) p
def prC (a b:Int) (part below:QTs):Cb:=⟨[a,b],[subX below part,part],below⟩
def ctW (p q r:Int):QTs:=mulX (pX q r q) (pX q p r)
def cbOf (k:Int) (a:List Int) (r:Rat) (t:Int):Option Cb :=
 if k=2 then some (prC (gI a 0) (gI a 1) (nX r) (nX 1))
 else if k=3 then some ⟨a,[nX 1,nX (-1),nX 1],nX 1⟩
 else if k=5 then some (prC (gI a 0) (gI a 1) (ofX ⟨3,t,0,0⟩) (nX 1))
 else if k=9 then some (prC (gI a 0) (gI a 1) (aX (gI a 0) (gI a 2) (gI a 3)) (subX (aX (gI a 0) (gI a 2) (gI a 3)) (aX (gI a 1) (gI a 2) (gI a 3))))
 else if k=7 then some (prC (gI a 1) (gI a 2) (pX (gI a 0) (gI a 1) (gI a 2)) (pX (gI a 2) (gI a 1) (gI a 2)))
 else if k=8 then some ⟨[gI a 1,gI a 2,gI a 0],[twX (subX (pX (gI a 2) (gI a 1) (gI a 2)) (pX (gI a 0) (gI a 1) (gI a 2))),twX (pX (gI a 0) (gI a 1) (gI a 2)),subX [] (pX (gI a 2) (gI a 1) (gI a 2))],pX (gI a 2) (gI a 1) (gI a 2)⟩
 else if k=10 then some (prC (gI a 0) (gI a 1) (twX (pX (gI a 2) (gI a 0) (gI a 1))) (pX (gI a 1) (gI a 0) (gI a 1)))
 else if k=11 then some ⟨a,[ctW (gI a 0) (gI a 1) (gI a 2),ctW (gI a 1) (gI a 2) (gI a 0),ctW (gI a 2) (gI a 0) (gI a 1)],Za6 (Za6 (ctW (gI a 0) (gI a 1) (gI a 2)) (ctW (gI a 1) (gI a 2) (gI a 0))) (ctW (gI a 2) (gI a 0) (gI a 1))⟩
 else none
structure CbOk (c:Cb) (n:Int):Prop where
 len:c.ab.length=c.ps.length
 few:c.ps.length≤3
 ab:∀w∈c.ab,XL w 10 2 4
 be:XL c.be 10 2 4
 ps:∀x∈c.ps,0≤x∧x < n
theorem Za5 {k a b c:Int} (hk:k=1∨k=2) (ha:0≤a∧a < 40) (hb:0≤b∧b < 40) (hc:0≤c∧c < 40):Qt.ok ⟨k,a,b,c⟩=true:=by
 unfold Qt.ok;rw [decide_eq_true_eq];exact .inr ⟨hk,ha,hb,hc⟩
theorem Zlg {k t:Int} {a:List Int} {r:Rat} {n:Int} {c:Cb} (h:cbOf k a r t=some c) (hr:Sz r 2) (ha:∀i,i < a.length→0≤gI a i∧gI a i < n) (hn:n≤40) (ht:0≤t∧t < 64)
 (hl:(k=3→a.length=3)∧(k=11→a.length=3)∧(k=2∨k=5→2≤a.length)∧(k=7∨k=8∨k=10→3≤a.length)∧(k=9→4≤a.length)):CbOk c n:=by
 obtain⟨l3,l11,l2,l7,l9⟩:=hl;have g:∀i,i < a.length→0≤gI a i∧gI a i < 40:=λi hi=>by have:=ha i hi;omega
 have pA:∀i j m,i < a.length→j < a.length→m < a.length→XL (aX (gI a i) (gI a j) (gI a m)) 1 1 1:=λi j m h1 h2 h3=>Zci (Za5 (.inl rfl) (g i h1) (g j h2) (g m h3));have pP:∀i j m,i < a.length→j < a.length→m < a.length→XL (pX (gI a i) (gI a j) (gI a m)) 1 1 1:=λi j m h1 h2 h3=>Zci (Za5 (.inr rfl) (g i h1) (g j h2) (g m h3));have c1:XL (nX 1) 2 0 1:=Zez Zll;have c2:XL (nX 2) 2 0 1:=Zez Zjb;have cm:XL (nX (-1)) 2 0 1:=Zez sz_m1;have cr:XL (nX r) 3 0 1:=Zez hr
 have pr:∀{x y:Int} {p b:QTs} {j m i j' m' i':Nat},XL p j m i→XL b j' m' i'→j+j'+1≤10→m≤2→m'≤2→i+i'≤4→(0≤x∧x < n)→(0≤y∧y < n)→CbOk (prC x y p b) n:=by
  intro x y p b j m i j' m' i' hp hb h1 h2 h3 h4 hx hy;refine⟨rfl,by show 2≤3;decide,λw hw=>?_,hb.mono (by omega) h3 (by omega),λz hz=>?_⟩
  ·rcases List.mem_cons.1 hw with rfl | hw
   ·exact(hb.sub hp).mono (by omega) (by omega) (by omega)
   ·rw [List.mem_singleton.1 hw];exact hp.mono (by omega) h2 (by omega)
  ·rcases List.mem_cons.1 hz with rfl | hz
   ·exact hx
   ·rw [List.mem_singleton.1 hz];exact hy
 have hmem:∀x∈a,0≤x∧x < n:=λx hx=>by
  obtain⟨i,hi,rfl⟩:=List.getElem_of_mem hx;have:=ha i hi
  rwa [Zfk hi] at this
 have tri:∀{x y z:QTs} {w:QTs},XL x 10 2 4→XL y 10 2 4→XL z 10 2 4→w∈[x,y,z]→XL w 10 2 4:=by
  intro x y z w hx hy hz hw;rcases List.mem_cons.1 hw with rfl | hw
  ·exact hx
  ·rcases List.mem_cons.1 hw with rfl | hw
   ·exact hy
   ·rw [List.mem_singleton.1 hw];exact hz
 unfold cbOf at h;split at h
 ·rename_i hk;cases h;have:=l2 (.inl hk);exact pr cr c1 (by decide) (by decide) (by decide) (by decide) (ha 0 (by omega)) (ha 1 (by omega))
 split at h
 ·rename_i hk;cases h;have:=l3 hk;exact⟨this.symm,by show a.length≤3;omega,λw hw=>tri (c1.mono (by decide) (by decide) (by decide)) (cm.mono (by decide) (by decide) (by decide)) (c1.mono (by decide) (by decide) (by decide)) hw,c1.mono (by decide) (by decide) (by decide),hmem⟩
 split at h
 ·rename_i hk;cases h;have:=l2 (.inr hk);have ho:XL (ofX ⟨3,t,0,0⟩) 1 1 1:=Zci (by unfold Qt.ok;rw [decide_eq_true_eq];exact .inl ⟨rfl,ht.1,ht.2,rfl,rfl⟩);exact pr ho c1 (by decide) (by decide) (by decide) (by decide) (ha 0 (by omega)) (ha 1 (by omega))
 split at h
 ·rename_i hk;cases h;have:=l9 hk;have p1:=pA 0 2 3 (by omega) (by omega) (by omega);have p2:=pA 1 2 3 (by omega) (by omega) (by omega);exact pr p1 (p1.sub p2) (by decide) (by decide) (by decide) (by decide) (ha 0 (by omega)) (ha 1 (by omega))
 split at h
 ·rename_i hk;cases h;have:=l7 (.inl hk);exact pr (pP 0 1 2 (by omega) (by omega) (by omega)) (pP 2 1 2 (by omega) (by omega) (by omega)) (by decide) (by decide) (by decide) (by decide) (ha 1 (by omega)) (ha 2 (by omega))
 split at h
 ·rename_i hk;cases h;have:=l7 (.inr (.inl hk));have p1:=pP 0 1 2 (by omega) (by omega) (by omega);have p2:=pP 2 1 2 (by omega) (by omega) (by omega);refine⟨rfl,by show 3≤3;decide,λw hw=>tri ((c2.mul (p2.sub p1)).mono (by decide) (by decide) (by decide)) ((c2.mul p1).mono (by decide) (by decide) (by decide)) ((XL.nil.sub p2).mono (by decide) (by decide) (by decide)) hw,p2.mono (by decide) (by decide) (by decide),λx hx=>?_⟩;rcases List.mem_cons.1 hx with rfl | hx
  ·exact ha 1 (by omega)
  ·rcases List.mem_cons.1 hx with rfl | hx
   ·exact ha 2 (by omega)
   ·rw [List.mem_singleton.1 hx];exact ha 0 (by omega)
 split at h
 ·rename_i hk;cases h;have:=l7 (.inr (.inr hk));exact pr (c2.mul (pP 2 0 1 (by omega) (by omega) (by omega))) (pP 1 0 1 (by omega) (by omega) (by omega)) (by decide) (by decide) (by decide) (by decide) (ha 0 (by omega)) (ha 1 (by omega))
 split at h
 ·rename_i hk;cases h;have:=l11 hk;have w1:=(pP 1 2 1 (by omega) (by omega) (by omega)).mul (pP 1 0 2 (by omega) (by omega) (by omega));have w2:=(pP 2 0 2 (by omega) (by omega) (by omega)).mul (pP 2 1 0 (by omega) (by omega) (by omega));have w3:=(pP 0 1 0 (by omega) (by omega) (by omega)).mul (pP 0 2 1 (by omega) (by omega) (by omega));exact⟨this.symm,by show a.length≤3;omega,λw hw=>tri (w1.mono (by decide) (by decide) (by decide)) (w2.mono (by decide) (by decide) (by decide)) (w3.mono (by decide) (by decide) (by decide)) hw,((w1.add w2).add w3).mono (by decide) (by decide) (by decide),hmem⟩
 ·cases h
structure Pl where
 k:Int
 q:Int
 r:Int
 mid:Bool
def plOf (n:Qt) (x:Int):Pl :=
 if n.k=1 then (if n.a=x then ⟨n.k,n.b,n.c,false⟩ else if n.b=x then ⟨n.k,n.c,n.a,false⟩ else ⟨n.k,n.a,n.b,false⟩)
 else if n.a=x∧n.c=x then ⟨n.k,n.b,n.b,true⟩
 else if n.b=x then ⟨n.k,n.a,n.c,true⟩
 else if n.a=x then ⟨n.k,n.b,n.c,false⟩
 else ⟨n.k,n.b,n.a,false⟩
def Pl.at (p:Pl) (x:Int):QTs:=if p.k=1 then aX x p.q p.r else if p.mid=true then pX p.q x p.r else pX x p.q p.r
def afS (c:Cb) (p:Pl):Nat→QTs
 | 0=>[]
 | i+1=>Za6 (afS c p i) (mulX (c.ab.getD i []) (p.at (gI c.ps i)))
def prT (c:Cb) (i j:Nat):QTs:=mulX (mulX (c.ab.getD i []) (c.ab.getD j [])) (pX (gI c.ps i) (gI c.ps j) (gI c.ps i))
def in2 (c:Cb) (i:Nat) (acc:QTs):Nat→QTs
 | 0=>acc
 | d+1=>subX (in2 c i acc d) (prT c i (i+1+d))
def out2 (c:Cb) (n:Nat) (acc:QTs):Nat→QTs
 | 0=>acc
 | i+1=>in2 c i (out2 c n acc i) (n - (i+1))
def afN (c:Cb) (p:Pl):QTs:=if p.mid=true then out2 c c.ps.length (mulX c.be (afS c p c.ps.length)) c.ps.length else afS c p c.ps.length
def afD (c:Cb) (p:Pl):QTs:=if p.mid=true then mulX c.be c.be else c.be
structure PlOk (p:Pl) (n:Int):Prop where
 q:0≤p.q∧p.q < n
 r:0≤p.r∧p.r < n
theorem pl_ok {q:Qt} {x n:Int} (ha:0≤q.a∧q.a < n) (hb:0≤q.b∧q.b < n) (hc:0≤q.c∧q.c < n):PlOk (plOf q x) n:=by
 unfold plOf;split
 ·split
  ·exact⟨hb,hc⟩
  ·split
   ·exact⟨hc,ha⟩
   ·exact⟨ha,hb⟩
 ·split
  ·exact⟨hb,hb⟩
  ·split
   ·exact⟨ha,hc⟩
   ·split
    ·exact⟨hb,hc⟩
    ·exact⟨hb,ha⟩
theorem Zlh {c:Cb} {n:Int} (h:CbOk c n) {i:Nat} (hi:i < c.ps.length):XL (c.ab.getD i []) 10 2 4:=by
 rw [Zcq (show i < c.ab.length by rw [h.len];exact hi)];exact h.ab _ (List.getElem_mem _)
theorem Zh1 {c:Cb} {n:Int} (h:CbOk c n) {i:Nat} (hi:i < c.ps.length):0≤gI c.ps i∧gI c.ps i < n:=by
 rw [Zfk hi];exact h.ps _ (List.getElem_mem _)
theorem at_xl {p:Pl} {x n:Int} (h:PlOk p n) (hx:0≤x∧x < n) (hn:n≤40):XL (p.at x) 1 1 1:=by
 have:=h.q;have:=h.r;unfold Pl.at;split
 ·exact Zci (Za5 (.inl rfl) (by omega) (by omega) (by omega))
 ·split
  ·exact Zci (Za5 (.inr rfl) (by omega) (by omega) (by omega))
  ·exact Zci (Za5 (.inr rfl) (by omega) (by omega) (by omega))
theorem Zps {c:Cb} {p:Pl} {n:Int} (hc:CbOk c n) (hp:PlOk p n) (hn:n≤40):∀i,i≤c.ps.length→XL (afS c p i) (1+12*i) 3 (4*i)
 | 0,_=>XL.nil.mono (by omega) (by omega) (by omega)
 | i+1,hi=>((Zps hc hp hn i (by omega)).add ((Zlh hc (show i < _ by omega)).mul (at_xl hp (Zh1 hc (by omega)) hn))).mono (by omega) (by omega) (by omega)
theorem prT_xl {c:Cb} {n:Int} (hc:CbOk c n) (hn:n≤40) {i j:Nat} (hi:i < c.ps.length) (hj:j < c.ps.length):XL (prT c i j) 21 5 16:=by
 have h1:=Zh1 hc hi;have h2:=Zh1 hc hj;exact(((Zlh hc hi).mul (Zlh hc hj)).mul (Zci (Za5 (.inr rfl) (by omega) (by omega) (by omega)))).mono (by omega) (by omega) (by omega)
theorem Zyb {c:Cb} {n:Int} (hc:CbOk c n) (hn:n≤40) {i:Nat} {acc:QTs} {k l:Nat} (ha:XL acc k 5 l):∀d,i+d < c.ps.length→XL (in2 c i acc d) (k+22*d) 5 (l+16*d)
 | 0,_=>ha.mono (by omega) (by omega) (by omega)
 | d+1,h=>((Zyb hc hn ha d (by omega)).sub (prT_xl hc hn (show i < _ by omega) (show i+1+d < _ by omega))).mono (by omega) (by omega) (by omega)
theorem Zqk {c:Cb} {n:Int} (hc:CbOk c n) (hn:n≤40) {acc:QTs} {k l:Nat} (ha:XL acc k 5 l):∀i,i≤c.ps.length→XL (out2 c c.ps.length acc i) (k+66*i) 5 (l+48*i)
 | 0,_=>ha.mono (by omega) (by omega) (by omega)
 | i+1,h=>by
   have h3:=hc.few;have h1:=Zyb hc hn (Zqk hc hn ha i (by omega)) (c.ps.length - (i+1)) (i:=i) (by omega);exact h1.mono (by omega) (Nat.le_refl _) (by omega)
theorem afM_xl {c:Cb} {p:Pl} {n:Int} (hc:CbOk c n) (hp:PlOk p n) (hn:n≤40):XL (mulX c.be (afS c p c.ps.length)) 47 5 48:=by
 have h3:=hc.few;have h1:=hc.be.mul (Zps hc hp hn c.ps.length (Nat.le_refl _));exact h1.mono (by omega) (by omega) (by omega)
theorem afN_xl {c:Cb} {p:Pl} {n:Int} (hc:CbOk c n) (hp:PlOk p n) (hn:n≤40):XL (afN c p) 245 5 192:=by
 have h3:=hc.few;unfold afN;split
 ·exact(Zqk hc hn (afM_xl hc hp hn) c.ps.length (Nat.le_refl _)).mono (by omega) (Nat.le_refl _) (by omega)
 ·exact(Zps hc hp hn c.ps.length (Nat.le_refl _)).mono (by omega) (by omega) (by omega)
theorem afD_xl {c:Cb} {p:Pl} {n:Int} (hc:CbOk c n):XL (afD c p) 20 4 16:=by
 unfold afD;split
 ·exact(hc.be.mul hc.be).mono (by omega) (by omega) (by omega)
 ·exact hc.be.mono (by omega) (by omega) (by omega)
abbrev hfX (p:QTs):QTs:=mulX (nX (1/2)) p
def tuX (s a b:Int) (p:Pl):QTs :=
 if p.k=1 then Za6 (aX s p.q p.r) (hfX (subX (pX p.r p.q b) (pX p.r p.q a)))
 else if p.mid=true then Za6 (pX p.q s p.r) (subX (pX a b a) (twX (subX (Za6 (aX a b p.q) (aX a b p.r)) (twX (aX a b s)))))
 else Za6 (pX s p.q p.r) (twX (subX (aX a b p.r) (aX a b p.q)))
def tuR (s a b:Int) (p:Pl):QTs :=
 if p.k=1 then Za6 (aX s p.q p.r) (sclT (1/2) (subX (pX p.r p.q b) (pX p.r p.q a)))
 else if p.mid=true then Za6 (subX (pX p.q s p.r) (sclT 2 (subX (Za6 (aX a b p.q) (aX a b p.r)) (sclT 2 (aX a b s))))) (pX a b a)
 else Za6 (pX s p.q p.r) (sclT 2 (subX (aX a b p.r) (aX a b p.q)))
theorem EX.sub {p q:QTs} (hp:EX p) (hq:EX q):EX (subX p q):=Zgh Zbk hp hq.neg
theorem EX.add {p q:QTs} (hp:EX p) (hq:EX q):EX (Za6 p q):=Zgh Zbk hp hq
theorem EX.scl {p:QTs} (hp:EX p) {c:Rat} (h0:c≠0):EX (sclT c p):=by
 refine⟨λt ht=>?_,List.pairwise_map.2 hp.2⟩;obtain⟨u,hu,rfl⟩:=List.mem_map.1 ht;exact⟨λh1=>(Rat.mul_eq_zero.1 h1).elim h0 (hp.1 u hu).1,(hp.1 u hu).2⟩
theorem Zme:Sz (1/2:Rat) 1:=⟨by decide +kernel,by decide +kernel⟩
theorem tu_xl {s a b n:Int} {p:Pl} (hp:PlOk p n) (hn:n≤40) (hs:0≤s∧s < n) (ha:0≤a∧a < n) (hb:0≤b∧b < n):XL (tuX s a b p) 16 1 8:=by
 have hq:=hp.q;have hr:=hp.r;have eA:∀x y z:Int,(0≤x∧x < n)→(0≤y∧y < n)→(0≤z∧z < n)→XL (aX x y z) 1 1 1:=λx y z h1 h2 h3=>Zci (Za5 (.inl rfl) (by omega) (by omega) (by omega));have eP:∀x y z:Int,(0≤x∧x < n)→(0≤y∧y < n)→(0≤z∧z < n)→XL (pX x y z) 1 1 1:=λx y z h1 h2 h3=>Zci (Za5 (.inr rfl) (by omega) (by omega) (by omega));have c2:XL (nX 2) 2 0 1:=Zez Zjb;have ch:XL (nX (1/2)) 2 0 1:=Zez Zme;unfold tuX;split
 ·exact((eA _ _ _ hs hq hr).add (ch.mul ((eP _ _ _ hr hq hb).sub (eP _ _ _ hr hq ha)))).mono (by decide) (by decide) (by decide)
 ·split
  ·exact((eP _ _ _ hq hs hr).add ((eP _ _ _ ha hb ha).sub (c2.mul (((eA _ _ _ ha hb hq).add (eA _ _ _ ha hb hr)).sub (c2.mul (eA _ _ _ ha hb hs)))))).mono (by decide) (by decide) (by decide)
  ·exact((eP _ _ _ hs hq hr).add (c2.mul ((eA _ _ _ ha hb hr).sub (eA _ _ _ ha hb hq)))).mono (by decide) (by decide) (by decide)
section
variable {α:Type} {cmp:α→α→Int}
theorem Zxx (o:CO cmp) (x:α):∀{l m:List α},Asc cmp l→Asc cmp m→l.length=m.length→lexL cmp l m < 0→lexL cmp (putQ cmp l x) (putQ cmp m x) < 0
 | [],[],_,_,_,h=>by exact absurd h (by simp [lexL])
 | [],_ :: _,_,_,h,_=>by simp at h
 | _ :: _,[],_,_,h,_=>by simp at h
 | a :: l,b :: m,hl,hm,hlen,h=>by
   rw [Zb1] at h;have fl:∀y z,¬cmp y z≤0→cmp z y < 0:=λy z h=>(o.flip z y).2 (by omega);by_cases hab:cmp a b=0
   ·rw [if_pos hab] at h;obtain rfl:=o.eqz _ _ hab;have ih:=Zxx o x (List.pairwise_cons.1 hl).2 (List.pairwise_cons.1 hm).2 (by simpa using hlen) h;unfold putQ;by_cases hx:cmp a x≤0
    ·rw [if_pos hx,if_pos hx,Zb1,if_pos (o.refl a)];exact ih
    ·rw [if_neg hx,if_neg hx,Zb1,if_pos (o.refl x),Zb1,if_pos (o.refl a)];exact h
   ·rw [if_neg hab] at h;have hal:∀c∈l,cmp a c≤0:=(List.pairwise_cons.1 hl).1;unfold putQ;by_cases hx:cmp a x≤0
    ·rw [if_pos hx];by_cases hy:cmp b x≤0
     ·rw [if_pos hy,Zb1,if_neg hab];exact h
     ·rw [if_neg hy,Zb1];have hxb:=fl _ _ hy;by_cases hax:cmp a x=0
      ·rw [if_pos hax];obtain rfl:=o.eqz _ _ hax
       cases l with
       | nil =>
         show lexL cmp [a] (b :: m) < 0;rw [Zb1,if_neg hab];exact h
       | cons c l =>
         unfold putQ;by_cases hc:cmp c a≤0
         ·rw [if_pos hc,Zb1];have h1:=hal c (.head _)
          have h2:cmp a c=0:=by
           rcases Int.lt_or_eq_of_le h1 with h3 | h3
           ·have:=(o.flip a c).1 h3;omega
           ·exact h3
          obtain rfl:=o.eqz _ _ h2;rw [if_neg hab];exact h
         ·rw [if_neg hc,Zb1,if_neg hab];exact h
      ·rw [if_neg hax];omega
    ·rw [if_neg hx];have hxa:=fl _ _ hx;have hxb:=o.tr _ _ _ hxa h;have hb:¬cmp b x≤0:=by have:=(o.flip x b).1 hxb;omega
     rw [if_neg hb,Zb1,if_pos (o.refl x),Zb1,if_neg hab];exact h
theorem Zsf (x:α) (l:List α):(putQ cmp l x).length=l.length+1:=(Zfr x l).length_eq
theorem ord_put (o:CO cmp) (x:α) {l m:List α} (hl:Asc cmp l) (hm:Asc cmp m) (h:ordL cmp l m < 0):ordL cmp (putQ cmp l x) (putQ cmp m x) < 0:=by
 unfold ordL at *;rw [Zsf,Zsf];by_cases h1:l.length < m.length
 ·rw [if_pos (by omega)];decide
 ·rw [if_neg h1] at h;by_cases h2:m.length < l.length
  ·rw [if_pos h2] at h;exact absurd h (by decide)
  ·rw [if_neg h2] at h;rw [if_neg (by omega),if_neg (by omega)];exact Zxx o x hl hm (by omega) h
end
theorem mu_put (a c:List Qt) (x:Qt):muQ a (x :: c)=putQ Qt.cmp (muQ a c) x :=
 Zfo qtO (Zbz qtO.cp _) (Zju qtO.cp x (Zbz qtO.cp _)) ((Za2 _).trans ((List.perm_middle).trans (((Za2 (a++c)).symm.cons x).trans (Zfr x _).symm)))
theorem mu_nil {a:List Qt} (h:Asc Qt.cmp a):muQ a []=a:=Zfo qtO (Zbz qtO.cp _) h (by show(srtQ Qt.cmp (a++[])).Perm a;rw [List.append_nil];exact Za2 _)
theorem mu_lt {a b:List Qt} (ha:Asc Qt.cmp a) (hb:Asc Qt.cmp b) (h:ordQ a b < 0):∀c,ordQ (muQ a c) (muQ b c) < 0
 | []=>by rw [mu_nil ha,mu_nil hb];exact h
 | x :: c=>by
   rw [mu_put,mu_put];exact ord_put qtO x (Zbz qtO.cp _) (Zbz qtO.cp _) (mu_lt ha hb h c)
theorem Zj2 {κ:Type} {f:κ→Rat}:∀{l:List (Rat × κ)},(∀t∈l,f t.2=0)→evl f l=0
 | [],_=>rfl
 | t :: l,h=>by
   show t.1*f t.2+evl f l=0;rw [h t (.head _),Zj2 λu hu=>h u (.tail _ hu),Rat.mul_zero,Rat.add_zero]
theorem mul_ne {p q:QTs} (hp:EX p) (hq:EX q) (h1:p≠[]) (h2:q≠[]):mulX p q≠[]:=by
 cases p with
 | nil=>exact absurd rfl h1
 | cons s p =>
   cases q with
   | nil=>exact absurd rfl h2
   | cons t q =>
     have dp:=hp.dom;have dq:=hq.dom;have op:∀u∈p,ordQ s.2 u.2 < 0:=(List.pairwise_cons.1 hp.2).1;have oq:∀u∈q,ordQ t.2 u.2 < 0:=(List.pairwise_cons.1 hq.2).1;intro h0;have ne:∀{a b:List Qt},ordQ a b < 0→b≠a:=λh e=>by rw [e,Zbk.refl] at h;omega
     have k1:∀u∈q,muQ s.2 u.2≠muQ s.2 t.2:=λu hu=>by
      rw [rgQ.comm s.2,rgQ.comm s.2];exact ne (mu_lt (dq t (.head _)).1 (dq u (.tail _ hu)).1 (oq u hu) s.2)
     have k2:∀u∈p,∀v∈t :: q,muQ u.2 v.2≠muQ s.2 t.2:=λu hu v hv=>by
      have a1:=mu_lt (dp s (.head _)).1 (dp u (.tail _ hu)).1 (op u hu) v.2;rcases List.mem_cons.1 hv with rfl | hv
      ·exact ne a1
      ·have a2:=mu_lt (dq t (.head _)).1 (dq v (.tail _ hv)).1 (oq v hv) s.2;rw [rgQ.comm t.2,rgQ.comm v.2] at a2;exact ne (Zbk.tr _ _ _ a2 a1)
     have e:=Zfn Zbk (λk:List Qt=>if k=muQ s.2 t.2 then (1:Rat) else 0) (s :: p) (t :: q) (mu:=muQ);have e0:mlG ordQ muQ (s :: p) (t :: q)=[]:=h0;rw [e0] at e
     have e1:evl (λk'=>if muQ s.2 k'=muQ s.2 t.2 then (1:Rat) else 0) (t :: q)=t.1:=by
      show t.1*(if muQ s.2 t.2=muQ s.2 t.2 then (1:Rat) else 0)+_=_;rw [if_pos rfl,Zj2 λu hu=>if_neg (k1 u hu),Rat.mul_one,Rat.add_zero]
     have e2:evl (λk=>evl (λk'=>if muQ k k'=muQ s.2 t.2 then (1:Rat) else 0) (t :: q)) p=0:=Zj2 λu hu=>Zj2 λv hv=>if_neg (k2 u hu v hv);have e3:(0:Rat)=s.1*evl (λk'=>if muQ s.2 k'=muQ s.2 t.2 then (1:Rat) else 0) (t :: q)+evl (λk=>evl (λk'=>if muQ k k'=muQ s.2 t.2 then (1:Rat) else 0) (t :: q)) p:=e;rw [e1,e2,Rat.add_zero] at e3;rcases Rat.mul_eq_zero.1 e3.symm with h | h
     ·exact(hp.1 s (.head _)).1 h
     ·exact(hq.1 t (.head _)).1 h
abbrev noP (x:Int) (q:Qt):Prop:=hasQ x q=false
theorem Zpb {q:Qt} {x:Int} (h:hasQ x q=true):q.ok=true∧q.k≠3∧(x=q.a∨x=q.b∨x=q.c):=by
 unfold hasQ Qt.pts at h;split at h
 ·rename_i hk;obtain⟨y,hy,hxy⟩:=List.any_eq_true.1 h;obtain⟨n,hn,rfl⟩:=List.mem_map.1 hy;have hp:=(List.mem_filter.1 hn).2;have hxy:x=(n:Int):=by simpa using hxy
  unfold isP at hp;simp at hp;exact⟨hk.1,hk.2,by omega⟩
 ·simp at h
theorem Zs9 {q:Qt} {x:Int} (hok:q.ok=true) (hk:q.k≠3) (h:x=q.a∨x=q.b∨x=q.c):hasQ x q=true:=by
 have hr:0≤x∧x < 40:=by
  unfold Qt.ok at hok;simp at hok;omega
 unfold hasQ Qt.pts;rw [if_pos ⟨hok,hk⟩];refine List.any_eq_true.2 ⟨x,List.mem_map.2 ⟨x.toNat,List.mem_filter.2 ⟨List.mem_range.2 (by omega),?_⟩,by omega⟩,by simp⟩;unfold isP;simp;omega
theorem Zjx {q:Qt} {x:Int} (hs:q.norm.2≠0) (h:hasQ x q.norm.1=true):x=q.a∨x=q.b∨x=q.c:=by
 obtain⟨_,_,h⟩:=Zpb h;obtain⟨k,a,b,c⟩:=q;unfold Qt.norm at h hs;simp only at h hs ⊢;split at h
 ·rename_i hk;rw [if_pos hk] at hs;split at h
  ·rename_i h1;rw [if_pos h1] at hs;unfold Zec at h hs;split at h
   ·rename_i h2;rw [if_pos h2] at hs;exact absurd rfl hs
   ·(repeat' split at h)<;>simp only at h<;>omega
  ·rename_i h1;rw [if_neg h1] at hs;split at h
   ·rename_i h3;rw [if_pos h3] at hs;unfold Zfi at h hs;split at h
    ·rename_i h2;rw [if_pos h2] at hs;exact absurd rfl hs
    ·(repeat' split at h)<;>simp only at h<;>omega
   ·exact h
 ·rename_i hk;rw [if_neg hk] at hs;exact absurd rfl hs
theorem of_no {q:Qt} {x:Int} (h:q.k=3∨(x≠q.a∧x≠q.b∧x≠q.c)):alQ (noP x) (ofX q):=by
 unfold ofX;split
 ·exact λt ht=>by cases ht
 ·rename_i hs;intro t ht r hr;rw [List.mem_singleton.1 ht] at hr;rw [List.mem_singleton.1 hr]
  cases hh:hasQ x q.norm.1 with
  | false=>exact hh
  | true =>
    exfalso;rcases h with h3 | ⟨h1,h2,h3⟩
    ·obtain⟨h4,h5,_⟩:=Zpb hh;obtain⟨k,a,b,c⟩:=q;simp only at h3;subst h3;unfold Qt.norm at h5 hs;split at h5
     ·exact h5 rfl
     ·rename_i hk;rw [if_neg hk] at hs;exact hs rfl
    ·rcases Zjx hs hh with h4 | h4 | h4
     ·exact h1 h4
     ·exact h2 h4
     ·exact h3 h4
theorem a_no {x a b c:Int} (h1:x≠a) (h2:x≠b) (h3:x≠c):alQ (noP x) (aX a b c):=of_no (.inr ⟨h1,h2,h3⟩)
theorem p_no {x a b c:Int} (h1:x≠a) (h2:x≠b) (h3:x≠c):alQ (noP x) (pX a b c):=of_no (.inr ⟨h1,h2,h3⟩)
theorem alQ.sub {C:Qt→Prop} {p q:QTs} (hp:alQ C p) (hq:alQ C q):alQ C (subX p q):=hp.join (hq.scl _)
theorem alQ.emp {C:Qt→Prop}:alQ C []:=λt ht=>by cases ht
theorem cb_no {k t:Int} {a:List Int} {r:Rat} {x:Int} {c:Cb} (h:cbOf k a r t=some c) (ha:∀i,i < a.length→x≠gI a i) (h0:x≠0∨4≤a.length)
 (hl:(k=3→a.length=3)∧(k=11→a.length=3)∧(k=2∨k=5→2≤a.length)∧(k=7∨k=8∨k=10→3≤a.length)∧(k=9→4≤a.length)) :
 (∀w∈c.ab,alQ (noP x) w)∧alQ (noP x) c.be∧∀y∈c.ps,x≠y:=by
 obtain⟨l3,l11,l2,l7,l9⟩:=hl;have hmem:∀y∈a,x≠y:=λy hy=>by
  obtain⟨i,hi,rfl⟩:=List.getElem_of_mem hy;have:=ha i hi
  rwa [Zfk hi] at this
 have nn:∀u:Rat,alQ (noP x) (nX u):=λu=>Zzf u
 have pr:∀{y z:Int} {p b:QTs},alQ (noP x) p→alQ (noP x) b→x≠y→x≠z→(∀w∈(prC y z p b).ab,alQ (noP x) w)∧alQ (noP x) (prC y z p b).be∧∀y'∈(prC y z p b).ps,x≠y':=by
  intro y z p b hp hb hy hz;refine⟨λw hw=>?_,hb,λv hv=>?_⟩
  ·rcases List.mem_cons.1 hw with rfl | hw
   ·exact hb.sub hp
   ·rw [List.mem_singleton.1 hw];exact hp
  ·rcases List.mem_cons.1 hv with rfl | hv
   ·exact hy
   ·rw [List.mem_singleton.1 hv];exact hz
 have tri:∀{u v z:QTs} {w:QTs},alQ (noP x) u→alQ (noP x) v→alQ (noP x) z→w∈[u,v,z]→alQ (noP x) w:=by
  intro u v z w hx hy hz hw;rcases List.mem_cons.1 hw with rfl | hw
  ·exact hx
  ·rcases List.mem_cons.1 hw with rfl | hw
   ·exact hy
   ·rw [List.mem_singleton.1 hw];exact hz
 unfold cbOf at h;split at h
 ·rename_i hk;cases h;have:=l2 (.inl hk);exact pr (nn _) (nn _) (ha 0 (by omega)) (ha 1 (by omega))
 split at h
 ·rename_i hk;cases h;exact⟨λw hw=>tri (nn 1) (nn (-1)) (nn 1) hw,nn 1,hmem⟩
 split at h
 ·rename_i hk;cases h;have:=l2 (.inr hk);exact pr (of_no (.inl rfl)) (nn _) (ha 0 (by omega)) (ha 1 (by omega))
 split at h
 ·rename_i hk;cases h;have:=l9 hk;have p1:=a_no (ha 0 (by omega)) (ha 2 (by omega)) (ha 3 (by omega));have p2:=a_no (ha 1 (by omega)) (ha 2 (by omega)) (ha 3 (by omega));exact pr p1 (p1.sub p2) (ha 0 (by omega)) (ha 1 (by omega))
 split at h
 ·rename_i hk;cases h;have:=l7 (.inl hk);exact pr (p_no (ha 0 (by omega)) (ha 1 (by omega)) (ha 2 (by omega))) (p_no (ha 2 (by omega)) (ha 1 (by omega)) (ha 2 (by omega))) (ha 1 (by omega)) (ha 2 (by omega))
 split at h
 ·rename_i hk;cases h;have:=l7 (.inr (.inl hk));have p1:=p_no (ha 0 (by omega)) (ha 1 (by omega)) (ha 2 (by omega));have p2:=p_no (ha 2 (by omega)) (ha 1 (by omega)) (ha 2 (by omega));refine⟨λw hw=>tri ((nn _).mul (p2.sub p1)) ((nn _).mul p1) (alQ.emp.sub p2) hw,p2,λy hy=>?_⟩;rcases List.mem_cons.1 hy with rfl | hy
  ·exact ha 1 (by omega)
  ·rcases List.mem_cons.1 hy with rfl | hy
   ·exact ha 2 (by omega)
   ·rw [List.mem_singleton.1 hy];exact ha 0 (by omega)
 split at h
 ·rename_i hk;cases h;have:=l7 (.inr (.inr hk));exact pr ((nn _).mul (p_no (ha 2 (by omega)) (ha 0 (by omega)) (ha 1 (by omega)))) (p_no (ha 1 (by omega)) (ha 0 (by omega)) (ha 1 (by omega))) (ha 0 (by omega)) (ha 1 (by omega))
 split at h
 ·rename_i hk;cases h;have:=l11 hk;have g0:=ha 0 (by omega);have g1:=ha 1 (by omega);have g2:=ha 2 (by omega);have w1:=(p_no g1 g2 g1).mul (p_no g1 g0 g2);have w2:=(p_no g2 g0 g2).mul (p_no g2 g1 g0);have w3:=(p_no g0 g1 g0).mul (p_no g0 g2 g1);exact⟨λw hw=>tri w1 w2 w3 hw,(w1.join w2).join w3,hmem⟩
 ·cases h
theorem pl_no {n:Qt} {x:Int} (hn:n.norm=(n,1)) (hx:hasQ x n=true):x≠(plOf n x).q∧x≠(plOf n x).r∧(plOf n x).k=n.k:=by
 obtain⟨_,hk,hx⟩:=Zpb hx;have hok:=Zqp hn;obtain⟨k,a,b,c⟩:=n;simp only at hk hx
 have h1:k=1∨k=2:=by
  unfold Qt.ok at hok;simp at hok;omega
 unfold Qt.norm at hn;rw [if_pos hok] at hn;simp only at hn;unfold plOf;simp only;rcases h1 with rfl | rfl
 ·rw [if_pos rfl] at hn
  have h3:a≠b∧b≠c∧a≠c:=by
   unfold Zec at hn;split at hn
   ·simp [Qt.zero] at hn
   ·omega
  rw [if_pos rfl];split
  ·exact⟨by show x≠b;omega,by show x≠c;omega,rfl⟩
  ·split
   ·exact⟨by show x≠c;omega,by show x≠a;omega,rfl⟩
   ·exact⟨by show x≠a;omega,by show x≠b;omega,rfl⟩
 ·rw [if_neg (by decide),if_pos rfl] at hn
  have h3:a≠b∧b≠c:=by
   unfold Zfi at hn;split at hn
   ·simp [Qt.zero] at hn
   ·omega
  rw [if_neg (by decide)];split
  ·exact⟨by show x≠b;omega,by show x≠b;omega,rfl⟩
  ·split
   ·exact⟨by show x≠a;omega,by show x≠c;omega,rfl⟩
   ·split
    ·exact⟨by show x≠b;omega,by show x≠c;omega,rfl⟩
    ·exact⟨by show x≠b;omega,by show x≠a;omega,rfl⟩
theorem at_no {p:Pl} {x y:Int} (h1:x≠p.q) (h2:x≠p.r) (h3:x≠y):alQ (noP x) (p.at y):=by
 unfold Pl.at;split
 ·exact a_no h3 h1 h2
 ·split
  ·exact p_no h1 h3 h2
  ·exact p_no h3 h1 h2
section
variable {c:Cb} {p:Pl} {x:Int}
theorem ab_no (ha:∀w∈c.ab,alQ (noP x) w) (i:Nat):alQ (noP x) (c.ab.getD i []):=by
 by_cases h:i < c.ab.length
 ·rw [Zcq h];exact ha _ (List.getElem_mem h)
 ·rw [List.getD_eq_getElem?_getD,List.getElem?_eq_none (by omega)];exact alQ.emp
theorem Zzu (ha:∀w∈c.ab,alQ (noP x) w) (hp:∀y∈c.ps,x≠y) (h1:x≠p.q) (h2:x≠p.r):∀i,i≤c.ps.length→alQ (noP x) (afS c p i)
 | 0,_=>alQ.emp
 | i+1,hi=>(Zzu ha hp h1 h2 i (by omega)).join ((ab_no ha i).mul (at_no h1 h2 (by rw [Zfk (show i < c.ps.length by omega)];exact hp _ (List.getElem_mem _))))
theorem prT_no (ha:∀w∈c.ab,alQ (noP x) w) (hp:∀y∈c.ps,x≠y) {i j:Nat} (hi:i < c.ps.length) (hj:j < c.ps.length):alQ (noP x) (prT c i j):=by
 have g:∀{i:Nat},i < c.ps.length→x≠gI c.ps i:=λh=>by rw [Zfk h];exact hp _ (List.getElem_mem _)
 exact((ab_no ha i).mul (ab_no ha j)).mul (p_no (g hi) (g hj) (g hi))
theorem in2_no (ha:∀w∈c.ab,alQ (noP x) w) (hp:∀y∈c.ps,x≠y) {i:Nat} {acc:QTs} (hc:alQ (noP x) acc):∀d,i+d < c.ps.length→alQ (noP x) (in2 c i acc d)
 | 0,_=>hc
 | d+1,h=>(in2_no ha hp hc d (by omega)).sub (prT_no ha hp (by omega) (by omega))
theorem Zw3 (ha:∀w∈c.ab,alQ (noP x) w) (hp:∀y∈c.ps,x≠y) {acc:QTs} (hc:alQ (noP x) acc):∀i,i≤c.ps.length→alQ (noP x) (out2 c c.ps.length acc i)
 | 0,_=>hc
 | i+1,h=>in2_no ha hp (Zw3 ha hp hc i (by omega)) _ (by omega)
theorem afN_no (ha:∀w∈c.ab,alQ (noP x) w) (hb:alQ (noP x) c.be) (hp:∀y∈c.ps,x≠y) (h1:x≠p.q) (h2:x≠p.r):alQ (noP x) (afN c p):=by
 unfold afN;split
 ·exact Zw3 ha hp (hb.mul (Zzu ha hp h1 h2 _ (Nat.le_refl _))) _ (Nat.le_refl _)
 ·exact Zzu ha hp h1 h2 _ (Nat.le_refl _)
theorem afD_no (hb:alQ (noP x) c.be):alQ (noP x) (afD c p):=by
 unfold afD;split
 ·exact hb.mul hb
 ·exact hb
theorem afD_ne (he:EX c.be) (h0:c.be≠[]):afD c p≠[]:=by
 unfold afD;split
 ·exact mul_ne he he h0 h0
 ·exact h0
theorem tu_no {s a b:Int} (h1:x≠p.q) (h2:x≠p.r) (hs:x≠s) (ha:x≠a) (hb:x≠b):alQ (noP x) (tuX s a b p):=by
 have nn:∀u:Rat,alQ (noP x) (nX u):=λu=>Zzf u;unfold tuX;split
 ·exact(a_no hs h1 h2).join ((nn _).mul ((p_no h2 h1 hb).sub (p_no h2 h1 ha)))
 ·split
  ·exact(p_no h1 hs h2).join ((p_no ha hb ha).sub ((nn _).mul (((a_no ha hb h1).join (a_no ha hb h2)).sub ((nn _).mul (a_no ha hb hs)))))
  ·exact(p_no hs h1 h2).join ((nn _).mul ((a_no ha hb h2).sub (a_no ha hb h1)))
end
theorem Zf6 {α:Type} {P:List α→Prop} (h0:P []) (h1:∀l a,P l→P (l++[a])):∀l,P l:=λl=>by
 have h:∀l:List α,P l.reverse:=λl=>by
  induction l with
  | nil=>exact h0
  | cons a l ih=>rw [List.reverse_cons];exact h1 _ _ ih
 have g:=h l.reverse
 rwa [List.reverse_reverse] at g
theorem Zpx {q:Qt} {l:List Qt}:tmQ q l=0↔q ∉ l:=by
 unfold tmQ;rw [List.length_eq_zero_iff,List.filter_eq_nil_iff];constructor
 ·intro h hq;exact h q hq (by simp)
 ·intro h x hx hd;have:x=q:=by simpa using hd
  exact h (this ▸ hx)
def hvS (x:Int) (s:List Qt × List Qt) (q:Qt):List Qt × List Qt:=(s.1++[q],if tmQ q s.1=0∧hasQ x q=true then s.2++[q] else s.2)
def hvP (x:Int) (l:List Qt):List Qt:=(l.foldl (hvS x) ([],[])).2
def hvR (x:Int) (o:List Qt) (q:Qt):List Qt:=if hasQ x q=true∧tmQ q o=0 then putQ Qt.cmp o q else o
def hvL (x:Int) (l:List Qt):List Qt:=l.foldl (hvR x) []
theorem Zyd (x:Int):∀(l:List Qt) (s:List Qt × List Qt),(l.foldl (hvS x) s).1=s.1++l
 | [],s=>(List.append_nil _).symm
 | q :: l,s=>by rw [List.foldl_cons,Zyd x l];show(s.1++[q])++l=_;rw [List.append_assoc];rfl
theorem Zip (x:Int) (l:List Qt) (q:Qt):hvP x (l++[q])=if tmQ q l=0∧hasQ x q=true then hvP x l++[q] else hvP x l:=by
 unfold hvP;rw [List.foldl_append];show(hvS x (l.foldl (hvS x) ([],[])) q).2=_;unfold hvS;simp only;have h:=Zyd x l ([],[]);rw [List.nil_append] at h;unfold hvS at h;rw [h]
theorem Zs8 (x:Int) (l:List Qt) (q:Qt):hvL x (l++[q])=hvR x (hvL x l) q:=by
 unfold hvL;rw [List.foldl_append];rfl
theorem Zxt {x:Int} {q:Qt}:∀l,q∈hvP x l↔q∈l∧hasQ x q=true:=by
 refine Zf6 ?_ λl a ih=>?_
 ·show q∈([]:List Qt)↔_;simp
 ·rw [Zip,List.mem_append,List.mem_singleton];split
  ·rename_i h;rw [List.mem_append,List.mem_singleton,ih];constructor
   ·rintro (⟨h1,h2⟩ | h1)
    ·exact⟨.inl h1,h2⟩
    ·exact⟨.inr h1,h1 ▸ h.2⟩
   ·rintro ⟨h1 | h1,h2⟩
    ·exact .inl ⟨h1,h2⟩
    ·exact .inr h1
  ·rename_i h;rw [ih];constructor
   ·rintro ⟨h1,h2⟩;exact⟨.inl h1,h2⟩
   ·rintro ⟨h1 | h1,h2⟩
    ·exact⟨h1,h2⟩
    ·subst h1;refine⟨Classical.byContradiction λh3=>h ⟨Zpx.2 h3,h2⟩,h2⟩
theorem Zq6 {x:Int}:∀l,(hvP x l).Perm (hvL x l):=by
 refine Zf6 (List.Perm.refl _) λl a ih=>?_;rw [Zip,Zs8];unfold hvR
 have e:tmQ a l=0∧hasQ x a=true↔hasQ x a=true∧tmQ a (hvL x l)=0:=by
  rw [Zpx,Zpx,←ih.mem_iff,Zxt];constructor
  ·rintro ⟨h1,h2⟩;exact⟨h2,λh=>h1 h.1⟩
  ·rintro ⟨h1,h2⟩;exact⟨λh=>h2 ⟨h,h1⟩,h1⟩
 by_cases h:tmQ a l=0∧hasQ x a=true
 ·rw [if_pos h,if_pos (e.1 h)];exact((ih.append_right _).trans List.perm_append_comm).trans (Zfr a _).symm
 ·rw [if_neg h,if_neg λg=>h (e.2 g)];exact ih
theorem hvL_asc {x:Int}:∀l,Asc Qt.cmp (hvL x l):=by
 refine Zf6 List.Pairwise.nil λl a ih=>?_;rw [Zs8];unfold hvR;split
 ·exact Zju qtO.cp a ih
 ·exact ih
theorem hv_eq (x:Int) (l:List Qt):srtQ Qt.cmp (hvP x l)=hvL x l:=Zfo qtO (Zbz qtO.cp _) (hvL_asc l) ((Za2 _).trans (Zq6 l))
theorem Zqy {x:Int} {q:Qt} {l:List Qt}:q∈hvL x l↔q∈l∧hasQ x q=true:=by rw [←(Zq6 l).mem_iff,Zxt]
theorem Zq7 (x:Int):∀l,(hvP x l).length≤l.length:=by
 refine Zf6 (Nat.le_refl _) λl a ih=>?_;rw [Zip,List.length_append];split
 ·rw [List.length_append];exact Nat.add_le_add_right ih _
 ·omega
theorem Zye (x:Int) (l:List Qt):(hvL x l).length≤l.length:=by rw [←(Zq6 l).length_eq];exact Zq7 x l
def flQ (p:QTs):List Qt:=p.flatMap λt=>t.2
theorem Zm2 {p:QTs} {q:Qt}:q∈flQ p↔∃t∈p,q∈t.2:=List.mem_flatMap
def rsX (p q:QTs):Nat→QTs
 | 0=>p
 | n+1=>mulX (rsX p q n) q
theorem rs_pw {p q:QTs} (hp:EX p) (hq:EX q):∀n,rsX p q n=mulX p (pwX q n)
 | 0=>(Zxq rgQ hp).symm
 | n+1=>by
   show mulX (rsX p q n) q=mulX p (mulX (pwX q n) q);rw [rs_pw hp hq n];exact Zig rgQ hp (Zh0 rgQ hq n) hq
abbrev XX:=QTs × QTs
def elS (q:Qt) (b x:XX):XX:=(mulX (rpN q x.1 b.1 b.2) (pwX b.2 (moQ q x.2 - moQ q x.1)),mulX (rpN q x.2 b.1 b.2) (pwX b.2 (moQ q x.1 - moQ q x.2)))
def elF (lem:Qt→Int × XX):List Qt→XX→Int × XX
 | [],x=>(0,x)
 | q :: l,x =>
   if (lem q).1≠0 then ((lem q).1,([],[]))
   else if 4000 < (elS q (lem q).2 x).1.length∨4000 < (elS q (lem q).2 x).2.length then (4,([],[]))
   else elF lem l (elS q (lem q).2 x)
def elT (r:Int × XX):Int × XX :=
 if r.1≠0 then (r.1,([],[]))
 else if r.2.2=[] then (3,([],[]))
 else if r.2.1=[] then (0,([],[((1:Rat),[])]))
 else (0,r.2)
def cntX (x:Int) (c:Nat) (p:QTs):Prop:=∀t∈p,(t.2.filter λq=>hasQ x q).length≤c
section
variable {x:Int} {c d:Nat} {p q:QTs}
theorem cntX.mono (h:cntX x c p) (hc:c≤d):cntX x d p:=λt ht=>Nat.le_trans (h t ht) hc
theorem cntX.join (hp:cntX x c p) (hq:cntX x c q):cntX x c (Za6 p q):=λt ht=>by
 obtain⟨s,hs,e⟩:=Zih ht;rw [e];rcases List.mem_append.1 hs with h | h
 ·exact hp s h
 ·exact hq s h
theorem cntX.gat {l:QTs} (h:cntX x c l):cntX x c (gatM l):=by
 rw [←Zqt];intro t ht;exact Zi6 (P:=λy=>(y.filter λq=>hasQ x q).length≤c) l [] (λt ht=>by cases ht) h t (List.mem_filter.1 ((Za2 _).mem_iff.1 ht)).1
theorem cntX.mul (hp:cntX x c p) (hq:cntX x d q):cntX x (c+d) (mulX p q):=cntX.gat λu hu=>by
 obtain⟨s,hs,t,ht,rfl⟩:=Zfs hu;show((muQ s.2 t.2).filter _).length≤_;rw [((Za2 (cmp:=Qt.cmp) (s.2++t.2)).filter _).length_eq,List.filter_append,List.length_append];exact Nat.add_le_add (hp s hs) (hq t ht)
theorem cntX.part {a:QTs} (h:cntX x c a) (q:Qt) (k:Nat):cntX x c (paQ q a k):=cntX.gat λu hu=>by
 obtain⟨t,ht,rfl⟩:=Zjf hu;refine Nat.le_trans ?_ (h t ht);show((woQ q t.2).filter _).length≤_;exact((List.filter_sublist (p:=λx=>decide (x≠q)) (l:=t.2)).filter _).length_le
theorem Ztk (h:alQ (noP x) p):cntX x 0 p:=λt ht=>by
 rw [List.filter_eq_nil_iff.2 λq hq=>by rw [h t ht q hq];decide];exact Nat.le_refl _
theorem cntX.rf {P:Nat→QTs} {a d:QTs} (hP:∀k,cntX x c (P k)) (ha:alQ (noP x) a) (hd:alQ (noP x) d) (m:Nat):∀i,cntX x c (rfX P a d m i)
 | 0=>λt ht=>by cases ht
 | i+1=>(cntX.rf hP ha hd m i).join (((hP i).mul (Ztk (ha.pw i))).mul (Ztk (hd.pw (m - i))))
theorem tm_cnt {q:Qt} (hq:hasQ x q=true) (l:List Qt):tmQ q l≤(l.filter λq=>hasQ x q).length:=by
 unfold tmQ
 induction l with
 | nil=>exact Nat.le_refl _
 | cons a l ih =>
   by_cases h:a=q
   ·subst h;rw [List.filter_cons_of_pos (by simp),List.filter_cons_of_pos (by simpa using hq),List.length_cons,List.length_cons];omega
   ·rw [List.filter_cons_of_neg (by simpa using h),List.filter_cons];split
    ·rw [List.length_cons];omega
    ·exact ih
theorem mo_cnt {q:Qt} (hq:hasQ x q=true) {a:QTs} (h:cntX x c a):moQ q a≤c:=by
 have key:∀(a:QTs) (n:Nat),n≤c→(∀t∈a,tmQ q t.2≤c)→a.foldl (λn t=>max n (tmQ q t.2)) n≤c:=by
  intro a
  induction a with
  | nil=>intro n hn _;exact hn
  | cons t a ih=>intro n hn h;exact ih _ (Nat.max_le.2 ⟨hn,h t (.head _)⟩) λu hu=>h u (.tail _ hu)
 exact key a 0 (Nat.zero_le _) λt ht=>Nat.le_trans (tm_cnt hq t.2) (h t ht)
end
theorem Zwy {C:Qt→Prop} {a:QTs} (h:alQ C a) (q:Qt) (k:Nat):alQ (λu=>C u∧u≠q) (paQ q a k):=alQ.gat λu hu x hx=>by
 obtain⟨t,ht,rfl⟩:=Zjf hu;have g:=List.mem_filter.1 hx;exact⟨h t ht x g.1,by simpa using g.2⟩
theorem alQ.imp {C D:Qt→Prop} {p:QTs} (h:alQ C p) (g:∀q,C q→D q):alQ D p:=λt ht q hq=>g q (h t ht q hq)
theorem el_al {C:Qt→Prop} {x:Int} {q:Qt} {b y:XX} (h1:alQ C y.1) (h2:alQ C y.2) (hb:alQ (noP x) b.1) (hd:alQ (noP x) b.2) :
 alQ (λu=>C u∧u≠q∨noP x u) (elS q b y).1∧alQ (λu=>C u∧u≠q∨noP x u) (elS q b y).2:=by
 have g1:=hb.imp (D:=λu=>C u∧u≠q∨noP x u) λu h=>.inr h;have g2:=hd.imp (D:=λu=>C u∧u≠q∨noP x u) λu h=>.inr h;exact⟨(alQ.rf (λk=>(Zwy h1 q k).imp λu h=>.inl h) g1 g2 _ _).mul (g2.pw _),(alQ.rf (λk=>(Zwy h2 q k).imp λu h=>.inl h) g1 g2 _ _).mul (g2.pw _)⟩
theorem el_cnt {c:Nat} {x:Int} {q:Qt} {b y:XX} (h1:cntX x c y.1) (h2:cntX x c y.2) (hb:alQ (noP x) b.1) (hd:alQ (noP x) b.2):cntX x c (elS q b y).1∧cntX x c (elS q b y).2 :=
 ⟨(cntX.rf (λk=>h1.part q k) hb hd _ _).mul (Ztk (hd.pw _)),(cntX.rf (λk=>h2.part q k) hb hd _ _).mul (Ztk (hd.pw _))⟩
theorem el_xb {x:Int} {q:Qt} {b y:XX} {k n kb nb:Nat} (h1:XB y.1 k n) (h2:XB y.2 k n) (hb:XB b.1 kb nb) (hd:XB b.2 kb nb) (m1:moQ q y.1≤2) (m2:moQ q y.2≤2) :
 XB (elS q b y).1 (k+2+6*kb) (n+4*nb)∧XB (elS q b y).2 (k+2+6*kb) (n+4*nb):=by
 have key:∀{p:QTs} {i:Nat},XB p k n→moQ q p≤2→i≤2→XB (mulX (rpN q p b.1 b.2) (pwX b.2 i)) (k+2+6*kb) (n+4*nb):=by
  intro p i hp hm hi;have g:=(rf_xb hp hb hd q (moQ q p) (moQ q p+1) (by omega) (Nat.le_refl _)).mul (hd.pw i);have e1:moQ q p*(2*kb)≤2*(2*kb):=Nat.mul_le_mul_right _ hm;have e2:moQ q p*nb≤2*nb:=Nat.mul_le_mul_right _ hm;have e3:i*kb≤2*kb:=Nat.mul_le_mul_right _ hi;have e4:i*nb≤2*nb:=Nat.mul_le_mul_right _ hi;exact g.mono (by omega) (by omega)
 exact⟨key h1 m1 (by omega),key h2 m2 (by omega)⟩
theorem Zi0 (q:Qt):(ofX q).length≤1:=by unfold ofX;split<;>simp
theorem Zd9 (p q:QTs):(subX p q).length≤p.length+q.length:=Nat.le_trans (Zfe _ _) (by rw [Zct];exact Nat.le_refl _)
theorem Zlw {p q:QTs} {i j:Nat} (hp:p.length≤i) (hq:q.length≤j):(mulX p q).length≤i*j:=Nat.le_trans (Zds p q) (Nat.mul_le_mul hp hq)
theorem Zrv {p:QTs} {i:Nat} (h:p.length≤i):(twX p).length≤i:=by have:=Zlw (Zge 2) h;rwa [Nat.one_mul] at this
theorem at_len (p:Pl) (x:Int):(p.at x).length≤1:=by
 unfold Pl.at;split
 ·exact Zi0 _
 ·split<;>exact Zi0 _
def CbL (c:Cb):Prop :=
 c.be.length≤3∧((∃u v,c.ab=[u,v]∧c.ps.length=2∧u.length+v.length≤4∧c.be.length*(u.length+v.length)+u.length*v.length≤12) ∨
  (∃u v w,c.ab=[u,v,w]∧c.ps.length=3∧u.length+v.length+w.length≤4∧c.be.length*(u.length+v.length+w.length)+u.length*v.length+u.length*w.length+v.length*w.length≤12))
theorem cl2 {ps:List Int} {u v b:QTs} {i j m:Nat} (hp:ps.length=2) (hu:u.length≤i) (hv:v.length≤j) (hb:b.length≤m) (h1:m≤3) (h2:i+j≤4) (h3:m*(i+j)+i*j≤12):CbL ⟨ps,[u,v],b⟩:=by
 refine⟨Nat.le_trans hb h1,.inl ⟨u,v,rfl,hp,by omega,?_⟩⟩;exact Nat.le_trans (Nat.add_le_add (Nat.mul_le_mul hb (Nat.add_le_add hu hv)) (Nat.mul_le_mul hu hv)) h3
theorem cl3 {ps:List Int} {u v w b:QTs} {i j k m:Nat} (hp:ps.length=3) (hu:u.length≤i) (hv:v.length≤j) (hw:w.length≤k) (hb:b.length≤m) (h1:m≤3) (h2:i+j+k≤4) (h3:m*(i+j+k)+i*j+i*k+j*k≤12):CbL ⟨ps,[u,v,w],b⟩:=by
 refine⟨Nat.le_trans hb h1,.inr ⟨u,v,w,rfl,hp,by omega,?_⟩⟩;exact Nat.le_trans (Nat.add_le_add (Nat.add_le_add (Nat.add_le_add (Nat.mul_le_mul hb (Nat.add_le_add (Nat.add_le_add hu hv) hw)) (Nat.mul_le_mul hu hv)) (Nat.mul_le_mul hu hw)) (Nat.mul_le_mul hv hw)) h3
theorem cb_len {k t:Int} {a:List Int} {r:Rat} {c:Cb} (h:cbOf k a r t=some c) (h3:k=3∨k=11→a.length=3):CbL c:=by
 have o:=Zi0;have n1:∀u,(nX u).length≤1:=λu=>Zge u;have ct:∀p q r,(ctW p q r).length≤1:=λp q r=>Zlw (o _) (o _);unfold cbOf at h;split at h
 ·cases h;exact cl2 (i:=2) (j:=1) (m:=1) rfl (Nat.le_trans (Zd9 _ _) (Nat.add_le_add (n1 _) (n1 _))) (n1 _) (n1 _) (by decide) (by decide) (by decide)
 split at h
 ·rename_i hk;cases h;exact cl3 (i:=1) (j:=1) (k:=1) (m:=1) (h3 (.inl hk)) (n1 _) (n1 _) (n1 _) (n1 _) (by decide) (by decide) (by decide)
 split at h
 ·cases h;exact cl2 (i:=2) (j:=1) (m:=1) rfl (Nat.le_trans (Zd9 _ _) (Nat.add_le_add (n1 _) (o _))) (o _) (n1 _) (by decide) (by decide) (by decide)
 split at h
 ·cases h;have hs:=Nat.le_trans (Zd9 (aX (gI a 0) (gI a 2) (gI a 3)) (aX (gI a 1) (gI a 2) (gI a 3))) (Nat.add_le_add (o _) (o _));exact cl2 (i:=3) (j:=1) (m:=2) rfl (Nat.le_trans (Zd9 _ _) (Nat.add_le_add hs (o _))) (o _) hs (by decide) (by decide) (by decide)
 split at h
 ·cases h;exact cl2 (i:=2) (j:=1) (m:=1) rfl (Nat.le_trans (Zd9 _ _) (Nat.add_le_add (o _) (o _))) (o _) (o _) (by decide) (by decide) (by decide)
 split at h
 ·cases h;exact cl3 (i:=2) (j:=1) (k:=1) (m:=1) rfl (Zrv (Nat.le_trans (Zd9 _ _) (Nat.add_le_add (o _) (o _)))) (Zrv (o _)) (Nat.le_trans (Zd9 _ _) (Nat.add_le_add (Nat.le_refl 0) (o _))) (o _) (by decide) (by decide) (by decide)
 split at h
 ·cases h;exact cl2 (i:=2) (j:=1) (m:=1) rfl (Nat.le_trans (Zd9 _ _) (Nat.add_le_add (o _) (Zrv (o _)))) (Zrv (o _)) (o _) (by decide) (by decide) (by decide)
 split at h
 ·rename_i hk;cases h;exact cl3 (i:=1) (j:=1) (k:=1) (m:=3) (h3 (.inr hk)) (ct _ _ _) (ct _ _ _) (ct _ _ _) (Nat.le_trans (Zfe _ _) (Nat.add_le_add (Nat.le_trans (Zfe _ _) (Nat.add_le_add (ct _ _ _) (ct _ _ _))) (ct _ _ _))) (by decide) (by decide) (by decide)
 ·cases h
theorem Zfp (c:Cb) (p:Pl) (i:Nat):(afS c p (i+1)).length≤(afS c p i).length+(c.ab.getD i []).length :=
 Nat.le_trans (Zfe _ _) (Nat.add_le_add_left (by have:=Zlw (Nat.le_refl (c.ab.getD i []).length) (at_len p (gI c.ps i));rwa [Nat.mul_one] at this) _)
theorem Zmw (c:Cb) (i j:Nat):(prT c i j).length≤(c.ab.getD i []).length*(c.ab.getD j []).length:=by
 have:=Zlw (Zds (c.ab.getD i []) (c.ab.getD j [])) (Zi0 ⟨2,gI c.ps i,gI c.ps j,gI c.ps i⟩)
 rwa [Nat.mul_one] at this
theorem af_len {c:Cb} (p:Pl) (h:CbL c):(afN c p).length≤12∧(afD c p).length≤9:=by
 obtain⟨hb,h⟩:=h;refine⟨?_,?_⟩
 ·rcases h with⟨u,v,e,hp,h1,h2⟩ | ⟨u,v,w,e,hp,h1,h2⟩
  ·have s1:=Zfp c p 0;have s2:=Zfp c p 1;rw [e] at s1 s2;have s0:(afS c p 0).length=0:=rfl;have s1:(afS c p 1).length≤(afS c p 0).length+u.length:=s1;have s2:(afS c p 2).length≤(afS c p 1).length+v.length:=s2;unfold afN;rw [hp];split
   ·have t1:=Zmw c 0 1;rw [e] at t1;have t1:(prT c 0 1).length≤u.length*v.length:=t1;have m1:(mulX c.be (afS c p 2)).length≤c.be.length*(u.length+v.length):=Nat.le_trans (Zds _ _) (Nat.mul_le_mul_left _ (by omega));have g:=Zd9 (mulX c.be (afS c p 2)) (prT c 0 1);show(subX (mulX c.be (afS c p 2)) (prT c 0 1)).length≤12;omega
   ·omega
  ·have s1:=Zfp c p 0;have s2:=Zfp c p 1;have s3:=Zfp c p 2;rw [e] at s1 s2 s3;have s0:(afS c p 0).length=0:=rfl;have s1:(afS c p 1).length≤(afS c p 0).length+u.length:=s1;have s2:(afS c p 2).length≤(afS c p 1).length+v.length:=s2;have s3:(afS c p 3).length≤(afS c p 2).length+w.length:=s3;unfold afN;rw [hp];split
   ·have t1:=Zmw c 0 1;have t2:=Zmw c 0 2;have t3:=Zmw c 1 2;rw [e] at t1 t2 t3;have t1:(prT c 0 1).length≤u.length*v.length:=t1;have t2:(prT c 0 2).length≤u.length*w.length:=t2;have t3:(prT c 1 2).length≤v.length*w.length:=t3;have m1:(mulX c.be (afS c p 3)).length≤c.be.length*(u.length+v.length+w.length):=Nat.le_trans (Zds _ _) (Nat.mul_le_mul_left _ (by omega));have g1:=Zd9 (mulX c.be (afS c p 3)) (prT c 0 1);have g2:=Zd9 (subX (mulX c.be (afS c p 3)) (prT c 0 1)) (prT c 0 2);have g3:=Zd9 (subX (subX (mulX c.be (afS c p 3)) (prT c 0 1)) (prT c 0 2)) (prT c 1 2);show(subX (subX (subX (mulX c.be (afS c p 3)) (prT c 0 1)) (prT c 0 2)) (prT c 1 2)).length≤12
    omega
   ·omega
 ·unfold afD;split
  ·exact Nat.le_trans (Zlw hb hb) (by decide)
  ·omega
def lmX (k:Int) (a:List Int) (r:Rat) (t x:Int) (q:Qt):Int × XX :=
 if q.norm.2=0∨hasQ x q.norm.1=false then (0,(ofX q,[((1:Rat),[])]))
 else if k=4 then (0,(sclT (q.norm.2:Rat) (tuX (gI a 0) (gI a 1) (gI a 2) (plOf q.norm.1 x)),[((1:Rat),[])]))
 else match cbOf k a r t with
  | none=>(8,([],[]))
  | some c=>if c.be=[] then (3,([],[])) else (0,(sclT (q.norm.2:Rat) (afN c (plOf q.norm.1 x)),afD c (plOf q.norm.1 x)))
structure LmOk (x:Int) (b:XX):Prop where
 xn:XB b.1 245 5
 xd:XB b.2 245 5
 ln:b.1.length≤12
 ld:b.2.length≤12
 nn:alQ (noP x) b.1
 nd:alQ (noP x) b.2
 ne:b.2≠[]
structure StA (k t x n:Int) (a:List Int) (r:Rat):Prop where
 n40:n≤40
 sz:Sz r 2
 rg:∀i,i < a.length→0≤gI a i∧gI a i < n
 lt:∀i,i < a.length→gI a i < x
 tr:0≤t∧t < 64
 l:(k=3→a.length=3)∧(k=11→a.length=3)∧(k=2∨k=5→2≤a.length)∧(k=7∨k=8∨k=10→3≤a.length)∧(k=9→4≤a.length)
 l4:k=4→a.length=3
theorem Zso {q:Qt} {n:Int} (hs:q.norm.2≠0) (h:0≤q.norm.1.a∧q.norm.1.a < n∧0≤q.norm.1.b∧q.norm.1.b < n∧0≤q.norm.1.c∧q.norm.1.c < n) (x:Int):PlOk (plOf q.norm.1 x) n:=pl_ok ⟨h.1,h.2.1⟩ ⟨h.2.2.1,h.2.2.2.1⟩ ⟨h.2.2.2.2.1,h.2.2.2.2.2⟩
theorem alQ.sg {C:Qt→Prop} {p:QTs} (h:alQ C p) (s:Int):alQ C (sclT (s:Rat) p):=h.scl _
theorem xb_sg {p:QTs} {k n:Nat} (h:XB p k n) {s:Int} (hs:s=-1∨s=1):XB (sclT (s:Rat) p) k n:=by
 rcases hs with rfl | rfl
 ·exact h.neg
 ·show XB (sclT 1 p) k n;rw [Zke];exact h
theorem Zxd (x:Int):alQ (noP x) [((1:Rat),[])]:=λt ht q hq=>by rw [List.mem_singleton.1 ht] at hq;cases hq
theorem lm_ok {k t x n:Int} {a:List Int} {r:Rat} {q:Qt} (hs:StA k t x n a r) (hq:q.ok=true)
 (hp:q.norm.2≠0→hasQ x q.norm.1=true→0≤q.norm.1.a∧q.norm.1.a < n∧0≤q.norm.1.b∧q.norm.1.b < n∧0≤q.norm.1.c∧q.norm.1.c < n) (h0:(lmX k a r t x q).1=0):LmOk x (lmX k a r t x q).2:=by
 have one:XB [((1:Rat),[])] 245 5:=Zrn.mono (by decide) (by decide);unfold lmX at *;split
 ·rename_i h;have ho:=Zci hq;refine⟨ho.x.mono (by decide) (by decide),one,Nat.le_trans (Zi0 q) (by decide),by show 1≤12;decide,?_,Zxd x,by simp⟩;unfold ofX;split
  ·exact alQ.emp
  ·rename_i h1;rcases h with h | h
   ·exact absurd h h1
   ·intro u hu v hv;rw [List.mem_singleton.1 hu] at hv;rw [List.mem_singleton.1 hv];exact h
 ·rename_i h;rw [if_neg h] at h0;have h1:q.norm.2≠0:=λg=>h (.inl g)
  have h2:hasQ x q.norm.1=true:=by
   cases g:hasQ x q.norm.1 with
   | true=>rfl
   | false=>exact absurd (.inr g) h
  have hsg:q.norm.2=-1∨q.norm.2=1:=by
   rcases Zh2 q with g | g | g
   ·exact .inl g
   ·exact absurd g h1
   ·exact .inr g
  have hpl:=Zso h1 (hp h1 h2) x;obtain⟨n1,n2,_⟩:=pl_no (Zxi hq h1) h2;have hxa:∀i,i < a.length→x≠gI a i:=λi hi=>by have:=hs.lt i hi;omega
  split
  ·rename_i hk;have l4:=hs.l4 hk;have g:=tu_xl hpl hs.n40 (hs.rg 0 (by omega)) (hs.rg 1 (by omega)) (hs.rg 2 (by omega));refine⟨xb_sg (g.x.mono (by decide) (by decide)) hsg,one,by show(sclT _ _).length≤_;rw [Zct];exact Nat.le_trans g.l (by decide),by show 1≤12;decide,(tu_no n1 n2 (hxa 0 (by omega)) (hxa 1 (by omega)) (hxa 2 (by omega))).sg _,Zxd x,by simp⟩
  ·rename_i hk;rw [if_neg hk] at h0
   cases hc:cbOf k a r t with
   | none=>rw [hc] at h0;exact absurd (show(8:Int)=0 from h0) (by decide)
   | some c =>
     rw [hc] at h0;simp only at h0 ⊢;by_cases hb:c.be=[]
     ·rw [if_pos hb] at h0;exact absurd h0 (by decide)
     ·rw [if_neg hb];have ok:=Zlg hc hs.sz hs.rg hs.n40 hs.tr hs.l
      have hx0:x≠0∨4≤a.length:=by
       have hl:0 < a.length:=by
        rcases Nat.eq_zero_or_pos a.length with g | g
        ·obtain⟨l3,l11,l2,l7,l9⟩:=hs.l;exfalso;unfold cbOf at hc;split at hc
         ·have:=l2 (.inl ‹_›);omega
         split at hc
         ·have:=l3 ‹_›;omega
         split at hc
         ·have:=l2 (.inr ‹_›);omega
         split at hc
         ·have:=l9 ‹_›;omega
         split at hc
         ·have:=l7 (.inl ‹_›);omega
         split at hc
         ·have:=l7 (.inr (.inl ‹_›));omega
         split at hc
         ·have:=l7 (.inr (.inr ‹_›));omega
         split at hc
         ·have:=l11 ‹_›;omega
         ·cases hc
        ·exact g
       have:=hs.lt 0 hl;have:=hs.rg 0 hl;exact .inl (by omega)
      obtain⟨c1,c2,c3⟩:=cb_no hc hxa hx0 hs.l;have hl:=af_len (plOf q.norm.1 x) (cb_len hc (λg=>by rcases g with g | g;exact hs.l.1 g;exact hs.l.2.1 g));have an:=afN_xl ok hpl hs.n40;have ad:=afD_xl (p:=plOf q.norm.1 x) ok;exact⟨xb_sg (an.x.mono (by decide) (by decide)) hsg,ad.x.mono (by decide) (by decide),by show(sclT _ _).length≤_;rw [Zct];exact hl.1,Nat.le_trans hl.2 (by decide),(afN_no c1 c2 c3 n1 n2).sg _,afD_no c2,afD_ne ok.be.x.1 hb⟩
structure EI (x:Int) (l:List Qt) (K N:Nat) (y:XX):Prop where
 x1:XB y.1 K N
 x2:XB y.2 K N
 l1:y.1.length≤4000
 l2:y.2.length≤4000
 c1:cntX x 2 y.1
 c2:cntX x 2 y.2
 a1:alQ (λu=>hasQ x u=true→u∈l) y.1
 a2:alQ (λu=>hasQ x u=true→u∈l) y.2
theorem EI.mo {x:Int} {l:List Qt} {K N:Nat} {y:XX} (h:EI x l K N y) {q:Qt} (hq:hasQ x q=true):moQ q y.1≤2∧moQ q y.2≤2:=⟨mo_cnt hq h.c1,mo_cnt hq h.c2⟩
theorem EI.step {x:Int} {l:List Qt} {K N:Nat} {y b:XX} {q:Qt} (h:EI x (q :: l) K N y) (hq:hasQ x q=true) (hb:LmOk x b) (l1:(elS q b y).1.length≤4000) (l2:(elS q b y).2.length≤4000) :
 EI x l (K+1472) (N+20) (elS q b y):=by
 obtain⟨m1,m2⟩:=h.mo hq;obtain⟨e1,e2⟩:=el_xb (x:=x) h.x1 h.x2 hb.xn hb.xd m1 m2;obtain⟨c1,c2⟩:=el_cnt (q:=q) h.c1 h.c2 hb.nn hb.nd;obtain⟨a1,a2⟩:=el_al (q:=q) h.a1 h.a2 hb.nn hb.nd
 have key:∀u,((hasQ x u=true→u∈q :: l)∧u≠q∨noP x u)→hasQ x u=true→u∈l:=by
  intro u hu hx;rcases hu with⟨h1,h2⟩ | h1
  ·rcases List.mem_cons.1 (h1 hx) with h3 | h3
   ·exact absurd h3 h2
   ·exact h3
  ·rw [h1] at hx;exact absurd hx (by decide)
 exact⟨e1.mono (by omega) (by omega),e2.mono (by omega) (by omega),l1,l2,c1,c2,a1.imp key,a2.imp key⟩
theorem EI.fin {x:Int} {K N:Nat} {y:XX} (h:EI x [] K N y):alQ (noP x) y.1∧alQ (noP x) y.2:=by
 have key:∀u,(hasQ x u=true→u∈([]:List Qt))→noP x u:=λu hu=>by
  cases g:hasQ x u with
  | false=>exact g
  | true=>cases hu g
 exact⟨h.a1.imp key,h.a2.imp key⟩
theorem EI.beg {x:Int} {K N:Nat} {n d:QTs} (h1:XB n K N) (h2:XB d K N) (l1:n.length≤4000) (l2:d.length≤4000) (c1:∀t∈n,t.2.length≤2) (c2:∀t∈d,t.2.length≤2):EI x (hvL x (flQ n++flQ d)) K N (n,d) :=
 ⟨h1,h2,l1,l2,λt ht=>Nat.le_trans (List.length_filter_le _ _) (c1 t ht),λt ht=>Nat.le_trans (List.length_filter_le _ _) (c2 t ht),
  λt ht q hq hx=>Zqy.2 ⟨List.mem_append.2 (.inl (Zm2.2 ⟨t,ht,hq⟩)),hx⟩,λt ht q hq hx=>Zqy.2 ⟨List.mem_append.2 (.inr (Zm2.2 ⟨t,ht,hq⟩)),hx⟩⟩
theorem el_run {x:Int} {lem:Qt→Int × XX}:∀{l:List Qt} {K N:Nat} {y z:XX},elF lem l y=(0,z)→EI x l K N y→(∀q∈l,hasQ x q=true∧((lem q).1=0→LmOk x (lem q).2))→EI x [] (K+l.length*1472) (N+l.length*20) z
 | [],K,N,y,z,h,hy,_=>by
   have:y=z:=by cases h;rfl
   subst this;rw [List.length_nil,Nat.zero_mul];exact hy
 | q :: l,K,N,y,z,h,hy,hl=>by
   unfold elF at h;obtain⟨hq,hb⟩:=hl q (.head _);split at h
   ·rename_i h0;exact absurd (congrArg Prod.fst h) h0
   ·rename_i h0;have h0:(lem q).1=0:=Classical.not_not.1 h0;split at h
    ·exact absurd (congrArg Prod.fst h) (by show ¬(4:Int)=0;decide)
    ·rename_i h1;have g:=el_run h (hy.step hq (hb h0) (by omega) (by omega)) λu hu=>hl u (.tail _ hu);rw [List.length_cons];have e1:K+(l.length+1)*1472=K+1472+l.length*1472:=by omega
     have e2:N+(l.length+1)*20=N+20+l.length*20:=by omega
     rw [e1,e2];exact g
theorem el_free {x:Int} {K N:Nat} {r:Int × XX} {w:XX} (h:elT r=(0,w)) (hr:r.1=0→EI x [] K N r.2) (hK:1≤K):w.2≠[]∧alQ (noP x) w.1∧alQ (noP x) w.2∧XB w.1 K N∧XB w.2 K N∧w.1.length≤4000∧w.2.length≤4000:=by
 unfold elT at h;split at h
 ·rename_i h0;exact absurd (congrArg Prod.fst h) h0
 ·rename_i h0;have g:=hr (Classical.not_not.1 h0);split at h
  ·exact absurd (congrArg Prod.fst h) (by show ¬(3:Int)=0;decide)
  ·rename_i h1;split at h
   ·cases h;exact⟨by simp,alQ.emp,Zxd x,Zli.mono hK (Nat.zero_le _),Zrn.mono hK (Nat.zero_le _),by decide,by show 1≤4000;decide⟩
   ·cases h;exact⟨h1,g.fin.1,g.fin.2,g.x1,g.x2,g.l1,g.l2⟩
theorem rs_len {d:QTs} {L:Nat} (hd:d.length≤L) (p:QTs):∀i,(rsX p d i).length≤p.length*L ^ i
 | 0=>by rw [Nat.pow_zero,Nat.mul_one];exact Nat.le_refl _
 | i+1=>Nat.le_trans (Zlw (rs_len hd p i) hd) (by rw [Nat.pow_succ,Nat.mul_assoc];exact Nat.le_refl _)
theorem Zwe {q:Qt} {p:QTs} {b:XX} (lp:p.length≤4000) (l1:b.1.length≤12) (l2:b.2.length≤12) {i:Nat} (hm:moQ q p+i≤2):(rsX (rpN q p b.1 b.2) b.2 i).length≤1728000:=by
 refine Nat.le_trans (rs_len l2 _ i) ?_;have g:=rf_len (P:=paQ q p) (LP:=4000) (λk=>Nat.le_trans (pa_len q p k) lp) l1 l2 (moQ q p) (moQ q p+1) (Nat.le_refl _);refine Nat.le_trans (Nat.mul_le_mul_right _ g) ?_;generalize moQ q p=m at hm;have hh:(m=0∧i=0)∨(m=0∧i=1)∨(m=0∧i=2)∨(m=1∧i=0)∨(m=1∧i=1)∨(m=2∧i=0):=by omega
 rcases hh with⟨rfl,rfl⟩ | ⟨rfl,rfl⟩ | ⟨rfl,rfl⟩ | ⟨rfl,rfl⟩ | ⟨rfl,rfl⟩ | ⟨rfl,rfl⟩<;>decide
theorem rs_xb {q:Qt} {p:QTs} {b:XX} {k n kb nb i:Nat} (hp:XB p k n) (hb:XB b.1 kb nb) (hd:XB b.2 kb nb) (hm:moQ q p≤2) (hi:i≤2):XB (rsX (rpN q p b.1 b.2) b.2 i) (k+2+6*kb) (n+4*nb):=by
 have g0:=rf_xb hp hb hd q (moQ q p) (moQ q p+1) (by omega) (Nat.le_refl _);rw [rs_pw g0.1 hd.1];have g:=g0.mul (hd.pw i);have e1:moQ q p*(2*kb)≤2*(2*kb):=Nat.mul_le_mul_right _ hm;have e2:moQ q p*nb≤2*nb:=Nat.mul_le_mul_right _ hm;have e3:i*kb≤2*kb:=Nat.mul_le_mul_right _ hi;have e4:i*nb≤2*nb:=Nat.mul_le_mul_right _ hi;exact g.mono (by omega) (by omega)
end Go.Proofs.YtpkcophcldjboaaGreatDoor
namespace Go.Proofs.YtpkcophcldjboaaGreatDoor
open Go Go.RowKit Go.Pg Go.Pol Go.Proofs.Tryz
attribute [-bool_to_prop] Bool.and_eq_decide Bool.or_eq_decide Bool.decide_beq_decide decide_eq_decide
attribute [local go_sem] underlying3 underlying4 underlying128 underlying50 underlying52 underlying54 underlying39 underlying55 underlying57 underlying26 underlying27 sz3 by3 z3 szB zB Zas zRat Zay zInt Zax zNat Zah Zan Zai Bool.and_self Zal Za7 zSlQ szQT byQT zQT Za9 zSlT szQP zQP underlying81 underlying29 szFr byFr zFr Zb6 Zca zSQP
theorem elMost (a:QTs) (q:Qt) {n:Nat} (hl:a.length≤1000000) (hq:∀t∈a,t.2.length≤n) (hn:n≤1000000):Pure prog 52 [qpA a,q.av] (iv (moQ q a)):=by
 have hlm:(a.map qtA).length=a.length:=List.length_map ..;have hg:∀k (h:k < a.length),(a.map qtA).getD k .u=.agg [.v (.bool (decide (a[k].1.num < 0))),lim (toL a[k].1.num.natAbs),lim (toL a[k].1.den),.sl 4 (a[k].2.map Qt.av)]:=λk h=>Zat qtA h;have hts:∀k (h:k < a.length),moQ q (a.take (k+1))=max (moQ q (a.take k)) (tmQ q a[k].2):=λk h=>by rw [List.take_succ_eq_append_getElem h,Zxp]
 have hf:a.take a.length=a:=List.take_length;have hq2:∀k (h:k < a.length),a[k].2.length≤1000000:=λk h=>Nat.le_trans (hq _ (List.getElem_mem h)) hn;have hmb:∀k,moQ q (a.take k)≤1000000:=λk=>mo_le λt ht=>Nat.le_trans (hq t (List.mem_of_mem_take ht)) hn;obtain⟨q1,q2,q3,q4⟩:=q;show Pure _ _ [.sl 4 (a.map qtA),.agg [iv q1,iv q2,iv q3,iv q4]] _;generalize a.map qtA=A at *;refine Zaa (tok:=0) func52 rfl ntmps52 results52 call52 (by rfl) (by simp) ?_;(focus (refine wkad (w_1 hlm) w_t w_t ?_;(repeat' first|exact w_t|apply w_l);all_goals intros));rename_i g3;refine Zae (ι:=Nat) (λk e m=>k≤a.length∧(e 3=.pbox 3 g3 0∧m 3=some (.box g3 39 [iv q1,iv q2,iv q3,iv q4] false))∧e 5=iv (moQ ⟨q1,q2,q3,q4⟩ (a.take k))∧e 11=.sl 4 A∧e 12=iv a.length∧e 13=iv k) (λk=>a.length - k) 0 (by rfl) ?_ ?_
 ·rintro k e m ⟨hk,⟨e3,m3⟩,e5,e11,e12,e13⟩
  by_cases hlt:k < a.length
  ·have hgk:=hg k hlt;have htk:=hts k hlt;have hqk:=hq2 k hlt;have hmk:=hmb k;have hwm:(a[k].2.map Qt.av).length=a[k].2.length:=List.length_map ..;have hwe:∀b (h:b < a[k].2.length),(a[k].2.map Qt.av).getD b .u=Qt.av a[k].2[b]:=λb h=>Zat Qt.av h;clear hts hg hf hq hq2 hmb;generalize moQ _ (a.take k)=mo at *;generalize a[k]=u at *;obtain⟨u1,w⟩:=u;simp only at htk hqk hwm hwe hgk;have hws:∀b (h:b < w.length),tmQ ⟨q1,q2,q3,q4⟩ (w.take (b+1))=if w[b]=⟨q1,q2,q3,q4⟩ then tmQ ⟨q1,q2,q3,q4⟩ (w.take b)+1 else tmQ ⟨q1,q2,q3,q4⟩ (w.take b):=λb h=>by rw [List.take_succ_eq_append_getElem h,Zvo]
   have hwb:∀b,tmQ ⟨q1,q2,q3,q4⟩ (w.take b)≤1000000:=λb=>by have:=tm_le ⟨q1,q2,q3,q4⟩ (w.take b);rw [List.length_take] at this;omega
   have hwf:w.take w.length=w:=List.take_length;generalize w.map Qt.av=qs at *;generalize toL u1.num.natAbs=un at *;generalize toL u1.den=ud at *;generalize decide (u1.num < 0)=us at *;(focus (refine wkad (w_9 e3 m3 e5 e11 e12 e13 hlm hgk hwm) w_t w_t ?_;(repeat' first|exact w_t|apply w_l);all_goals intros));refine Zae (ι:=Nat) (λb e m=>b≤w.length∧(e 3=.pbox 3 g3 0∧m 3=some (.box g3 39 [iv q1,iv q2,iv q3,iv q4] false))∧e 5=iv mo∧(e 11=.sl 4 A∧e 12=iv a.length∧e 13=iv k)∧e 8=iv (tmQ ⟨q1,q2,q3,q4⟩ (w.take b))∧e 18=.sl 4 qs∧e 19=iv w.length∧e 20=iv b) (λb=>w.length - b) 0 (by rfl) ?_ ?_
   ·rintro b e m ⟨hb,⟨e3,m3⟩,e5,⟨e11,e12,e13⟩,e8,e18,e19,e20⟩
    by_cases hbl:b < w.length
    ·have hqb:=hwe b hbl;have hsb:=hws b hbl;have htb:=hwb b;clear hws hwb hwe hwf;by_cases hx:w[b]=⟨q1,q2,q3,q4⟩
     ·rw [if_pos hx] at hsb;rw [hx] at hqb;generalize tmQ _ (w.take b)=tn at *;have hs:(tn:Int)+1=((tn+1:Nat):Int):=by omega
      (focus (refine wkad (w_13 e3 m3 e5 e11 e12 e13 e8 e18 e19 e20 hwm hqb hs) w_t w_t ?_;(repeat' first|exact w_t|apply w_l);all_goals intros));exact⟨b+1,⟨by omega,⟨by exact gW e3,by exact gW m3⟩,by exact gW e5,⟨by exact gW e11,by exact gW e12,by exact gW e13⟩,by rw [hsb];exact gW (And.intro e8 hs),by exact gW e18,by exact gW e19,by exact gS⟩,by omega⟩
     ·rw [if_neg hx] at hsb;generalize w[b]=y at *;obtain⟨y1,y2,y3,y4⟩:=y;have hx:¬(y1=q1∧y2=q2∧y3=q3∧y4=q4):=λh=>hx (by obtain⟨rfl,rfl,rfl,rfl⟩:=h;rfl);generalize tmQ _ (w.take b)=tn at *;(focus (refine wkad (w_13 e3 m3 e5 e11 e12 e13 e8 e18 e19 e20 hwm hqb hx) w_t w_t ?_;(repeat' first|exact w_t|apply w_l);all_goals intros));exact⟨b+1,⟨by omega,⟨by exact gW e3,by exact gW m3⟩,by exact gW e5,⟨by exact gW e11,by exact gW e12,by exact gW e13⟩,by rw [hsb];exact gW e8,by exact gW e18,by exact gW e19,by exact gS⟩,by omega⟩
    ·have:b=w.length:=by omega
     subst this;rw [hwf] at e8;clear hws hwb hwe hwf;generalize tmQ _ w=tn at *;have hm:max (mo:Int) (tn:Int)=((max mo tn:Nat):Int):=by omega
     (focus (refine wkad (w_12 e3 m3 e5 e11 e12 e13 e8 e18 e19 e20 hwm hm) w_t w_t ?_;(repeat' first|exact w_t|apply w_l);all_goals intros));exact⟨k+1,⟨by omega,⟨by exact gW e3,by exact gW m3⟩,by rw [htk];exact gW hm,by exact gW e11,by exact gW e12,by exact gS⟩,by omega⟩
   ·exact⟨Nat.zero_le _,⟨by exact gW e3,by exact gW m3⟩,by exact gW e5,⟨by exact gW e11,by exact gW e12,by exact gW e13⟩,by exact gC,by exact gC,by exact gW hwm,by exact gC⟩
  ·have:k=a.length:=by omega
   subst this;rw [hf] at e5;generalize moQ _ a=tn at *;(focus (refine wkad (w_7 e3 m3 e5 e11 e12 e13 hlm) w_t w_t ?_;(repeat' first|exact w_t|apply w_l);all_goals intros));all_goals exact gL
 ·exact⟨Nat.zero_le _,⟨by exact gC,by exact gC⟩,by exact gC,by exact gC,by exact gW hlm,by exact gC⟩
theorem elRaised (p d:QTs) (z:Int) (hz:z≤1000000) (hc:∀i,i < z.toNat→Pure prog 40 [qpA (rsX p d i),qpA d] (qpA (rsX p d (i+1)))):Pure prog 53 [qpA p,qpA d,iv z] (qpA (rsX p d z.toNat)):=by
 show Pure _ _ [.sl 4 (p.map qtA),.sl 4 (d.map qtA),_] (.sl 4 ((rsX p d z.toNat).map qtA));have hc:∀i,i < z.toNat→Pure prog 40 [.sl 4 ((rsX p d i).map qtA),.sl 4 (d.map qtA)] (.sl 4 ((rsX p d (i+1)).map qtA)):=hc;generalize d.map qtA=D at *;have h0:(rsX p d 0).map qtA=p.map qtA:=rfl;generalize p.map qtA=PP at *;refine Zaa (tok:=0) func53 rfl ntmps53 results53 call53 (by rfl) (by simp) ?_;(focus (refine wkad w_t w_t w_t ?_;(repeat' first|exact w_t|apply w_l);all_goals intros));refine Zae (ι:=Nat) (λi e m=>i≤z.toNat∧e 0=.sl 4 ((rsX p d i).map qtA)∧e 1=.sl 4 D∧e 7=iv z∧e 8=iv i) (λi=>z.toNat - i) 0 (by rfl) ?_ ?_
 ·rintro i e m ⟨hi,e0,e1,e7,e8⟩
  by_cases hlt:(i:Int) < z
  ·have c:=hc i (by omega);clear hc;generalize hS:(rsX p d (i+1)).map qtA=S2 at *;generalize (rsX p d i).map qtA=S1 at *;(focus (refine wkad (w_5 e0 e1 e7 e8 hlt) (w_1 c) w_t ?_;(repeat' first|exact w_t|apply w_l);all_goals intros));exact⟨i+1,⟨by omega,by rw [hS];exact gC,by exact gW e1,by exact gW e7,by exact gS⟩,by omega⟩
  ·have hiz:i=z.toNat:=by omega
   rw [←hiz];clear hc;generalize (rsX p d i).map qtA=S1 at *;(focus (refine wkad (w_5 e0 e1 e7 e8 hlt) w_t w_t ?_;(repeat' first|exact w_t|apply w_l);all_goals intros));all_goals exact gL
 ·exact⟨Nat.zero_le _,by rw [h0];exact gC,by exact gC,by exact gC,by exact gC⟩
end Go.Proofs.YtpkcophcldjboaaGreatDoor
namespace Go.Pg
open Go Go.RowKit
theorem Zo0 {κ:MKey} {y z:AV}:∀{es:List (MKey × AV)},Zb8 κ es=none→Zb8 κ (es++[(κ,z)])=some z∧Zcj κ y (es++[(κ,z)])=es++[(κ,y)]
 | [],_=>by simp [Zb8,Zcj]
 | a :: r,h=>by
   simp only [Zb8] at h;split at h
   ·cases h
   ·rename_i hne;obtain⟨h1,h2⟩:=Zo0 (κ:=κ) (y:=y) (z:=z) h;simp only [List.cons_append,Zb8,Zcj,if_neg hne,h1,h2,and_self]
def Zh3 (w:World) (h:Nat) (arr:Array MapEntry) (clock:Nat):World:={ w with heap:=w.heap.setIfInBounds h (.map arr clock) }
theorem Zo5 {w:World} {h:Nat} (hlt:h < w.heap.size) (arr:Array MapEntry) (clock:Nat):(Zh3 w h arr clock).heap[h]?=some (.map arr clock):=by simp [Zh3,hlt]
theorem mapAt_at (w:World) (h:Nat) (x y:Array MapEntry) (i j:Nat):Zh3 (Zh3 w h x i) h y j=Zh3 w h y j:=by simp [Zh3]
section
variable {P:Program} {w:World} {imm:Imm} {MT kt et:TypeId} {κ:MKey} {h clock:Nat} {arr:Array MapEntry} {es:List (MKey × AV)} {k:Int}
theorem Zsz (hu:P.underlying MT=some (.map kt et)) (hk:Zz4 P kt κ) (hz:Zau P et=some (.int .i64 0)) (hh:w.heap[h]?=some (.map arr clock)) (hl:es.length=arr.size) (ha:Zev κ es=true)
 (hr:∀(j:Nat) (a:MKey × AV) (x:MapEntry),es[j]?=some a→arr[j]?=some x→x.key=a.1.val∧Rd w imm a.2 x.val) (hg:Zqu false (.v (.int .i64 0)) (Zb8 κ es)=.v (.int .i64 k)) :
 (Instr.lookup MT (.map (some h)) κ.val false).run P w=.ok (.int .i64 k) w:=by
 have hzr:(zeroValue et).run P w=.ok (.int .i64 0) w:=Zab hz;have hck:=Zim (P:=P) (w:=w) hk arr.isEmpty;rcases Zir (w:=w) (imm:=imm) κ hk arr.toList es (by simpa using hl) ha (λj b x h1 h2=>hr j b x h1 (by simpa using h2)) with⟨f1,f2,-⟩ | ⟨j,x,v,f1,-,-,f4,f5,-⟩
 ·rw [f2] at hg
  have:k=0:=by
   injection hg with hg
   injection hg with _ hg
   exact hg.symm
  subst this;simp only [Instr.lookup,Sem.run_bind,run_underlying hu,Result.andThen_ok,MapKept.run_getObj_map hh,Sem.run_pure,hck,f1,hzr,Bool.false_eq_true,if_false]
 ·rw [f4] at hg;have hv:v=.v (.int .i64 k):=hg;subst hv;have:=(show Rs w imm (.v (.int .i64 k)) x.val from .pure f5).v_inv;simp only [Instr.lookup,Sem.run_bind,run_underlying hu,Result.andThen_ok,MapKept.run_getObj_map hh,Sem.run_pure,hck,f1,this,Bool.false_eq_true,if_false]
theorem Zyy (hu:P.underlying MT=some (.map kt et)) (hk:Zz4 P kt κ) (hz:Zau P et=some (.int .i64 0)) (hh:w.heap[h]?=some (.map arr clock)) (hl:es.length=arr.size) (ha:Zev κ es=true) (hbo:Born arr clock)
 (hr:∀(j:Nat) (a:MKey × AV) (x:MapEntry),es[j]?=some a→arr[j]?=some x→x.key=a.1.val∧Rd w imm a.2 x.val) (hg:Zqu false (.v (.int .i64 0)) (Zb8 κ es)=.v (.int .i64 k)) :
 ∃(arr1:Array MapEntry) (clock1 j b:Nat) (es1:List (MKey × AV)) (e:MapEntry),(Instr.mapEntry MT (.map (some h)) κ.val).run P w=.ok (.tuple #[.int .i64 k,goInt b]) (Zh3 w h arr1 clock1)∧Born arr1 clock1∧es1.length=arr1.size∧Zev κ es1=true ∧
  (∀(j:Nat) (a:MKey × AV) (x:MapEntry),es1[j]?=some a→arr1[j]?=some x→x.key=a.1.val∧Rd w imm a.2 x.val)∧Zqu false (.v (.int .i64 0)) (Zb8 κ es1)=.v (.int .i64 k) ∧
  arr1[j]?=some e∧e.key=κ.val∧e.born=b∧(∀y,Zcj κ y es=es1.set j (κ,y))∧j < es1.length:=by
 have hzr:(zeroValue et).run P w=.ok (.int .i64 0) w:=Zab hz;have hck:=Zim (P:=P) (w:=w) hk false;have hset:∀o':Obj,(setObj h o').run P w=.ok () { w with heap:=w.heap.setIfInBounds h o' }:=λo'=>MapKept.run_setObj_map o' hh;rcases Zir (w:=w) (imm:=imm) κ hk arr.toList es (by simpa using hl) ha (λj b x h1 h2=>hr j b x h1 (by simpa using h2)) with⟨f1,f2,f3⟩ | ⟨j,x,v,f1,f2,fk,f4,f5,f6,f7⟩
 ·have hg':=hg;rw [f2] at hg'
  have:k=0:=by
   injection hg' with hg'
   injection hg' with _ hg'
   exact hg'.symm
  subst this;obtain⟨g1,-⟩:=Zo0 (κ:=κ) (y:=.u) (z:=.v (.int .i64 0)) f2;refine⟨arr.push { key:=κ.val,val:=.int .i64 0,born:=clock },clock+1,es.length,clock,es++[(κ,.v (.int .i64 0))],{ key:=κ.val,val:=.int .i64 0,born:=clock },?_,hbo.push _ _,by simp [hl],?_,λj b y k1 k2=>?_,by rw [g1];rfl,?_,rfl,rfl,λy=>?_,by simp⟩
  ·simp only [Instr.mapEntry,Sem.run_bind,run_underlying hu,Result.andThen_ok,MapKept.run_getObj_map hh,hck,f1,hzr,hset,Sem.run_pure];rfl
  ·have hlk:κ.like κ=true:=by cases κ<;>simp [MKey.like]
   unfold Zev at ha ⊢;rw [List.all_append,ha];simp [hlk]
  ·by_cases hj:j < es.length
   ·rw [List.getElem?_append_left hj] at k1;rw [Array.getElem?_push,if_neg (by omega)] at k2;exact hr j b y k1 k2
   ·rw [List.getElem?_append_right (by omega)] at k1
    have hje:j=es.length:=by
     rcases Nat.lt_or_ge (j - es.length) 1 with h9 | h9
     ·omega
     ·rw [List.getElem?_eq_none (by simpa using h9)] at k1;cases k1
    subst hje;rw [Nat.sub_self] at k1;simp only [List.getElem?_cons_zero,Option.some.injEq] at k1;rw [Array.getElem?_push,if_pos hl] at k2;simp only [Option.some.injEq] at k2;subst k1;subst k2;exact⟨rfl,.v _⟩
  ·rw [Array.getElem?_push,if_pos hl]
  ·rw [f3 y,List.set_append_right _ _ (Nat.le_refl _),Nat.sub_self];rfl
 ·have hg':=hg;rw [f4] at hg';have hv:v=.v (.int .i64 k):=hg';subst hv;have hxv:=(show Rs w imm (.v (.int .i64 k)) x.val from .pure f5).v_inv;have f2':arr[j]?=some x:=by simpa using f2
  have hst:=Zo7 (P:=P) (w:=w) κ;refine⟨arr.modify j λe=>{ e with key:=κ.val },clock,j,x.born,es,{ x with key:=κ.val },?_,hbo.modify _ _ λ_=>rfl,by simp [hl],ha,λj' b y k1 k2=>?_,hg,?_,rfl,rfl,f7,f6⟩
  ·simp only [Instr.mapEntry,Sem.run_bind,run_underlying hu,Result.andThen_ok,MapKept.run_getObj_map hh,hck,f1,f2',Option.map_some,Option.getD_some,fk,hst,hset,Sem.run_pure,hxv];rfl
  ·rw [Array.getElem?_modify] at k2;by_cases hj:j=j'
   ·subst hj;rw [if_pos rfl,f2'] at k2;simp only [Option.map_some,Option.some.injEq] at k2;subst k2;have:=hr j b x k1 f2';exact⟨fk ▸ this.1,this.2⟩
   ·rw [if_neg hj] at k2;exact hr j' b y k1 k2
  ·rw [Array.getElem?_modify,if_pos rfl,f2'];rfl
theorem Zv0 {j b:Nat} {e:MapEntry} {x:Value} (hh:w.heap[h]?=some (.map arr clock)) (hbo:Born arr clock) (hj:arr[j]?=some e) (hb:e.born=b) :
 (Instr.entryStore MT (.map (some h)) (goInt b) x).run P w=.ok () (Zh3 w h (arr.modify j λe=>{ e with val:=x }) clock):=by
 have hset:∀o':Obj,(setObj h o').run P w=.ok () { w with heap:=w.heap.setIfInBounds h o' }:=λo'=>MapKept.run_setObj_map o' hh;obtain⟨hjl,hje⟩:=Array.getElem?_eq_some_iff.1 hj
 have hf:arr.findIdx? (λe=>(e.born:Int) == (b:Int))=some j:=by
  rw [Array.findIdx?_eq_some_iff_getElem];refine⟨hjl,by rw [hje,hb];simp,λi hi=>?_⟩;have hn:=List.pairwise_iff_getElem.1 hbo.2 i j (by simp;omega) (by simp;omega) hi;simp only [List.getElem_map,Array.getElem_toList,hje,hb] at hn;simp only [Bool.not_eq_true,beq_eq_false_iff_ne,ne_eq];omega
 simp only [Instr.entryStore,Sem.run_bind,MapKept.run_getObj_map hh,Result.andThen_ok,goInt,asInt,asIntOf,Sem.run_pure,hf,hset];rfl
end
theorem put_at {a:Act} {d:Nat} {v:Value} (hd:d < a.tmps.size) (t:Nat):(a.put (some d) v).tmps.getD t undef=if t=d then v else a.tmps.getD t undef:=by
 show(a.tmps.setIfInBounds d v).getD t undef=_;rw [Array.getD_eq_getD_getElem?,Array.getElem?_setIfInBounds,Array.getD_eq_getD_getElem?];by_cases h:t=d
 ·rw [if_pos h.symm,if_pos h,if_pos hd];rfl
 ·rw [if_neg (Ne.symm h),if_neg h]
def opAt (l:List Oper) (i:Nat) (d:Option Nat) (op:Op):Prop:=∃(ty:TypeId) (pos:String) (af:Array Edge),l[i]?=some ⟨d,op,ty,pos,af,none⟩
def before (l:List Oper) (i j:Nat):Bool:=Zib l.toArray 7 i j
def edgesLow (l:List Oper):Bool:=(List.range l.length).all λi=>match l[i]? with
 | some o=>o.after.all λe=>decide (e.on < i)
 | none=>true
structure TkI (n:Nat) (a0:Act) (W0 W1 W2:World) (D:Nat→Nat) (V:Nat→Value) (L:Array Bool) (a:Act) (w:World):Prop where
 sz:a.tmps.size=n
 df:a.defers=[]
 ls:L.size=7
 oth:∀t,(∀j,j < 6→t≠D j)→a.tmps.getD t undef=a0.tmps.getD t undef
 tv:∀j,j < 6→L.getD j true=true→a.tmps.getD (D j) undef=V j
 wd:w=if L.getD 6 true=true then W2 else if L.getD 4 true=true then W1 else W0
theorem Zfx (L:Array Bool) (i j:Nat):(L.setIfInBounds i true).getD j true=if j=i then true else L.getD j true:=by
 rw [Array.getD_eq_getD_getElem?,Array.getElem?_setIfInBounds,Array.getD_eq_getD_getElem?];by_cases h:j=i
 ·subst h;rw [if_pos rfl,if_pos rfl];split<;>rfl
 ·rw [if_neg (Ne.symm h),if_neg h]
theorem TkI.step {n:Nat} {a0:Act} {W0 W1 W2:World} {D:Nat→Nat} {V:Nat→Value} {L:Array Bool} {a:Act} {w w':World} (I:TkI n a0 W0 W1 W2 D V L a w) {i:Nat} (hi:i < 6) (hD:∀i j,i < 6→j < 6→D i=D j→i=j) (hn:D i < n)
 (hw:w'=if L.getD 6 true=true then W2 else if i=4∨L.getD 4 true=true then W1 else W0):TkI n a0 W0 W1 W2 D V (L.setIfInBounds i true) (a.put (some (D i)) (V i)) w':=by
 have hdn:D i < a.tmps.size:=by rw [I.sz];exact hn
 refine⟨by rw [Act.put_size];exact I.sz,by rw [Act.put_defers'];exact I.df,by rw [Array.size_setIfInBounds];exact I.ls,λt ht=>?_,λj hj h=>?_,?_⟩
 ·rw [put_at hdn,if_neg (ht i hi)];exact I.oth t ht
 ·rw [put_at hdn];by_cases hji:j=i
  ·subst hji;rw [if_pos rfl]
  ·rw [if_neg λe=>hji (hD _ _ hj hi e)];rw [Zfx,if_neg hji] at h;exact I.tv j hj h
 ·have e6:(L.setIfInBounds i true).getD 6 true=L.getD 6 true:=by rw [Zfx,if_neg (by omega)]
  rw [e6,Zfx,hw];by_cases h4:i=4
  ·rw [if_pos (c:=i=4∨_) (.inl h4),if_pos (c:=4=i) h4.symm,if_pos rfl]
  ·rw [if_neg (c:=4=i) (Ne.symm h4)];by_cases h5:L.getD 4 true=true
   ·rw [if_pos (c:=i=4∨_) (.inr h5),if_pos h5]
   ·rw [if_neg (c:=i=4∨_) (by rintro (h | h);exact h4 h;exact h5 h),if_neg h5]
def unl (L:Array Bool):Nat:=(List.range 7).countP λi=>!L.getD i true
theorem Zvh {L:Array Bool} {i:Nat} (hs:L.size=7) (hi:L.getD i true=false):unl (L.setIfInBounds i true)+1=unl L∧i < 7:=by
 have h7:i < 7:=by
  rcases Nat.lt_or_ge i 7 with h | h
  ·exact h
  ·rw [Array.getD_eq_getD_getElem?,Array.getElem?_eq_none (by omega)] at hi;cases hi
 refine⟨?_,h7⟩;have e:=Zfx L i;unfold unl;simp only [e,show List.range 7=[0,1,2,3,4,5,6] from rfl,List.countP_cons,List.countP_nil]
 match i,h7 with
 | 0,_=>simp [hi];try omega
 | 1,_=>simp [hi];try omega
 | 2,_=>simp [hi];try omega
 | 3,_=>simp [hi];try omega
 | 4,_=>simp [hi];try omega
 | 5,_=>simp [hi];try omega
 | 6,_=>simp [hi];try omega
theorem Zwo {P:Program} {tok n id tk h:Nat} {Q:AE→St→Prop} {st:St} {l:List Oper} {MT kt et T:TypeId} {κ:MKey} {kv:AV} {k:Int} {es:List (MKey × AV)} {s0 s1 d0 d1 d2 d3 d4 d5:Nat} {it jt:TypeId}
 (hm:P.follows .mixedOrders=true) (h7:l.length=7) (hlow:edgesLow l=true)
 (o0:opAt l 0 (some d0) (.move (.tmp s0))) (o1:opAt l 1 (some d1) (.load T (.tmp s1))) (o2:opAt l 2 (some d2) (.lookup MT (.tmp d0) (.tmp d1) false)) (o3:opAt l 3 (some d3) (.binOp .add it (.tmp d2) (.const (.int .i64 1)) jt))
 (o4:opAt l 4 (some d4) (.mapEntry MT (.tmp d0) (.tmp d1))) (o5:opAt l 5 (some d5) (.extract (.tmp d4) 1)) (o6:opAt l 6 none (.entryStore MT (.tmp d0) (.tmp d5) (.tmp d3)))
 (hb:(before l 0 2 && before l 1 2 && before l 2 3 && before l 0 4 && before l 1 4 && before l 4 5 && before l 3 6 && before l 5 6 && before l 0 6 && before l 1 6 && before l 2 6 && before l 4 6)=true)
 (hn:[s0,s1,d0,d1,d2,d3,d4,d5].Nodup) (hlt:[d0,d1,d2,d3,d4,d5].all (· < n)=true)
 (hu:P.underlying MT=some (.map kt et)) (hz:Zau P et=some (.int .i64 0)) (e0:st.env s0=.mp tk h) (hmem:st.mem tk=some (.map h es)) (hld:resK (Zcw P st T (st.env s1)) (λb=>b=kv)) (hkv:mkOf P kt kv=some κ) (ha:Zev κ es=true)
 (hg:Zqu false (.v (.int .i64 0)) (Zb8 κ es)=.v (.int .i64 k)) (hk0:0≤k) (hk1:k < 9223372036854775807)
 (hQ:Q .normal ⟨upd (upd (upd (upd (upd (upd st.env d0 .u) d1 .u) d2 .u) d3 .u) d4 .u) d5 .u,upd st.mem tk (some (.map h (Zcj κ (.v (.int .i64 (k+1))) es)))⟩):Za3 P tok n (.region id l.toArray true) Q st:=by
 intro c a0 w imm hr;refine wp_region_any hm ?_;have hgd:w.grownBy w.drew none:=⟨rfl,rfl,rfl,Nat.le_refl _,λ_ _ _=>rfl⟩;have kd:Keeps w imm w.drew imm:=λad h=>⟨h,rfl⟩;have hdr:Rel c n st a0 w.drew imm:=⟨λt=>kd.rs (hr.env t),hr.size,hr.defers,⟨⟨λk e hk=>(hr.mem.ok.ent k e hk).keep hgd (by cases e.blk<;>simp) (λ_ h=>h) (λ_ _=>rfl) (λ_ h=>.inl h),hr.mem.ok.apart,hr.mem.ok.lt,hr.mem.ok.spot⟩,hr.mem.below.drew,hr.mem.lt,hr.mem.old,hr.mem.new,hr.mem.cells⟩⟩;show wpAny P .any l.toArray (post c n Q) l.toArray.size (Array.replicate l.toArray.size false) a0 w.drew;generalize w.drew=W0 at hdr;clear hgd kd hr
 obtain⟨arr,clock,hh,hB,hl,hrr,hbo,hp⟩:=hdr.mem.ok.ent tk _ hmem;have hhl:h < W0.heap.size:=(Array.getElem?_eq_some_iff.1 hh).1;obtain⟨kx,kb,hkrun,rfl,hkrs⟩:=Zs0 hdr.mem (hdr.env s1) hld;obtain⟨rfl,hko⟩:=mk_of hkv hkrs;obtain⟨arr1,clock1,j,b,es1,e,r1,q1,q2,q3,q4,q5,q6,q7,q8,q9,q10⟩:=Zyy hu hko hz hh hl ha hbo hrr hg;have h1:=Zo5 hhl arr1 clock1;have r2:=Zv0 (P:=P) (MT:=MT) (x:=.int .i64 (k+1)) h1 q1 q6 q8;rw [mapAt_at] at r2;have rl0:=Zsz hu hko hz hh hl ha hrr hg;have hgrow:∀(x:Array MapEntry) (i:Nat),W0.grownBy (Zh3 W0 h x i) (some h):=λx i=>by
  refine⟨rfl,rfl,rfl,by simp [Zh3],λk hk hne=>?_⟩;simp only [Zh3];rw [Array.getElem?_setIfInBounds_ne (λh9=>hne (by rw [h9]))]
 have hcell:∀(x:Array MapEntry) (i:Nat) (ad:Addr),imm ad→(Zh3 W0 h x i).cell? ad=W0.cell? ad:=λx i ad g=>Zc5 (hgrow x i) (hdr.mem.ok.lt ad g) (λe=>hp ad g (by injection e));have rl1:=Zsz (w:=Zh3 W0 h arr1 clock1) hu hko hz h1 q2 q3 (imm:=imm) (λj a x g1 g2=>⟨(q4 j a x g1 g2).1,(q4 j a x g1 g2).2.keep (λ_ g=>g) (hcell arr1 clock1)⟩) q5;obtain⟨W1,hW1⟩:∃W1,W1=Zh3 W0 h arr1 clock1:=⟨_,rfl⟩;obtain⟨arr2,harr2⟩:∃arr2,arr2=arr1.modify j λe=>{ e with val:=.int .i64 (k+1) }:=⟨_,rfl⟩;obtain⟨W2,hW2⟩:∃W2,W2=Zh3 W0 h arr2 clock1:=⟨_,rfl⟩;rw [←harr2,←hW2,←hW1] at r2;rw [←hW1] at r1 rl1;obtain⟨D,hDdef⟩:∃D:Nat→Nat,D=λj=>[d0,d1,d2,d3,d4,d5].getD j 0:=⟨_,rfl⟩
 obtain⟨V,hVdef⟩:∃V:Nat→Value,V=λj=>[.map (some h),κ.val,.int .i64 k,.int .i64 (k+1),.tuple #[.int .i64 k,goInt b],goInt b].getD j undef:=⟨_,rfl⟩;simp only [List.nodup_cons,List.mem_cons,List.not_mem_nil,or_false,not_or] at hn;simp only [List.all_cons,List.all_nil,Bool.and_true,Bool.and_eq_true,decide_eq_true_eq] at hlt;obtain⟨l0,l1,l2,l3,l4,l5⟩:=hlt;obtain⟨⟨-,n1,n2,n3,n4,n5,n6⟩,⟨m1,m2,m3,m4,m5,m6⟩,⟨a1,a2,a3,a4,a5⟩,⟨b1,b2,b3,b4⟩,⟨c1,c2,c3⟩,⟨f1,f2⟩,f3,-⟩:=hn
 have hD:∀i j,i < 6→j < 6→D i=D j→i=j:=by
  subst hDdef;intro i j hi hj
  match i,j,hi,hj with
  | 0,0,_,_ | 1,1,_,_ | 2,2,_,_ | 3,3,_,_ | 4,4,_,_ | 5,5,_,_=>intro _;rfl
  | 0,1,_,_=>exact λe=>absurd e a1
  | 0,2,_,_=>exact λe=>absurd e a2
  | 0,3,_,_=>exact λe=>absurd e a3
  | 0,4,_,_=>exact λe=>absurd e a4
  | 0,5,_,_=>exact λe=>absurd e a5
  | 1,2,_,_=>exact λe=>absurd e b1
  | 1,3,_,_=>exact λe=>absurd e b2
  | 1,4,_,_=>exact λe=>absurd e b3
  | 1,5,_,_=>exact λe=>absurd e b4
  | 2,3,_,_=>exact λe=>absurd e c1
  | 2,4,_,_=>exact λe=>absurd e c2
  | 2,5,_,_=>exact λe=>absurd e c3
  | 3,4,_,_=>exact λe=>absurd e f1
  | 3,5,_,_=>exact λe=>absurd e f2
  | 4,5,_,_=>exact λe=>absurd e f3
  | 1,0,_,_=>exact λe=>absurd e.symm a1
  | 2,0,_,_=>exact λe=>absurd e.symm a2
  | 3,0,_,_=>exact λe=>absurd e.symm a3
  | 4,0,_,_=>exact λe=>absurd e.symm a4
  | 5,0,_,_=>exact λe=>absurd e.symm a5
  | 2,1,_,_=>exact λe=>absurd e.symm b1
  | 3,1,_,_=>exact λe=>absurd e.symm b2
  | 4,1,_,_=>exact λe=>absurd e.symm b3
  | 5,1,_,_=>exact λe=>absurd e.symm b4
  | 3,2,_,_=>exact λe=>absurd e.symm c1
  | 4,2,_,_=>exact λe=>absurd e.symm c2
  | 5,2,_,_=>exact λe=>absurd e.symm c3
  | 4,3,_,_=>exact λe=>absurd e.symm f1
  | 5,3,_,_=>exact λe=>absurd e.symm f2
  | 5,4,_,_=>exact λe=>absurd e.symm f3
 have fin:∀(L:Array Bool) (a:Act) (w:World),TkI n a0 W0 W1 W2 D V L a w→Region.ready .any l.toArray L=[]→post c n Q .normal a w:=by
  intro L a w I hrd
  have all:∀i,i < 7→L.getD i true=true:=by
   intro i
   induction i using Nat.strongRecOn with
   | ind i ih =>
     intro hi
     cases hc:L.getD i true with
     | true=>rfl
     | false =>
       exfalso;have hil:i < l.length:=by omega
       have:i∈Region.ready .any l.toArray L:=mem_ready.2 ⟨hc,l[i],by simp [hil],λe he _=>by
        have h9:=List.all_eq_true.1 hlow i (List.mem_range.2 hil);rw [List.getElem?_eq_getElem hil] at h9;have h8:=of_decide_eq_true (Array.all_eq_true'.1 h9 e he);have:=ih e.on h8 (by omega);rw [Array.getD_eq_getD_getElem?] at this ⊢
        rwa [Array.getElem?_eq_getElem (by rw [I.ls];omega)] at this ⊢⟩
       rw [hrd] at this;cases this
  have hw:w=W2:=by rw [I.wd,if_pos (all 6 (by omega))]
  subst hw;obtain⟨mx,kp⟩:=Zdf hdr.mem (hgrow arr2 clock1) (Nat.le_refl _) (λg' hg'=>by cases hg';exact hB) (hcell arr2 clock1) tk (.map h (Zcj κ (.v (.int .i64 (k+1))) es))
   ⟨arr2,clock1,Zo5 hhl _ _,hB,by rw [harr2,q9];simp [q2],λi x y g1 g2=>by
    rw [q9,List.getElem?_set] at g1;rw [harr2,Array.getElem?_modify] at g2;by_cases hij:j=i
    ·subst hij;rw [if_pos rfl,if_pos q10] at g1;rw [if_pos rfl,q6] at g2;simp only [Option.map_some,Option.some.injEq] at g1 g2;subst g1;subst g2;exact⟨q7,.v _⟩
    ·rw [if_neg hij] at g1 g2;exact⟨(q4 i x y g1 g2).1,(q4 i x y g1 g2).2.keep (λ_ g=>g) (hcell arr2 clock1)⟩,by rw [harr2];exact q1.modify _ _ λ_=>rfl,hp⟩
   (λj e2 b hj hje hb=>⟨λe=>hj (hdr.mem.ok.apart j tk e2 _ b hje hmem hb (by rw [Ent.blk,e])),λe=>hj (hdr.mem.ok.apart j tk e2 _ b hje hmem hb (by simpa [Ent.blk] using e))⟩)
  rw [←hW2] at mx kp;refine⟨.normal,_,imm,rfl,hQ,λt=>?_,I.sz,I.df,mx⟩;simp only [Zam];by_cases g5:t=d5
  ·rw [if_pos g5];exact .pure (.u _)
  rw [if_neg g5];by_cases g4:t=d4
  ·rw [if_pos g4];exact .pure (.u _)
  rw [if_neg g4];by_cases g3:t=d3
  ·rw [if_pos g3];exact .pure (.u _)
  rw [if_neg g3];by_cases g2:t=d2
  ·rw [if_pos g2];exact .pure (.u _)
  rw [if_neg g2];by_cases g1:t=d1
  ·rw [if_pos g1];exact .pure (.u _)
  rw [if_neg g1];by_cases g0:t=d0
  ·rw [if_pos g0];exact .pure (.u _)
  rw [if_neg g0,I.oth t λj hj=>by
   subst hDdef
   match j,hj with
   | 0,_=>exact g0
   | 1,_=>exact g1
   | 2,_=>exact g2
   | 3,_=>exact g3
   | 4,_=>exact g4
   | 5,_=>exact g5]
  exact kp.rs (hdr.env t)
 have D0:D 0=d0:=by rw [hDdef];rfl
 have D1:D 1=d1:=by rw [hDdef];rfl
 have D2:D 2=d2:=by rw [hDdef];rfl
 have D3:D 3=d3:=by rw [hDdef];rfl
 have D4:D 4=d4:=by rw [hDdef];rfl
 have D5:D 5=d5:=by rw [hDdef];rfl
 have V0:V 0=.map (some h):=by rw [hVdef];rfl
 have V1:V 1=κ.val:=by rw [hVdef];rfl
 have V2:V 2=.int .i64 k:=by rw [hVdef];rfl
 have V3:V 3=.int .i64 (k+1):=by rw [hVdef];rfl
 have V4:V 4=.tuple #[.int .i64 k,goInt b]:=by rw [hVdef];rfl
 have V5:V 5=goInt b:=by rw [hVdef];rfl
 clear hDdef hVdef;have hsl:∀s,s≠d0→s≠d1→s≠d2→s≠d3→s≠d4→s≠d5→∀j,j < 6→s≠D j:=λs g0 g1 g2 g3 g4 g5 j hj=>by
  match j,hj with
  | 0,_=>rw [D0];exact g0
  | 1,_=>rw [D1];exact g1
  | 2,_=>rw [D2];exact g2
  | 3,_=>rw [D3];exact g3
  | 4,_=>rw [D4];exact g4
  | 5,_=>rw [D5];exact g5
 have x0:a0.tmps.getD s0 undef=.map (some h):=by
  have:=hdr.env s0;rw [e0] at this;exact this.mp_inv
 simp only [Bool.and_eq_true,before] at hb;obtain⟨⟨⟨⟨⟨⟨⟨⟨⟨⟨⟨p02,p12⟩,p23⟩,p04⟩,p14⟩,p45⟩,p36⟩,p56⟩,p06⟩,p16⟩,p26⟩,p46⟩:=hb
 have main:∀(f:Nat) (L:Array Bool) (a:Act) (w:World),TkI n a0 W0 W1 W2 D V L a w→Closed l.toArray L→unl L≤f→wpAny P .any l.toArray (post c n Q) f L a w:=by
  intro f
  induction f with
  | zero =>
    intro L a w I hC hu0
    have hrd:Region.ready .any l.toArray L=[]:=by
     rcases hx:Region.ready .any l.toArray L with _ | ⟨i,r⟩
     ·rfl
     ·exfalso;have hi:i∈Region.ready .any l.toArray L:=by rw [hx];exact .head _
      have:=(Zvh I.ls (mem_ready.1 hi).1).1;omega
    exact⟨hrd,fin L a w I hrd⟩
  | succ f ih =>
    intro L a w I hC hu0;refine⟨fin L a w I,λi hi=>?_⟩;obtain⟨hi0,o,hoi,haf⟩:=mem_ready.1 hi;obtain⟨hu1,hi7⟩:=Zvh I.ls hi0;have pre:∀p,p < 7→Zib l.toArray 7 p i=true→L.getD p true=true:=λp hp7 hre=>by
     have:=Zc4 hC 7 i o hoi haf hre;rw [Array.getD_eq_getD_getElem?] at this ⊢
     rwa [Array.getElem?_eq_getElem (by rw [I.ls];exact hp7)] at this ⊢
    have hC':=hC.set hi
    have go:∀(d:Option Nat) (op:Op) (ty:TypeId) (pos:String) (af:Array Edge) (K:Act→World→Prop),l[i]?=some ⟨d,op,ty,pos,af,none⟩→Oper.wp P ⟨d,op,ty,pos,af,none⟩ a w K (post c n Q)→wpOp P l.toArray (post c n Q) i K a w:=by
     intro d op ty pos af K ho hw;unfold wpOp;rw [List.getElem?_toArray,ho];simp only [Region.wanted];exact .inl hw
    have val:∀(d:Nat) (op:Op) (ty:TypeId) (pos:String) (af:Array Edge) (w':World),i < 6→D i=d→D i < n→l[i]?=some ⟨some d,op,ty,pos,af,none⟩→(execOp a.eval ⟨some d,op,ty,pos,af,none⟩).run P w=.ok (.value (V i)) w' →
     (w'=if L.getD 6 true=true then W2 else if i=4∨L.getD 4 true=true then W1 else W0)→wpOp P l.toArray (post c n Q) i (wpAny P .any l.toArray (post c n Q) f (L.setIfInBounds i true)) a w:=by
     intro d op ty pos af w' h6 hd hdn ho hrun hw;subst hd;refine go _ op ty pos af _ ho ?_;unfold Oper.wp;rw [hrun,Oper.upon_value];exact ih _ _ _ (I.step h6 hD hdn hw) hC' (by omega)
    have same:i≠4→w=if L.getD 6 true=true then W2 else if i=4∨L.getD 4 true=true then W1 else W0:=λh4=>by
     rw [I.wd];simp only [h4,false_or]
    have hev:∀j,j < 6→L.getD j true=true→a.eval (.tmp (D j))=V j:=λj hj hL=>I.tv j hj hL;have notl:∀j,j < 7→Zib l.toArray 7 i j=true→L.getD j true=false:=λj hj hre=>by
     cases hc:L.getD j true with
     | false=>rfl
     | true =>
       exfalso
       have hc':L.getD j false=true:=by
        rw [Array.getD_eq_getD_getElem?,Array.getElem?_eq_getElem (by rw [I.ls];exact hj)] at hc ⊢;exact hc
       have hjl:l.toArray[j]?=some l[j]:=by simp [show j < l.length by omega]
       have:=Zc4 hC 7 j _ hjl (hC j _ hjl hc') hre;rw [Array.getD_eq_getD_getElem?,Array.getElem?_eq_getElem (by rw [I.ls];exact hi7)] at this hi0;simp only [Option.getD_some] at this hi0;rw [this] at hi0;cases hi0
    have w6:Zib l.toArray 7 i 6=true→w=if L.getD 4 true=true then W1 else W0:=λhre=>by
     rw [I.wd,if_neg (by rw [notl 6 (by omega) hre];exact Bool.false_ne_true)]
    match i,hi7 with
    | 0,_ =>
      obtain⟨ty,pos,af,ho⟩:=o0;refine val d0 _ _ _ _ w (by omega) D0 (by rw [D0];exact l0) ho ?_ (same (by omega));have:a.eval (.tmp s0)=V 0:=by rw [V0,←x0];exact I.oth s0 (hsl s0 n1 n2 n3 n4 n5 n6)
      simp only [execOp,this,Sem.run_pure]
    | 1,_ =>
      obtain⟨ty,pos,af,ho⟩:=o1;have hw0:w=W0:=by rw [w6 p16,if_neg (by rw [notl 4 (by omega) p14];exact Bool.false_ne_true)]
      refine val d1 _ _ _ _ w (by omega) D1 (by rw [D1];exact l1) ho ?_ (same (by omega));have:a.eval (.tmp s1)=a0.tmps.getD s1 undef:=I.oth s1 (hsl s1 m1 m2 m3 m4 m5 m6);rw [hw0,V1];simp only [execOp,this,Sem.run_bind,hkrun,Result.andThen_ok,Sem.run_pure]
    | 2,_ =>
      obtain⟨ty,pos,af,ho⟩:=o2;refine val d2 _ _ _ _ w (by omega) D2 (by rw [D2];exact l2) ho ?_ (same (by omega));have e1:a.eval (.tmp d0)=.map (some h):=by rw [←D0,hev 0 (by omega) (pre 0 (by omega) p02),V0]
      have e2:a.eval (.tmp d1)=κ.val:=by rw [←D1,hev 1 (by omega) (pre 1 (by omega) p12),V1]
      have hrun:(Instr.lookup MT (.map (some h)) κ.val false).run P w=.ok (.int .i64 k) w:=by
       rw [w6 p26];split
       ·exact rl1
       ·exact rl0
      rw [V2];simp only [execOp,e1,e2,Sem.run_bind,hrun,Result.andThen_ok,Sem.run_pure]
    | 3,_ =>
      obtain⟨ty,pos,af,ho⟩:=o3;refine val d3 _ _ _ _ w (by omega) D3 (by rw [D3];exact l3) ho ?_ (same (by omega));have e1:a.eval (.tmp d2)=.int .i64 k:=by rw [←D2,hev 2 (by omega) (pre 2 (by omega) p23),V2]
      have e2:a.eval (.const (.int .i64 1))=.int .i64 1:=rfl;have hwr:IntKind.i64.wrap (k+1)=k+1:=by simp [IntKind.wrap,IntKind.bits,IntKind.signed];omega
      rw [V3];simp [execOp,e1,e2,eqGuard,binOp,Op.intArith,hwr]
    | 4,_ =>
      obtain⟨ty,pos,af,ho⟩:=o4;have hw0:w=W0:=by rw [w6 p46,if_neg (by rw [hi0];exact Bool.false_ne_true)]
      refine val d4 _ _ _ _ W1 (by omega) D4 (by rw [D4];exact l4) ho ?_ (by rw [if_neg (by rw [notl 6 (by omega) p46];exact Bool.false_ne_true),if_pos (.inl rfl)]);have e1:a.eval (.tmp d0)=.map (some h):=by rw [←D0,hev 0 (by omega) (pre 0 (by omega) p04),V0]
      have e2:a.eval (.tmp d1)=κ.val:=by rw [←D1,hev 1 (by omega) (pre 1 (by omega) p14),V1]
      rw [hw0,V4];simp only [execOp,e1,e2,Sem.run_bind,r1,Result.andThen_ok,Sem.run_pure]
    | 5,_ =>
      obtain⟨ty,pos,af,ho⟩:=o5;refine val d5 _ _ _ _ w (by omega) D5 (by rw [D5];exact l5) ho ?_ (same (by omega));have e1:a.eval (.tmp d4)=.tuple #[.int .i64 k,goInt b]:=by rw [←D4,hev 4 (by omega) (pre 4 (by omega) p45),V4]
      rw [V5];simp [execOp,e1,Instr.extract]
    | 6,_ =>
      obtain⟨ty,pos,af,ho⟩:=o6;have hw1:w=W1:=by rw [I.wd,if_neg (by rw [hi0];exact Bool.false_ne_true),if_pos (pre 4 (by omega) p46)]
      have e1:a.eval (.tmp d0)=.map (some h):=by rw [←D0,hev 0 (by omega) (pre 0 (by omega) p06),V0]
      have e2:a.eval (.tmp d5)=goInt b:=by rw [←D5,hev 5 (by omega) (pre 5 (by omega) p56),V5]
      have e3:a.eval (.tmp d3)=.int .i64 (k+1):=by rw [←D3,hev 3 (by omega) (pre 3 (by omega) p36),V3]
      refine go _ _ _ _ _ _ ho ?_
      have hrun:(execOp a.eval ⟨none,.entryStore MT (.tmp d0) (.tmp d5) (.tmp d3),ty,pos,af,none⟩).run P w=.ok .skip W2:=by
       rw [hw1];simp only [execOp,e1,e2,e3,Sem.run_bind,r2,Result.andThen_ok,Sem.run_pure]
      unfold Oper.wp;rw [hrun,Oper.upon_skip];refine ih _ _ _ ⟨I.sz,I.df,by rw [Array.size_setIfInBounds];exact I.ls,I.oth,λj hj hL=>I.tv j hj (by rwa [Zfx,if_neg (by omega)] at hL),by rw [Zfx,if_pos rfl,if_pos rfl]⟩ hC' (by omega)
 have e7:l.toArray.size=7:=by simp [h7]
 rw [e7];refine main 7 _ a0 W0 ⟨hdr.size,hdr.defers,by simp,λ_ _=>rfl,λj hj hL=>?_,?_⟩ (λj o ho hj=>?_) ?_
 ·exfalso;rw [Array.getD_eq_getD_getElem?] at hL;simp [show j < 7 by omega] at hL
 ·simp
 ·exfalso;rw [Array.getD_eq_getD_getElem?] at hj;by_cases hjl:j < 7<;>simp [hjl,Array.getElem?_replicate] at hj
 ·unfold unl;exact Nat.le_trans List.countP_le_length (by simp)
end Go.Pg
namespace Go.Proofs.YtpkcophcldjboaaGreatDoor
open Go Go.RowKit Go.Pg Go.Proofs.Tryz
attribute [-bool_to_prop] Bool.and_eq_decide Bool.or_eq_decide Bool.decide_beq_decide decide_eq_decide
attribute [local go_sem] underlying3
theorem szMapQ:szOf prog 97=some 1:=by kernel_rfl
theorem zInt3:Zau prog 3=some (.int .i64 0):=by kernel_rfl
theorem stQ:stI prog 39 4=true:=by kernel_rfl
theorem mkQ (a b c d:Int):mkOf prog 39 (.agg [iv a,iv b,iv c,iv d])=some (.l [a,b,c,d]):=by
 unfold mkOf;rw [underlying39];show(if stI prog 39 4=true then _ else _)=_;rw [if_pos stQ]
end Go.Proofs.YtpkcophcldjboaaGreatDoor
namespace Go.Proofs.YtpkcophcldjboaaGreatDoor
open Go Go.RowKit Go.Pg Go.Pol Go.Proofs.Tryz
attribute [-bool_to_prop] Bool.and_eq_decide Bool.or_eq_decide Bool.decide_beq_decide decide_eq_decide
attribute [local go_sem] underlying3 underlying4 underlying128 underlying50 underlying52 underlying54 underlying39 underlying55 underlying57 underlying26 underlying27 sz3 by3 z3 szB zB Zas zRat Zay zInt Zax zNat Zah Zan Zai Bool.and_self Zal Za7 zSlQ szQT byQT zQT Za9 zSlT szQP zQP underlying81 underlying29 szFr byFr zFr Zb6 Zca zSQP underlying97 szMapQ stQ
def kQ (q:Qt):MKey:=.l [q.k,q.a,q.b,q.c]
def cntM (l:List Qt):List (MKey × AV):=l.foldl (λes q=>Zcj (kQ q) (match Zb8 (kQ q) es with
 | some (.v (.int .i64 n))=>iv (n+1)
 | _=>iv 1) es) []
theorem kQ_inj {p q:Qt} (h:kQ p=kQ q):p=q:=by
 obtain⟨a,b,c,d⟩:=p;obtain⟨a',b',c',d'⟩:=q;unfold kQ at h;simp only [MKey.l.injEq,List.cons.injEq,and_true] at h;obtain⟨rfl,rfl,rfl,rfl⟩:=h;rfl
theorem Zo1 (κ μ:MKey) (v:AV):∀es,Zb8 κ (Zcj μ v es)=if μ=κ then some v else Zb8 κ es
 | []=>rfl
 | a :: r=>by
   by_cases h:a.1=μ
   ·simp only [Zcj,if_pos h,Zb8];by_cases h2:μ=κ
    ·rw [if_pos h2,if_pos h2]
    ·rw [if_neg h2,if_neg h2,if_neg (by rw [h];exact h2)]
   ·simp only [Zcj,if_neg h,Zb8,Zo1 κ μ v r];by_cases h2:a.1=κ
    ·rw [if_pos h2,if_neg (λe=>h (h2.trans e.symm)),if_pos h2]
    ·rw [if_neg h2,if_neg h2]
theorem Znp (l:List Qt) (q:Qt):cntM (l++[q])=Zcj (kQ q) (match Zb8 (kQ q) (cntM l) with
 | some (.v (.int .i64 n))=>iv (n+1)
 | _=>iv 1) (cntM l):=by unfold cntM;rw [List.foldl_append];rfl
theorem Znq (q:Qt):∀l,Zb8 (kQ q) (cntM l)=if tmQ q l=0 then none else some (iv (tmQ q l)):=by
 refine Zf6 rfl λl a ih=>?_;rw [Znp,Zo1,Zvo];by_cases h:a=q
 ·subst h;rw [if_pos rfl,if_pos rfl,ih];by_cases h0:tmQ a l=0
  ·rw [if_pos h0,h0];rfl
  ·rw [if_neg h0,if_neg (by omega)];rfl
 ·rw [if_neg λe=>h (kQ_inj e),if_neg h,ih]
theorem cnt_step (l:List Qt) (q:Qt):Zcj (kQ q) (iv ((tmQ q l:Nat)+1)) (cntM l)=cntM (l++[q]):=by
 rw [Znp,Znq];by_cases h0:tmQ q l=0
 ·rw [if_pos h0,h0];rfl
 ·rw [if_neg h0]
theorem cnt_res (l:List Qt) (q:Qt):Zqu false (.v (.int .i64 0)) (Zb8 (kQ q) (cntM l))=iv (tmQ q l):=by
 rw [Znq];by_cases h0:tmQ q l=0
 ·rw [if_pos h0,h0];rfl
 ·rw [if_neg h0];rfl
theorem Zwr {κ μ:MKey} {v:AV} (h:κ.like μ=true):∀{es:List (MKey × AV)},Zev κ es=true→Zev κ (Zcj μ v es)=true
 | [],_=>by show(κ.like μ && true)=true;rw [h];rfl
 | a :: r,ha=>by
   have ha':(κ.like a.1 && Zev κ r)=true:=ha;rw [Bool.and_eq_true] at ha';by_cases g:a.1=μ
   ·simp only [Zcj,if_pos g];show(κ.like μ && Zev κ r)=true;rw [h,ha'.2];rfl
   ·simp only [Zcj,if_neg g];show(κ.like a.1 && Zev κ (Zcj μ v r))=true;rw [ha'.1,Zwr h ha'.2];rfl
theorem cnt_all (q:Qt):∀l,Zev (kQ q) (cntM l)=true:=by
 refine Zf6 rfl λl a ih=>?_;rw [Znp];exact Zwr rfl ih
theorem Zyl {α β:Type} {f:α→List β} {l:List α} {j:Nat} (h:j < l.length):(l.take (j+1)).flatMap f=(l.take j).flatMap f++f l[j]:=by
 rw [List.take_succ_eq_append_getElem h,List.flatMap_append,List.flatMap_singleton]
theorem fm_len {α β:Type} {f:α→List β} (l:List α) (j:Nat):((l.take j).flatMap f).length≤(l.flatMap f).length:=by
 conv=>rhs;rw [←List.take_append_drop j l]
 rw [List.flatMap_append,List.length_append];omega
abbrev flP (ps:List QTs):List Qt:=ps.flatMap flQ
abbrev hvA (x:Int) (l:List Qt):List AV:=(hvP x l).map Qt.av
theorem hvA_y {x:Int} {l:List Qt} {q:Qt} (h0:tmQ q l=0) (h:hasQ x q=true):hvA x (l++[q])=hvA x l++[q.av]:=by
 unfold hvA;rw [Zip,if_pos ⟨h0,h⟩,List.map_append];rfl
theorem hvA_n {x:Int} {l:List Qt} {q:Qt} (h:¬(tmQ q l=0∧hasQ x q=true)):hvA x (l++[q])=hvA x l:=by
 unfold hvA;rw [Zip,if_neg h]
theorem cnt_get0 {l:List Qt} {q:Qt} (h:tmQ q l=0):Zb8 (kQ q) (cntM l)=none:=by rw [Znq,if_pos h]
theorem cnt_get1 {l:List Qt} {q:Qt} (h:¬tmQ q l=0):Zb8 (kQ q) (cntM l)=some (iv (tmQ q l)):=by rw [Znq,if_neg h]
theorem elHaving (x:Int) (ps:List QTs) (hl:ps.length≤1000000) (hp:∀p∈ps,p.length≤1000000∧∀t∈p,t.2.length≤1000000) (hn:(flP ps).length≤1000000):Pure prog 18 [iv x,.sl 1 (ps.map qpA)] (.sl 4 ((hvL x (flP ps)).map Qt.av)):=by
 have hlm:(ps.map qpA).length=ps.length:=List.length_map ..;have hg:∀i (h:i < ps.length),(ps.map qpA).getD i .u=.sl 4 (ps[i].map qtA):=λi h=>Zat qpA h;have hpi:∀i (h:i < ps.length),ps[i].length≤1000000∧∀t∈ps[i],t.2.length≤1000000:=λi h=>hp _ (List.getElem_mem h);have hti:∀i (h:i < ps.length),flP (ps.take (i+1))=flP (ps.take i)++flQ ps[i]:=λi h=>Zyl h;have hni:∀i,(flP (ps.take i)).length≤1000000:=λi=>Nat.le_trans (fm_len ps i) hn;generalize ps.map qpA=PS at *;refine Zaa (tok:=0) func18 rfl ntmps18 results18 call18 (by rfl) (by simp) ?_;(focus (refine wkad (w_1 hlm) w_t w_t ?_;(repeat' first|exact w_t|apply w_l);all_goals intros))
 refine Zgr (Frz.nilOwn (d:=6) 500 4 39 (by exact gC)) ?_;rename_i hM;refine Zae (ι:=Nat) (λi e m=>i≤ps.length∧(e 0=iv x∧e 14=.sl 1 PS∧e 15=iv ps.length∧e 16=iv i)∧(e 5=.mp 13 hM∧m 13=some (.map hM (cntM (flP (ps.take i)))))∧∃sv,e 6=.own 500 sv∧m 500=some (.row sv 39 4 (hvA x (flP (ps.take i))) 0)) (λi=>ps.length - i) 0 (by rfl) ?_ ?_
 ·rintro i e m ⟨hi,⟨e0,e14,e15,e16⟩,⟨e5,m13⟩,sv,e6,m500⟩
  by_cases hlt:i < ps.length
  ·have hgi:=hg i hlt;obtain⟨lp,hq⟩:=hpi i hlt;have htk:=hti i hlt;have hnk:=hni (i+1);rw [htk] at hnk;clear hg hpi hti hni hp hn;generalize flP (ps.take i)=U at *;generalize ps[i]=p at *;have hpm:(p.map qtA).length=p.length:=List.length_map ..;have hpg:∀j (h:j < p.length),(p.map qtA).getD j .u=.agg [.v (.bool (decide (p[j].1.num < 0))),lim (toL p[j].1.num.natAbs),lim (toL p[j].1.den),.sl 4 (p[j].2.map Qt.av)]:=λj h=>Zat qtA h;have hqj:∀j (h:j < p.length),p[j].2.length≤1000000:=λj h=>hq _ (List.getElem_mem h);have htj:∀j (h:j < p.length),flQ (p.take (j+1))=flQ (p.take j)++p[j].2:=λj h=>Zyl h
   have hnj:∀j,(U++flQ (p.take j)).length≤1000000:=λj=>by have:=fm_len (f:=λt:Rat × List Qt=>t.2) p j;rw [List.length_append] at hnk ⊢;unfold flQ at hnk ⊢;omega
   have hfp:flQ (p.take p.length)=flQ p:=by rw [List.take_length]
   generalize p.map qtA=PP at *;(focus (refine wkad (w_11 e0 e14 e15 e16 e5 m13 e6 m500 hlm hgi hpm) w_t w_t ?_;(repeat' first|exact w_t|apply w_l);all_goals intros));refine Zae (ι:=Nat) (λj e m=>j≤p.length∧(e 0=iv x∧e 14=.sl 1 PS∧e 15=iv ps.length∧e 16=iv i)∧(e 5=.mp 13 hM∧m 13=some (.map hM (cntM (U++flQ (p.take j)))))∧(e 20=.sl 4 PP∧e 21=iv p.length∧e 22=iv j)∧∃sv,e 6=.own 500 sv∧m 500=some (.row sv 39 4 (hvA x (U++flQ (p.take j))) 0)) (λj=>p.length - j) 0 (by rfl) ?_ ?_
   ·rintro j e m ⟨hj,⟨e0,e14,e15,e16⟩,⟨e5,m13⟩,⟨e20,e21,e22⟩,sv,e6,m500⟩
    by_cases hjl:j < p.length
    ·have hgj:=hpg j hjl;have lw:=hqj j hjl;have htk2:=htj j hjl;have hnk2:=hnj (j+1);rw [htk2,←List.append_assoc] at hnk2;clear hpg hqj htj hnj htk hnk hq;obtain⟨V,hV⟩:∃V,V=U++flQ (p.take j):=⟨_,rfl⟩;rw [←hV] at m13 m500 hnk2;generalize p[j]=t at *;obtain⟨t1,w⟩:=t;simp only at htk2 lw hgj hnk2;have hwm:(w.map Qt.av).length=w.length:=List.length_map ..;have hwe:∀b (h:b < w.length),(w.map Qt.av).getD b .u=Qt.av w[b]:=λb h=>Zat Qt.av h;have hws:∀b (h:b < w.length),V++w.take (b+1)=(V++w.take b)++[w[b]]:=λb h=>by rw [List.take_succ_eq_append_getElem h,List.append_assoc]
     have hwn:∀b,(V++w.take b).length≤1000000:=λb=>by rw [List.length_append] at hnk2 ⊢;rw [List.length_take];omega
     have hwf:w.take w.length=w:=List.take_length;generalize w.map Qt.av=qs at *;generalize toL t1.num.natAbs=un at *;generalize toL t1.den=ud at *;generalize decide (t1.num < 0)=us at *;(focus (refine wkad (w_15 e0 e14 e15 e16 e5 m13 e20 e21 e22 e6 m500 hlm hpm hgj hwm) w_t w_t ?_;(repeat' first|exact w_t|apply w_l);all_goals intros));refine Zae (ι:=Nat) (λb e m=>b≤w.length∧(e 0=iv x∧e 14=.sl 1 PS∧e 15=iv ps.length∧e 16=iv i)∧(e 5=.mp 13 hM∧m 13=some (.map hM (cntM (V++w.take b))))∧(e 20=.sl 4 PP∧e 21=iv p.length∧e 22=iv j)∧(e 27=.sl 4 qs∧e 28=iv w.length∧e 29=iv b)∧∃sv,e 6=.own 500 sv∧m 500=some (.row sv 39 4 (hvA x (V++w.take b)) 0)) (λb=>w.length - b) 0 (by rfl) ?_ ?_
     ·rintro b e m ⟨hb,⟨e0,e14,e15,e16⟩,⟨e5,m13⟩,⟨e20,e21,e22⟩,⟨e27,e28,e29⟩,sv,e6,m500⟩
      by_cases hbl:b < w.length
      ·have hqb:=hwe b hbl;have hsb:=hws b hbl;have hnb:=hwn b;clear hwe hws hwn hwf hnk2;generalize V++w.take b=L at *;generalize w[b]=y at *;have hst:=cnt_step L y;have hres:=cnt_res L y;have hall:=cnt_all y L;have htl:=tm_le y L;have hol:(hvA x L).length≤1000000:=by unfold hvA;rw [List.length_map];have:=Zq7 x L;omega
       have cp:Pure prog 32 [.agg [iv y.k,iv y.a,iv y.b,iv y.c]] (.sl 1 (y.pts.map iv)):=Zjt y.k y.a y.b y.c;have cc:Pure prog 34 [.sl 1 (y.pts.map iv),iv x] (.v (.bool (hasQ x y))):=Zv5 y.pts x (by have:=Zsh y;omega);have hy:=hvA_y (x:=x) (l:=L) (q:=y);have hno:=hvA_n (x:=x) (l:=L) (q:=y);have g0:=cnt_get0 (l:=L) (q:=y);have g1:=cnt_get1 (l:=L) (q:=y);have hyv:y.av=.agg [iv y.k,iv y.a,iv y.b,iv y.c]:=rfl;have hkk:kQ y=.l [y.k,y.a,y.b,y.c]:=rfl;rw [hkk] at hst hres hall g0 g1;rw [hyv] at hy hqb;rw [←hsb] at hst hy hno;generalize tmQ y L=tn at *;generalize hasQ x y=hv at *;generalize y.pts.map iv=YP at *
       obtain⟨y1,y2,y3,y4⟩:=y;simp only at *;clear hyv hkk hsb;generalize hvA x L=H at *;generalize cntM L=C at *;have hC:=hst.symm;clear hst;by_cases h0:tn=0
       ·have g:=g0 h0;subst h0
        cases hv with
        | true =>
          have hH:=hy rfl rfl;clear hy hno g0 g1;(focus (refine wkax (w_22 e0 e14 e15 e16 e5 m13 e20 e21 e22 e27 e28 e29 e6 m500 hlm hpm hwm hqb stQ hall g hol) (w_2 cp cc) w_t w_t w_t w_t w_t (w_r 0) ?_;(repeat' first|exact w_t|apply w_l);all_goals intros));refine Zwo (tok:=0) (tk:=13) (h:=hM) (MT:=97) (kt:=39) (et:=3) (T:=39) (κ:=.l [y1,y2,y3,y4]) (kv:=.agg [iv y1,iv y2,iv y3,iv y4]) (k:=((0:Nat))) (es:=C) (s0:=5) (s1:=12) (d0:=47) (d1:=48) (d2:=49) (d3:=50) (d4:=51) (d5:=52) (it:=3) (jt:=3) (by kernel_rfl) rfl (by kernel_rfl) ⟨_,_,_,rfl⟩ ⟨_,_,_,rfl⟩ ⟨_,_,_,rfl⟩ ⟨_,_,_,rfl⟩ ⟨_,_,_,rfl⟩ ⟨_,_,_,rfl⟩ ⟨_,_,_,rfl⟩ (by kernel_rfl) (by decide) (by decide) underlying97 zInt3 (by exact gW e5) (by exact gW m13) (by simp (disch:=omega) only [go_sem]) (mkQ y1 y2 y3 y4) hall hres (by omega) (by omega) ?_
          (focus (refine wkad (w_14 e0 e14 e15 e16 e5 m13 e20 e21 e22 e27 e28 e29 e6 m500) w_t w_t ?_;(repeat' first|exact w_t|apply w_l);all_goals intros));exact⟨b+1,⟨by omega,⟨by exact gW e0,by exact gW e14,by exact gW e15,by exact gW e16⟩,⟨by exact gW e5,by rw [hC];exact gC⟩,⟨by exact gW e20,by exact gW e21,by exact gW e22⟩,⟨by exact gW e27,by exact gW e28,by exact gS⟩,_,by exact gW e6,by rw [hH];exact gW m500⟩,by omega⟩
        | false =>
          have hH:=hno (by rintro ⟨_,h⟩;cases h);clear hy hno g0 g1;(focus (refine wkax (w_22 e0 e14 e15 e16 e5 m13 e20 e21 e22 e27 e28 e29 e6 m500 hlm hpm hwm hqb stQ hall g hol) (w_2 cp cc) w_t w_t w_t w_t w_t (w_r 0) ?_;(repeat' first|exact w_t|apply w_l);all_goals intros));refine Zwo (tok:=0) (tk:=13) (h:=hM) (MT:=97) (kt:=39) (et:=3) (T:=39) (κ:=.l [y1,y2,y3,y4]) (kv:=.agg [iv y1,iv y2,iv y3,iv y4]) (k:=((0:Nat))) (es:=C) (s0:=5) (s1:=12) (d0:=47) (d1:=48) (d2:=49) (d3:=50) (d4:=51) (d5:=52) (it:=3) (jt:=3) (by kernel_rfl) rfl (by kernel_rfl) ⟨_,_,_,rfl⟩ ⟨_,_,_,rfl⟩ ⟨_,_,_,rfl⟩ ⟨_,_,_,rfl⟩ ⟨_,_,_,rfl⟩ ⟨_,_,_,rfl⟩ ⟨_,_,_,rfl⟩ (by kernel_rfl) (by decide) (by decide) underlying97 zInt3 (by exact gW e5) (by exact gW m13) (by simp (disch:=omega) only [go_sem]) (mkQ y1 y2 y3 y4) hall hres (by omega) (by omega) ?_
          (focus (refine wkad (w_14 e0 e14 e15 e16 e5 m13 e20 e21 e22 e27 e28 e29 e6 m500) w_t w_t ?_;(repeat' first|exact w_t|apply w_l);all_goals intros));exact⟨b+1,⟨by omega,⟨by exact gW e0,by exact gW e14,by exact gW e15,by exact gW e16⟩,⟨by exact gW e5,by rw [hC];exact gC⟩,⟨by exact gW e20,by exact gW e21,by exact gW e22⟩,⟨by exact gW e27,by exact gW e28,by exact gS⟩,_,by exact gW e6,by rw [hH];exact gW m500⟩,by omega⟩
       ·have g:=g1 h0;have hH:=hno (by rintro ⟨h,_⟩;exact h0 h);clear hy hno g0 g1 cp cc;have h0':¬(tn:Int)=0:=by omega
        (focus (refine wkax (w_23 e0 e14 e15 e16 e5 m13 e20 e21 e22 e27 e28 e29 e6 m500 hlm hpm hwm hqb stQ hall g hol h0') w_t w_t w_t w_t w_t w_t (w_r 0) ?_;(repeat' first|exact w_t|apply w_l);all_goals intros));refine Zwo (tok:=0) (tk:=13) (h:=hM) (MT:=97) (kt:=39) (et:=3) (T:=39) (κ:=.l [y1,y2,y3,y4]) (kv:=.agg [iv y1,iv y2,iv y3,iv y4]) (k:=(tn)) (es:=C) (s0:=5) (s1:=12) (d0:=47) (d1:=48) (d2:=49) (d3:=50) (d4:=51) (d5:=52) (it:=3) (jt:=3) (by kernel_rfl) rfl (by kernel_rfl) ⟨_,_,_,rfl⟩ ⟨_,_,_,rfl⟩ ⟨_,_,_,rfl⟩ ⟨_,_,_,rfl⟩ ⟨_,_,_,rfl⟩ ⟨_,_,_,rfl⟩ ⟨_,_,_,rfl⟩ (by kernel_rfl) (by decide) (by decide) underlying97 zInt3 (by exact gW e5) (by exact gW m13) (by simp (disch:=omega) only [go_sem]) (mkQ y1 y2 y3 y4) hall hres (by omega) (by omega) ?_
        (focus (refine wkad (w_14 e0 e14 e15 e16 e5 m13 e20 e21 e22 e27 e28 e29 e6 m500) w_t w_t ?_;(repeat' first|exact w_t|apply w_l);all_goals intros));exact⟨b+1,⟨by omega,⟨by exact gW e0,by exact gW e14,by exact gW e15,by exact gW e16⟩,⟨by exact gW e5,by rw [hC];exact gC⟩,⟨by exact gW e20,by exact gW e21,by exact gW e22⟩,⟨by exact gW e27,by exact gW e28,by exact gS⟩,_,by exact gW e6,by rw [hH];exact gW m500⟩,by omega⟩
      ·have hbw:b=w.length:=by omega
       subst hbw;rw [hwf] at m13 m500;clear hwe hws hwn hwf;(focus (refine wkad (w_17 e0 e14 e15 e16 e5 m13 e20 e21 e22 e27 e28 e29 e6 m500 hlm hpm hwm) w_t w_t ?_;(repeat' first|exact w_t|apply w_l);all_goals intros));exact⟨j+1,⟨by omega,⟨by exact gW e0,by exact gW e14,by exact gW e15,by exact gW e16⟩,⟨by exact gW e5,by rw [htk2,←List.append_assoc,←hV];exact gW m13⟩,⟨by exact gW e20,by exact gW e21,by exact gS⟩,sv,by exact gW e6,by rw [htk2,←List.append_assoc,←hV];exact gW m500⟩,by omega⟩
     ·exact⟨Nat.zero_le _,⟨by exact gW e0,by exact gW e14,by exact gW e15,by exact gW e16⟩,⟨by exact gW e5,by rw [List.take_zero,List.append_nil];exact gW m13⟩,⟨by exact gW e20,by exact gW e21,by exact gW e22⟩,⟨by exact gC,by exact gW hwm,by exact gC⟩,sv,by exact gW e6,by rw [List.take_zero,List.append_nil];exact gW m500⟩
    ·have hjp:j=p.length:=by omega
     subst hjp;rw [hfp] at m13 m500;clear hpg hqj htj hnj hq;(focus (refine wkad (w_13 e0 e14 e15 e16 e5 m13 e20 e21 e22 e6 m500 hlm hpm) w_t w_t ?_;(repeat' first|exact w_t|apply w_l);all_goals intros));exact⟨i+1,⟨by omega,⟨by exact gW e0,by exact gW e14,by exact gW e15,by exact gS⟩,⟨by exact gW e5,by rw [htk];exact gW m13⟩,sv,by exact gW e6,by rw [htk];exact gW m500⟩,by omega⟩
   ·exact⟨Nat.zero_le _,⟨by exact gW e0,by exact gW e14,by exact gW e15,by exact gW e16⟩,⟨by exact gW e5,by rw [List.take_zero,show flQ []=[] from rfl,List.append_nil];exact gW m13⟩,⟨by exact gC,by exact gW hpm,by exact gC⟩,sv,by exact gW e6,by rw [List.take_zero,show flQ []=[] from rfl,List.append_nil];exact gW m500⟩
  ·have hip:i=ps.length:=by omega
   subst hip;rw [List.take_length] at m13 m500;have hlen:(hvP x (flP ps)).length≤1000000000:=by have:=Zq7 x (flP ps);omega
   have ci:=fun(m:Mem) h=>Zv3 m 500 sv (hvP x (flP ps)) h hlen;rw [hv_eq] at ci;have hol:(hvA x (flP ps)).length≤1000000000:=by unfold hvA;rw [List.length_map];exact hlen
   clear hg hpi hti hni hp hn;generalize (hvL x (flP ps)).map Qt.av=RR at *;have ci:∀(m:Mem),m 500=some (.row sv 39 4 (hvA x (flP ps)) 0)→ACall prog 51 [.own 500 sv,.fn 43 []] m λr σ'=>r=.tup []∧σ'=upd m 500 (some (.row sv 39 4 RR 0)):=ci;generalize hvA x (flP ps)=H at *;generalize cntM (flP ps)=C at *;(focus (refine wkad (w_9 e0 e14 e15 e16 e5 m13 e6 m500 hlm) w_t w_t ?_;(repeat' first|exact w_t|apply w_l);all_goals intros));refine Zgw (ci _ (by exact gW m500)) ?_;(focus (refine wkad (w_1 e6) w_t w_t ?_;(repeat' first|exact w_t|apply w_l);all_goals intros));all_goals exact gL
 ·exact⟨Nat.zero_le _,⟨by exact gC,by exact gC,by exact gW hlm,by exact gC⟩,⟨by exact gC,by exact gC⟩,_,by exact gC,by exact gC⟩
theorem Ze2:szOf prog 83=some 3:=by kernel_rfl
theorem Ze4:Zhs prog 83=some 72:=by kernel_rfl
theorem zCmb:Zau prog 83=some (.agg #[.slice none 0 0,.slice none 0 0,.slice none 0 0]):=by kernel_rfl
theorem Ze0:szOf prog 119=some 1:=by kernel_rfl
theorem szFn:szOf prog 117=some 1:=by kernel_rfl
theorem zFn:Zau prog 117=some .nilFunc:=by kernel_rfl
theorem zSch:Zau prog 119=some (.agg #[.nilFunc]):=by kernel_rfl
theorem Ze1:szOf prog 79=some 4:=by kernel_rfl
theorem zPlc:Zau prog 79=some (.agg #[.int .i64 0,.int .i64 0,.int .i64 0,.bool false]):=by kernel_rfl
end Go.Proofs.YtpkcophcldjboaaGreatDoor
namespace Go.Proofs.YtpkcophcldjboaaGreatDoor
open Go Go.RowKit Go.Pg Go.Pol Go.Proofs.Tryz
def vwX (n:Qt) (x:Int):Int × Int × Bool :=
 if n.k=2∧n.a=n.c then (n.a+n.b - x,n.a+n.b - x,true)
 else if x=n.b then (if n.k=1 then (n.c,n.a,false) else (n.a,n.c,true))
 else if x=n.a then (n.b,n.c,false)
 else if n.k=1 then (n.a,n.b,false) else (n.b,n.a,false)
def prS (s:Int × Int) (k:Int):Int × Int:=if k=1 then (s.1+min s.2 2,s.2+1) else if k=5∨k=6 then (s.1+1,s.2) else s
def prN (ks:List Int):Int × Int:=ks.foldl prS (0,0)
theorem Zsj (ks:List Int) (k:Int):prN (ks++[k])=prS (prN ks) k:=by unfold prN;rw [List.foldl_append];rfl
theorem prN_bd:∀ks:List Int,0≤(prN ks).1∧(prN ks).1≤2*ks.length∧0≤(prN ks).2∧(prN ks).2≤ks.length:=by
 refine Zf6 ⟨by decide,by decide,by decide,by decide⟩ λl a ih=>?_;rw [Zsj,List.length_append];have h1:([a]:List Int).length=1:=rfl;unfold prS;obtain⟨i1,i2,i3,i4⟩:=ih;split
 ·refine⟨?_,?_,?_,?_⟩<;>simp only<;>omega
 ·split
  ·refine⟨?_,?_,?_,?_⟩<;>simp only<;>omega
  ·refine⟨?_,?_,?_,?_⟩<;>omega
def wtX (k:Int) (a:List Int) (r:Rat) (t:Int):Int × List Int × List XX :=
 match cbOf k a r t with
 | none=>(8,[],[])
 | some c=>if c.be=[] then (3,[],[]) else (0,c.ps,c.ab.map λw=>(w,c.be))
end Go.Proofs.YtpkcophcldjboaaGreatDoor
namespace Go.Proofs.YtpkcophcldjboaaGreatDoor
open Go Go.RowKit Go.Pg Go.Pol Go.Proofs.Tryz
attribute [-bool_to_prop] Bool.and_eq_decide Bool.or_eq_decide Bool.decide_beq_decide decide_eq_decide
attribute [local go_sem] underlying3 underlying4 underlying128 underlying50 underlying52 underlying54 underlying39 underlying55 underlying57 underlying26 underlying27 sz3 by3 z3 szB zB Zas zRat Zay zInt Zax zNat Zah Zan Zai Bool.and_self Zal Za7 zSlQ szQT byQT zQT Za9 zSlT szQP zQP underlying81 underlying29 szFr byFr zFr Zb6 Zca zSQP underlying9 underlying69 underlying33 underlying76 underlying22 underlying25 underlying93 underlying23 Zce zErr Zbh Zcm zStr szL byL zL Zb3 Zb4 Zdh Zdk zFig Zdj zSlI Zdi zSlS Zcc Zcd Zd0 Zd2 zSlF underlying83 underlying119 underlying79 underlying117 Ze2 Ze4 zCmb Ze0 zSch szFn zFn Ze1 zPlc
theorem prN_take {ss:List RS} {k:Nat} (h:k < ss.length):prN ((ss.take (k+1)).map RS.k)=prS (prN ((ss.take k).map RS.k)) ss[k].k:=by
 rw [List.take_succ_eq_append_getElem h,List.map_append];exact Zsj _ _
theorem prN_in (ss:List RS) {k n:Nat} (hk:ss.length≤n):0≤(prN ((ss.take k).map RS.k)).1∧(prN ((ss.take k).map RS.k)).1≤2*n∧0≤(prN ((ss.take k).map RS.k)).2∧(prN ((ss.take k).map RS.k)).2≤n:=by
 have h:=prN_bd ((ss.take k).map RS.k);rw [List.length_map,List.length_take] at h;omega
theorem prS_1 {s:Int × Int} {k:Int} (h:k=1):prS s k=(s.1+min s.2 2,s.2+1):=by unfold prS;rw [if_pos h]
theorem prS_5 {s:Int × Int} {k:Int} (h1:¬k=1) (h:k=5∨k=6):prS s k=(s.1+1,s.2):=by unfold prS;rw [if_neg h1,if_pos h]
theorem prS_0 {s:Int × Int} {k:Int} (h1:¬k=1) (h:¬(k=5∨k=6)):prS s k=s:=by unfold prS;rw [if_neg h1,if_neg h]
theorem elParam (ss:List RS) (gs:List RG) (i:Nat) (hi:i≤ss.length) (hl:ss.length≤100):Pure prog 207 [figA ss gs,iv i] (iv (prN ((ss.take i).map RS.k)).1):=by
 have hg:∀k (h:k < ss.length),k < i→((ss.map RS.av).take i).getD k .u=.agg [iv ss[k].k,strA ss[k].nm,ivs ss[k].ar,.v (.bool ss[k].r.s),lim ss[k].r.l,lim ss[k].r.d]:=λk h hk=>by
  rw [List.getD_eq_getElem?_getD,List.getElem?_take_of_lt hk,←List.getD_eq_getElem?_getD];exact Zat RS.av h
 have hlm:((ss.map RS.av).take i).length=i:=by rw [List.length_take,List.length_map];omega
 have hll:(ss.map RS.av).length=ss.length:=List.length_map ..;have hb:∀k,0≤(prN ((ss.take k).map RS.k)).1∧(prN ((ss.take k).map RS.k)).1≤200∧0≤(prN ((ss.take k).map RS.k)).2∧(prN ((ss.take k).map RS.k)).2≤100:=λk=>prN_in ss hl;have hs:∀k (h:k < ss.length),prN ((ss.take (k+1)).map RS.k)=prS (prN ((ss.take k).map RS.k)) ss[k].k:=λk h=>prN_take h;show Pure _ _ [.agg [.sl 6 (ss.map RS.av),.sl 5 (gs.map RG.av)],iv i] _;generalize hMT:(ss.map RS.av).take i=MT at *;generalize ss.map RS.av=M at *;generalize gs.map RG.av=G at *;refine Zaa (tok:=0) func207 rfl ntmps207 results207 call207 (by rfl) (by simp) ?_
 (focus (refine wkap (w_4 hll hi hMT hlm) w_t (w_r 0) ?_;(repeat' first|exact w_t|apply w_l);all_goals intros));refine Zae (ι:=Nat) (λk e m=>k≤i∧(e 5=iv (prN ((ss.take k).map RS.k)).1∧e 6=iv (prN ((ss.take k).map RS.k)).2)∧e 12=.sl 6 MT∧e 13=iv i∧e 14=iv k) (λk=>i - k) 0 (by rfl) ?_ ?_
 ·rintro k e m ⟨hk,⟨e5,e6⟩,e12,e13,e14⟩
  by_cases hlt:k < i
  ·have hgk:=hg k (by omega) hlt;have ps:=hs k (by omega);have hbk:=hb k;have hlk:k < ss.length:=by omega
   clear hg hs hb;generalize ss[k]=s at *;obtain⟨kk,nm,ar,⟨rb,rl,rd⟩⟩:=s;simp only at hgk ps;generalize prN ((ss.take k).map RS.k)=pr at *;obtain⟨p1,p2⟩:=pr;simp only at *;have hgk:MT.getD k .u=.agg [iv kk,strA nm,.sl 1 (ar.map iv),.v (.bool rb),lim rl,lim rd]:=hgk;generalize ar.map iv=AR at *;have hmi:(if (2:Int) < p2 then (2:Int) else p2)=min p2 2:=by omega
   have hmj:p2+1 - 1=p2:=by omega
   by_cases h1:kk=1
   ·rw [prS_1 h1] at ps;(focus (refine wkap (w_10 e5 e6 e12 e13 e14 hlm hgk h1 hmj hmi) w_t (w_r 0) ?_;(repeat' first|exact w_t|apply w_l);all_goals intros));exact⟨k+1,⟨by omega,⟨by rw [ps];exact gW hmi,by rw [ps];exact gC⟩,by exact gW e12,by exact gW e13,by exact gS⟩,by omega⟩
   ·by_cases h5:kk=5∨kk=6
    ·rw [prS_5 h1 h5] at ps;rcases h5 with h5 | h5
     ·(focus (refine wkap (w_9 e5 e6 e12 e13 e14 hlm hgk h1 h5) w_t (w_r 0) ?_;(repeat' first|exact w_t|apply w_l);all_goals intros));exact⟨k+1,⟨by omega,⟨by rw [ps];exact gW e5,by rw [ps];exact gW e6⟩,by exact gW e12,by exact gW e13,by exact gS⟩,by omega⟩
     ·(focus (refine wkap (w_9 e5 e6 e12 e13 e14 hlm hgk h1 h5) w_t (w_r 0) ?_;(repeat' first|exact w_t|apply w_l);all_goals intros));exact⟨k+1,⟨by omega,⟨by rw [ps];exact gW e5,by rw [ps];exact gW e6⟩,by exact gW e12,by exact gW e13,by exact gS⟩,by omega⟩
    ·rw [prS_0 h1 h5] at ps;have h6:¬kk=6:=λh=>h5 (.inr h);have h5:¬kk=5:=λh=>h5 (.inl h);(focus (refine wkap (w_10 e5 e6 e12 e13 e14 hlm hgk h1 h5 h6) w_t (w_r 0) ?_;(repeat' first|exact w_t|apply w_l);all_goals intros));exact⟨k+1,⟨by omega,⟨by rw [ps];exact gW e5,by rw [ps];exact gW e6⟩,by exact gW e12,by exact gW e13,by exact gS⟩,by omega⟩
  ·have:k=i:=by omega
   subst this;generalize (prN ((ss.take k).map RS.k)).1=z at *;(focus (refine wkap (w_6 e5 e6 e12 e13 e14 hlm) w_t (w_r 0) ?_;(repeat' first|exact w_t|apply w_l);all_goals intros));all_goals exact gL
 ·exact⟨Nat.zero_le _,⟨by exact gC,by exact gC⟩,by(simp (disch:=omega) only [go_sem,hMT]<;>repeat' first|rfl|refine⟨?_,?_⟩),by exact gW hlm,by exact gC⟩
section
attribute [local go_sem] underlying3 underlying4 underlying128 underlying50 underlying52 underlying54 underlying39 underlying55 underlying57 underlying26 underlying27 sz3 by3 z3 szB zB Zas zRat Zay zInt Zax zNat Zah Zan Zai Bool.and_self Zal Za7 zSlQ szQT byQT zQT Za9 zSlT szQP zQP underlying81 underlying29 szFr byFr zFr Zb6 Zca zSQP
end
abbrev XS (p:QTs):Prop:=XL p 400 6 400
theorem Zhv {p q:QTs} (hp:XS p) (hq:XS q) (h12:p.length*q.length≤12):Pure prog 40 [qpA p,qpA q] (qpA (mulX p q)):=by
 have:=Zx3;have:=Zx2;have:=hp.l;have:=hq.l;exact exMulT p q hp.x hq.x (by omega) (by omega) (by omega) (by omega) (by omega) (by omega)
theorem Zji {p q:QTs} (hp:XS p) (hq:XS q):Pure prog 82 [qpA p,qpA q] (qpA (Za6 p q)):=by
 have:=hp.l;have:=hq.l;exact exPlus p q hp.x.qk hq.x.qk hp.x.nz hq.x.nz (by omega) (by omega) (by omega) (by omega) (by omega)
theorem Zis {p q:QTs} (hp:XS p) (hq:XS q):Pure prog 80 [qpA p,qpA q] (qpA (subX p q)):=by
 have:=hp.l;have:=hq.l;exact exMinus p q hp.x.qk hq.x.qk hp.x.nz hq.x.nz (by omega) (by omega) (by omega) (by omega) (by omega)
theorem exOfS {q:Qt} (h:q.ok=true):Pure prog 35 [q.av] (qpA (ofX q)):=by
 have c:=exOf q
 rwa [of_ok h] at c
theorem cst_qp (u:Rat):nrmR (cstE u)=qpA (cstT u):=cst_ok u
theorem Zph {u:Rat} (h:Sz u 2):Pure prog 55 [ratQ u] (qpA (cstT u)):=by
 have c:=Zrd u h (by omega)
 rwa [cst_qp] at c
theorem xs_of {q:Qt} (h:q.ok=true):XS (ofX q):=(Zci h).mono (by decide) (by decide) (by decide)
theorem Zrm {u:Rat} (h:Sz u 2):XS (nX u):=(Zez h).mono (by decide) (by decide) (by decide)
theorem XL.xs {p:QTs} {k n l:Nat} (h:XL p k n l) (hk:k≤400) (hn:n≤6) (hl:l≤400):XS p:=h.mono hk hn hl
abbrev Cb.av (c:Cb):AV:=.agg [ivs c.ps,.sl 1 (c.ab.map qpA),qpA c.be]
theorem Zgg {P:Program} {σs:Mem} {all:List Oper} {op:Op} {ty:TypeId} {pos:String} {af:Array Edge} {r:Res} {K:St→Prop} {e:Nat→AV} {m:Mem} (h:Zak P ⟨e,m⟩ op=r) (hkp:Zaz σs r) (hk:aRes P 0 none r K ⟨e,m⟩):Ze5 P 0 σs all true false ⟨none,op,ty,pos,af,none⟩ K ⟨e,m⟩:=by
 refine⟨?_,λ_=>⟨rfl,by rw [h];exact hkp,λh=>by cases h⟩⟩;unfold Zfz;rw [Zc7,h,Option.getD_none];exact hk
abbrev Pl.av (p:Pl):AV:=.agg [iv p.k,iv p.q,iv p.r,.v (.bool p.mid)]
theorem elPlaced (k a b c x:Int):Pure prog 37 [.agg [iv k,iv a,iv b,iv c],iv x] (Pl.av (plOf ⟨k,a,b,c⟩ x)):=by
 unfold plOf;simp only
 repeat' split
 ·refine Zaa (tok:=0) func37 rfl ntmps37 results37 call37 (by rfl) (by simp) ?_;(focus (refine wkad w_t w_t (w_1 (w_d 4 [] [5,7,1005,1007] [5])) ?_;(repeat' first|exact w_t|apply w_l);all_goals intros));refine Zgg (by simp (disch:=omega) only [go_sem];rfl) (by simp (disch:=omega) [Zaz,cutM,go_sem]) ?_;(focus (refine wkad w_t w_t w_t ?_;(repeat' first|exact w_t|apply w_l);all_goals intros));refine Zgg (by simp (disch:=omega) only [go_sem];rfl) (by simp (disch:=omega) [Zaz,cutM,go_sem]) ?_;(focus (refine wkad w_t w_t w_t ?_;(repeat' first|exact w_t|apply w_l);all_goals intros))
  all_goals exact gL
 ·refine Zaa (tok:=0) func37 rfl ntmps37 results37 call37 (by rfl) (by simp) ?_;(focus (refine wkad w_t w_t (w_1 (w_d 6 [] [5,7,1005,1007] [5])) ?_;(repeat' first|exact w_t|apply w_l);all_goals intros));refine Zgg (by simp (disch:=omega) only [go_sem];rfl) (by simp (disch:=omega) [Zaz,cutM,go_sem]) ?_;(focus (refine wkad w_t w_t w_t ?_;(repeat' first|exact w_t|apply w_l);all_goals intros));refine Zgg (by simp (disch:=omega) only [go_sem];rfl) (by simp (disch:=omega) [Zaz,cutM,go_sem]) ?_;(focus (refine wkad w_t w_t w_t ?_;(repeat' first|exact w_t|apply w_l);all_goals intros))
  all_goals exact gL
 ·refine Zaa (tok:=0) func37 rfl ntmps37 results37 call37 (by rfl) (by simp) ?_;(focus (refine wkad w_t w_t (w_1 (w_d 8 [] [5,7,1005,1007] [5])) ?_;(repeat' first|exact w_t|apply w_l);all_goals intros));refine Zgg (by simp (disch:=omega) only [go_sem];rfl) (by simp (disch:=omega) [Zaz,cutM,go_sem]) ?_;(focus (refine wkad w_t w_t w_t ?_;(repeat' first|exact w_t|apply w_l);all_goals intros));refine Zgg (by simp (disch:=omega) only [go_sem];rfl) (by simp (disch:=omega) [Zaz,cutM,go_sem]) ?_;(focus (refine wkad w_t w_t w_t ?_;(repeat' first|exact w_t|apply w_l);all_goals intros))
  all_goals exact gL
 ·refine Zaa (tok:=0) func37 rfl ntmps37 results37 call37 (by rfl) (by simp) ?_;(focus (refine wkad w_t w_t (w_1 (w_d 10 [] [5,7,9,1005,1007,1009] [5])) ?_;(repeat' first|exact w_t|apply w_l);all_goals intros));refine Zgg (by simp (disch:=omega) only [go_sem];rfl) (by simp (disch:=omega) [Zaz,cutM,go_sem]) ?_;(focus (refine wkad w_t w_t w_t ?_;(repeat' first|exact w_t|apply w_l);all_goals intros));refine Zgg (by simp (disch:=omega) only [go_sem];rfl) (by simp (disch:=omega) [Zaz,cutM,go_sem]) ?_;(focus (refine wkad w_t w_t w_t ?_;(repeat' first|exact w_t|apply w_l);all_goals intros))
  refine Zgg (by simp (disch:=omega) only [go_sem];rfl) (by simp (disch:=omega) [Zaz,cutM,go_sem]) ?_;(focus (refine wkad w_t w_t w_t ?_;(repeat' first|exact w_t|apply w_l);all_goals intros));all_goals exact gL
 ·rename_i h1 h2 h3;by_cases ha:a=x
  ·subst ha;have hc:¬c=a:=λh=>h2 ⟨rfl,h⟩;refine Zaa (tok:=0) func37 rfl ntmps37 results37 call37 (by rfl) (by simp) ?_;(focus (refine wkad (w_3 h1 h3 hc) w_t (w_1 (w_d 12 [] [5,7,9,1005,1007,1009] [5])) ?_;(repeat' first|exact w_t|apply w_l);all_goals intros));refine Zgg (by simp (disch:=omega) only [go_sem];rfl) (by simp (disch:=omega) [Zaz,cutM,go_sem]) ?_;(focus (refine wkad w_t w_t w_t ?_;(repeat' first|exact w_t|apply w_l);all_goals intros));refine Zgg (by simp (disch:=omega) only [go_sem];rfl) (by simp (disch:=omega) [Zaz,cutM,go_sem]) ?_;(focus (refine wkad w_t w_t w_t ?_;(repeat' first|exact w_t|apply w_l);all_goals intros))
   refine Zgg (by simp (disch:=omega) only [go_sem];rfl) (by simp (disch:=omega) [Zaz,cutM,go_sem]) ?_;(focus (refine wkad w_t w_t w_t ?_;(repeat' first|exact w_t|apply w_l);all_goals intros));all_goals exact gL
  ·refine Zaa (tok:=0) func37 rfl ntmps37 results37 call37 (by rfl) (by simp) ?_;(focus (refine wkad (w_3 h1 h3 ha) w_t (w_1 (w_d 12 [] [5,7,9,1005,1007,1009] [5])) ?_;(repeat' first|exact w_t|apply w_l);all_goals intros));refine Zgg (by simp (disch:=omega) only [go_sem];rfl) (by simp (disch:=omega) [Zaz,cutM,go_sem]) ?_;(focus (refine wkad w_t w_t w_t ?_;(repeat' first|exact w_t|apply w_l);all_goals intros));refine Zgg (by simp (disch:=omega) only [go_sem];rfl) (by simp (disch:=omega) [Zaz,cutM,go_sem]) ?_;(focus (refine wkad w_t w_t w_t ?_;(repeat' first|exact w_t|apply w_l);all_goals intros))
   refine Zgg (by simp (disch:=omega) only [go_sem];rfl) (by simp (disch:=omega) [Zaz,cutM,go_sem]) ?_;(focus (refine wkad w_t w_t w_t ?_;(repeat' first|exact w_t|apply w_l);all_goals intros));all_goals exact gL
 ·refine Zaa (tok:=0) func37 rfl ntmps37 results37 call37 (by rfl) (by simp) ?_;(focus (refine wkad w_t w_t (w_1 (w_d 14 [] [5,7,1005,1007] [5])) ?_;(repeat' first|exact w_t|apply w_l);all_goals intros));refine Zgg (by simp (disch:=omega) only [go_sem];rfl) (by simp (disch:=omega) [Zaz,cutM,go_sem]) ?_;(focus (refine wkad w_t w_t w_t ?_;(repeat' first|exact w_t|apply w_l);all_goals intros));refine Zgg (by simp (disch:=omega) only [go_sem];rfl) (by simp (disch:=omega) [Zaz,cutM,go_sem]) ?_;(focus (refine wkad w_t w_t w_t ?_;(repeat' first|exact w_t|apply w_l);all_goals intros))
  all_goals exact gL
 ·refine Zaa (tok:=0) func37 rfl ntmps37 results37 call37 (by rfl) (by simp) ?_;(focus (refine wkad w_t w_t (w_1 (w_d 2 [] [5,7,1005,1007] [5])) ?_;(repeat' first|exact w_t|apply w_l);all_goals intros));refine Zgg (by simp (disch:=omega) only [go_sem];rfl) (by simp (disch:=omega) [Zaz,cutM,go_sem]) ?_;(focus (refine wkad w_t w_t w_t ?_;(repeat' first|exact w_t|apply w_l);all_goals intros));refine Zgg (by simp (disch:=omega) only [go_sem];rfl) (by simp (disch:=omega) [Zaz,cutM,go_sem]) ?_;(focus (refine wkad w_t w_t w_t ?_;(repeat' first|exact w_t|apply w_l);all_goals intros))
  all_goals exact gL
theorem XL.s {p:QTs} {k n l:Nat} (h:XL p k n l) (hk:k≤400:=by decide) (hn:n≤6:=by decide) (hl:l≤400:=by decide):XS p:=h.mono hk hn hl
theorem Zjj (a b c:Int) (h:Qt.ok ⟨1,a,b,c⟩=true):Pure prog 83 [iv a,iv b,iv c] (.sl 4 ((ofX ⟨1,a,b,c⟩).map qtA)):=by
 have c1:Pure prog 35 [.agg [iv 1,iv a,iv b,iv c]] (.sl 4 ((ofX ⟨1,a,b,c⟩).map qtA)):=exOfS h;show Pure _ _ [iv a,iv b,iv c] (.sl 4 ((ofX ⟨1,a,b,c⟩).map qtA));generalize (ofX ⟨1,a,b,c⟩).map qtA=G at *;refine Zaa (tok:=0) func83 rfl ntmps83 results83 call83 (by rfl) (by simp) ?_;(focus (refine wkap w_t (w_1 c1) (w_r 0) ?_;(repeat' first|exact w_t|apply w_l);all_goals intros));all_goals exact gL
theorem Zdn (a b c:Int) (h:Qt.ok ⟨2,a,b,c⟩=true):Pure prog 81 [iv a,iv b,iv c] (.sl 4 ((ofX ⟨2,a,b,c⟩).map qtA)):=by
 have c1:Pure prog 35 [.agg [iv 2,iv a,iv b,iv c]] (.sl 4 ((ofX ⟨2,a,b,c⟩).map qtA)):=exOfS h;show Pure _ _ [iv a,iv b,iv c] (.sl 4 ((ofX ⟨2,a,b,c⟩).map qtA));generalize (ofX ⟨2,a,b,c⟩).map qtA=G at *;refine Zaa (tok:=0) func81 rfl ntmps81 results81 call81 (by rfl) (by simp) ?_;(focus (refine wkap w_t (w_1 c1) (w_r 0) ?_;(repeat' first|exact w_t|apply w_l);all_goals intros));all_goals exact gL
theorem Zy5 (z:Int) (b:Bool) (n d:List Nat) (G:List AV) (c1:Pure prog 56 [iv z] (.agg [.v (.bool b),lim n,lim d])) (c2:Pure prog 55 [.agg [.v (.bool b),lim n,lim d]] (.sl 4 G)):Pure prog 20 [iv z] (.sl 4 G):=by
 refine Zaa (tok:=0) func20 rfl ntmps20 results20 call20 (by rfl) (by simp) ?_;(focus (refine wkap w_t (w_2 c1 c2) (w_r 0) ?_;(repeat' first|exact w_t|apply w_l);all_goals intros));all_goals exact gL
theorem Zhw:Pure prog 20 [iv 1] (qpA (nX 1)):=Zy5 1 _ _ _ _ (Zog (z:=1) (.inr (.inr rfl))) (Zph (Zll.mono (by decide)))
theorem elNumM:Pure prog 20 [iv (-1)] (qpA (nX (-1))):=Zy5 (-1) _ _ _ _ (Zog (z:=-1) (.inl rfl)) (Zph (sz_m1.mono (by decide)))
theorem elNum2:Pure prog 20 [iv 2] (qpA (nX 2)):=Zy5 2 _ _ _ _ (Zt8 2 (by omega)) (Zph (Zjb.mono (by decide)))
theorem elHalfV (b:Bool) (n d:List Nat) (A C G:List AV) (c1:Pure prog 136 [iv 1,iv 2] (.agg [.v (.bool b),lim n,lim d])) (c2:Pure prog 55 [.agg [.v (.bool b),lim n,lim d]] (.sl 4 C)) (c3:Pure prog 40 [.sl 4 C,.sl 4 A] (.sl 4 G)):Pure prog 79 [.sl 4 A] (.sl 4 G):=by
 refine Zaa (tok:=0) func79 rfl ntmps79 results79 call79 (by rfl) (by simp) ?_;(focus (refine wkap w_t (w_3 c1 c2 c3) (w_r 0) ?_;(repeat' first|exact w_t|apply w_l);all_goals intros));all_goals exact gL
theorem elHalf (p:QTs) (hp:XS p) (hl:p.length≤12):Pure prog 79 [qpA p] (qpA (hfX p)) :=
 elHalfV _ _ _ _ _ _ (by have h:=ratFrac 1 2 (by omega) (by omega) (by omega);rwa [show mkRat ((1:Nat):Int) 2=(1/2:Rat) from by decide +kernel] at h) (Zph (Zme.mono (by decide))) (Zhv (Zrm (Zme.mono (by decide))) hp (Nat.le_trans (Nat.mul_le_mul (Zge _) hl) (by decide)))
theorem elTwiceV (A C G:List AV) (c1:Pure prog 20 [iv 2] (.sl 4 C)) (c3:Pure prog 40 [.sl 4 C,.sl 4 A] (.sl 4 G)):Pure prog 84 [.sl 4 A] (.sl 4 G):=by
 refine Zaa (tok:=0) func84 rfl ntmps84 results84 call84 (by rfl) (by simp) ?_;(focus (refine wkap w_t (w_2 c1 c3) (w_r 0) ?_;(repeat' first|exact w_t|apply w_l);all_goals intros));all_goals exact gL
theorem elTwice (p:QTs) (hp:XS p) (hl:p.length≤12):Pure prog 84 [qpA p] (qpA (twX p)) :=
 elTwiceV _ _ _ elNum2 (Zhv (Zrm (Zjb.mono (by decide))) hp (Nat.le_trans (Nat.mul_le_mul (Zge _) hl) (by decide)))
theorem Zuu {p:QTs} {k n l:Nat} (x:XL p k n l) (h:l≤12:=by decide) (hk:k≤400:=by decide) (hn:n≤6:=by decide):Pure prog 84 [qpA p] (qpA (twX p)):=elTwice p (x.mono hk hn (by omega)) (Nat.le_trans x.l h)
theorem elHfX {p:QTs} {k n l:Nat} (x:XL p k n l) (h:l≤12:=by decide) (hk:k≤400:=by decide) (hn:n≤6:=by decide):Pure prog 79 [qpA p] (qpA (hfX p)):=elHalf p (x.mono hk hn (by omega)) (Nat.le_trans x.l h)
theorem Zyo {p q:QTs} {k n l j m i:Nat} (x:XL p k n l) (y:XL q j m i) (h:l*i≤12:=by decide) (hk:k≤400:=by decide) (hn:n≤6:=by decide) (hl:l≤400:=by decide) (hj:j≤400:=by decide) (hm:m≤6:=by decide) (hi:i≤400:=by decide):Pure prog 40 [qpA p,qpA q] (qpA (mulX p q)):=Zhv (x.mono hk hn hl) (y.mono hj hm hi) (Nat.le_trans (Nat.mul_le_mul x.l y.l) h)
theorem Zk2 (a b:Int) (p q:QTs) (hp:XS p) (hq:XS q):Pure prog 206 [iv a,iv b,.sl 4 (p.map qtA),.sl 4 (q.map qtA)] (.agg [.sl 1 [iv a,iv b],.sl 1 [.sl 4 ((subX q p).map qtA),.sl 4 (p.map qtA)],.sl 4 (q.map qtA)]):=by
 have c1:Pure prog 80 [.sl 4 (q.map qtA),.sl 4 (p.map qtA)] (.sl 4 ((subX q p).map qtA)):=Zis hq hp;generalize (subX q p).map qtA=G at *;generalize p.map qtA=A at *;generalize q.map qtA=B at *;refine Zaa (tok:=0) func206 rfl ntmps206 results206 call206 (by rfl) (by simp) ?_;(focus (refine wkap w_t (w_1 c1) (w_r 0) ?_;(repeat' first|exact w_t|apply w_l);all_goals intros));all_goals exact gL
theorem elAt (k q r x:Int) (m:Bool) (h:(k=1→Qt.ok ⟨1,x,q,r⟩=true)∧(k≠1→m=true→Qt.ok ⟨2,q,x,r⟩=true)∧(k≠1→m=false→Qt.ok ⟨2,x,q,r⟩=true)) :
 Pure prog 85 [.agg [iv k,iv q,iv r,.v (.bool m)],iv x] (.sl 4 ((Pl.at ⟨k,q,r,m⟩ x).map qtA)):=by
 unfold Pl.at;simp only;split
 ·rename_i hk;have c1:=Zjj x q r (h.1 hk);generalize (ofX ⟨1,x,q,r⟩).map qtA=G at *;refine Zaa (tok:=0) func85 rfl ntmps85 results85 call85 (by rfl) (by simp) ?_;(focus (refine wkap w_t (w_1 c1) (w_r 0) ?_;(repeat' first|exact w_t|apply w_l);all_goals intros));all_goals exact gL
 ·split
  ·rename_i hk hm;subst hm;have c1:=Zdn q x r (h.2.1 hk rfl);generalize (ofX ⟨2,q,x,r⟩).map qtA=G at *;refine Zaa (tok:=0) func85 rfl ntmps85 results85 call85 (by rfl) (by simp) ?_;(focus (refine wkap w_t (w_1 c1) (w_r 0) ?_;(repeat' first|exact w_t|apply w_l);all_goals intros));all_goals exact gL
  ·rename_i hk hm;obtain rfl:m=false:=by simpa using hm
   have c1:=Zdn x q r (h.2.2 hk rfl);generalize (ofX ⟨2,x,q,r⟩).map qtA=G at *;refine Zaa (tok:=0) func85 rfl ntmps85 results85 call85 (by rfl) (by simp) ?_;(focus (refine wkap w_t (w_1 c1) (w_r 0) ?_;(repeat' first|exact w_t|apply w_l);all_goals intros));all_goals exact gL
theorem Zu0 (M GG:List AV) (i:Nat) (a0 a1:Int) (V0 V1 V2:List AV) (k:Int) (nm A0:AV) (rb:Bool) (rn rd:List Nat) (hl:i < M.length) (hs:M.getD i .u=.agg [iv k,nm,A0,.v (.bool rb),lim rn,lim rd]) (c1:Pure prog 55 [.agg [.v (.bool rb),lim rn,lim rd]] (.sl 4 V0)) (c2:Pure prog 20 [iv 1] (.sl 4 V1)) (c3:Pure prog 206 [iv a0,iv a1,.sl 4 V0,.sl 4 V1] (.agg [.sl 1 [iv a0,iv a1],.sl 1 [.sl 4 V2,.sl 4 V0],.sl 4 V1])):Pure prog 140 [.agg [.sl 6 M,.sl 5 GG],iv i,.sl 1 [iv a0,iv a1]] (.agg [.sl 1 [iv a0,iv a1],.sl 1 [.sl 4 V2,.sl 4 V0],.sl 4 V1]):=by
 refine Zaa (tok:=0) func140 rfl ntmps140 results140 call140 (by rfl) (by simp) ?_;(focus (refine wkad (w_2 hl hs) (w_3 c1 c2 c3) (w_1 (w_d 1 [(12,.sl 4 V0),(13,.sl 4 V1),(14,.agg [.sl 1 [iv a0,iv a1],.sl 1 [.sl 4 V2,.sl 4 V0],.sl 4 V1])] [] [6])) ?_;(repeat' first|exact w_t|apply w_l);all_goals intros));all_goals exact gL
theorem Zy6 (M GG:List AV) (i:Nat) (a0 a1:Int) (k:Int) (nm A0:AV) (r:Rat) (hl:i < M.length) (hs:M.getD i .u=.agg [iv k,nm,A0,.v (.bool (decide (r.num < 0))),lim (toL r.num.natAbs),lim (toL r.den)]) (hr:Sz r 2) (h0:0≤a0∧a0 < 40) (h1:0≤a1∧a1 < 40):Pure prog 140 [.agg [.sl 6 M,.sl 5 GG],iv i,.sl 1 [iv a0,iv a1]] (.agg [.sl 1 [iv a0,iv a1],.sl 1 [qpA (subX (nX 1) (nX r)),qpA (nX r)],qpA (nX 1)]):=by
 have x0:=Zez hr;have x1:=Zez Zll;exact Zu0 M GG i a0 a1 _ _ _ k nm A0 _ _ _ hl hs (Zph hr) (Zhw) (Zk2 _ _ _ _ (x0.s) (x1.s))
theorem Zuy (M GG:List AV) (i:Nat) (a0 a1 a2:Int) (V0 V1:List AV) (c1:Pure prog 20 [iv 1] (.sl 4 V0)) (c2:Pure prog 20 [iv (-1)] (.sl 4 V1)):Pure prog 141 [.agg [.sl 6 M,.sl 5 GG],iv i,.sl 1 [iv a0,iv a1,iv a2]] (.agg [.sl 1 [iv a0,iv a1,iv a2],.sl 1 [.sl 4 V0,.sl 4 V1,.sl 4 V0],.sl 4 V0]):=by
 refine Zaa (tok:=0) func141 rfl ntmps141 results141 call141 (by rfl) (by simp) ?_;(focus (refine wkap w_t (w_2 c1 c2) (w_r 0) ?_;(repeat' first|exact w_t|apply w_l);all_goals intros));all_goals exact gL
theorem Zy2 (M GG:List AV) (i:Nat) (a0 a1 a2:Int) (h0:0≤a0∧a0 < 40) (h1:0≤a1∧a1 < 40) (h2:0≤a2∧a2 < 40):Pure prog 141 [.agg [.sl 6 M,.sl 5 GG],iv i,.sl 1 [iv a0,iv a1,iv a2]] (.agg [.sl 1 [iv a0,iv a1,iv a2],.sl 1 [qpA (nX 1),qpA (nX (-1)),qpA (nX 1)],qpA (nX 1)]):=by
 exact Zuy M GG i a0 a1 a2 _ _ (Zhw) (elNumM)
theorem Zy4 (M GG:List AV) (i:Nat) (a0 a1:Int) (V0 V1 V2:List AV) (t:Int) (c1:Pure prog 207 [.agg [.sl 6 M,.sl 5 GG],iv i] (iv t)) (c2:Pure prog 35 [.agg [iv 3,iv t,iv 0,iv 0]] (.sl 4 V0)) (c3:Pure prog 20 [iv 1] (.sl 4 V1)) (c4:Pure prog 206 [iv a0,iv a1,.sl 4 V0,.sl 4 V1] (.agg [.sl 1 [iv a0,iv a1],.sl 1 [.sl 4 V2,.sl 4 V0],.sl 4 V1])):Pure prog 142 [.agg [.sl 6 M,.sl 5 GG],iv i,.sl 1 [iv a0,iv a1]] (.agg [.sl 1 [iv a0,iv a1],.sl 1 [.sl 4 V2,.sl 4 V0],.sl 4 V1]):=by
 refine Zaa (tok:=0) func142 rfl ntmps142 results142 call142 (by rfl) (by simp) ?_;(focus (refine wkad w_t (w_4 c1 c2 c3 c4) (w_1 (w_d 2 [(7,.sl 4 V1),(8,.agg [.sl 1 [iv a0,iv a1],.sl 1 [.sl 4 V2,.sl 4 V0],.sl 4 V1])] [] [6])) ?_;(repeat' first|exact w_t|apply w_l);all_goals intros));all_goals exact gL
theorem elOnLine (M GG:List AV) (i:Nat) (a0 a1:Int) (t:Int) (hT:Qt.ok ⟨3,t,0,0⟩=true) (cp:Pure prog 207 [.agg [.sl 6 M,.sl 5 GG],iv i] (iv t)) (h0:0≤a0∧a0 < 40) (h1:0≤a1∧a1 < 40):Pure prog 142 [.agg [.sl 6 M,.sl 5 GG],iv i,.sl 1 [iv a0,iv a1]] (.agg [.sl 1 [iv a0,iv a1],.sl 1 [qpA (subX (nX 1) (ofX ⟨3,t,0,0⟩)),qpA (ofX ⟨3,t,0,0⟩)],qpA (nX 1)]):=by
 have x0:=Zci hT;have x1:=Zez Zll;exact Zy4 M GG i a0 a1 _ _ _ t (cp) (exOfS hT) (Zhw) (Zk2 _ _ _ _ (x0.s) (x1.s))
theorem elMetV (M GG:List AV) (i:Nat) (a0 a1 a2 a3:Int) (V0 V1 V2 V3:List AV) (c1:Pure prog 83 [iv a0,iv a2,iv a3] (.sl 4 V0)) (c2:Pure prog 83 [iv a1,iv a2,iv a3] (.sl 4 V1)) (c3:Pure prog 80 [.sl 4 V0,.sl 4 V1] (.sl 4 V2)) (c4:Pure prog 206 [iv a0,iv a1,.sl 4 V0,.sl 4 V2] (.agg [.sl 1 [iv a0,iv a1],.sl 1 [.sl 4 V3,.sl 4 V0],.sl 4 V2])):Pure prog 143 [.agg [.sl 6 M,.sl 5 GG],iv i,.sl 1 [iv a0,iv a1,iv a2,iv a3]] (.agg [.sl 1 [iv a0,iv a1],.sl 1 [.sl 4 V3,.sl 4 V0],.sl 4 V2]):=by
 refine Zaa (tok:=0) func143 rfl ntmps143 results143 call143 (by rfl) (by simp) ?_;(focus (refine wkad w_t (w_4 c1 c2 c3 c4) (w_2 (w_d 1 [(9,.sl 4 V0)] [] []) (w_d 2 [(17,.sl 4 V1),(18,.sl 4 V2),(19,.agg [.sl 1 [iv a0,iv a1],.sl 1 [.sl 4 V3,.sl 4 V0],.sl 4 V2])] [] [6])) ?_;(repeat' first|exact w_t|apply w_l);all_goals intros));all_goals exact gL
theorem elMet (M GG:List AV) (i:Nat) (a0 a1 a2 a3:Int) (h0:0≤a0∧a0 < 40) (h1:0≤a1∧a1 < 40) (h2:0≤a2∧a2 < 40) (h3:0≤a3∧a3 < 40):Pure prog 143 [.agg [.sl 6 M,.sl 5 GG],iv i,.sl 1 [iv a0,iv a1,iv a2,iv a3]] (.agg [.sl 1 [iv a0,iv a1],.sl 1 [qpA (subX (subX (aX a0 a2 a3) (aX a1 a2 a3)) (aX a0 a2 a3)),qpA (aX a0 a2 a3)],qpA (subX (aX a0 a2 a3) (aX a1 a2 a3))]):=by
 have x0:=Zci (Za5 (.inl rfl) h0 h2 h3);have x1:=Zci (Za5 (.inl rfl) h1 h2 h3);have x2:=x0.sub x1;exact elMetV M GG i a0 a1 a2 a3 _ _ _ _ (Zjj _ _ _ (Za5 (.inl rfl) h0 h2 h3)) (Zjj _ _ _ (Za5 (.inl rfl) h1 h2 h3)) (Zis (x0.s) (x1.s)) (Zk2 _ _ _ _ (x0.s) (x2.s))
theorem elFootV (M GG:List AV) (i:Nat) (a0 a1 a2:Int) (V0 V1 V2:List AV) (c1:Pure prog 81 [iv a0,iv a1,iv a2] (.sl 4 V0)) (c2:Pure prog 81 [iv a2,iv a1,iv a2] (.sl 4 V1)) (c3:Pure prog 206 [iv a1,iv a2,.sl 4 V0,.sl 4 V1] (.agg [.sl 1 [iv a1,iv a2],.sl 1 [.sl 4 V2,.sl 4 V0],.sl 4 V1])):Pure prog 144 [.agg [.sl 6 M,.sl 5 GG],iv i,.sl 1 [iv a0,iv a1,iv a2]] (.agg [.sl 1 [iv a1,iv a2],.sl 1 [.sl 4 V2,.sl 4 V0],.sl 4 V1]):=by
 refine Zaa (tok:=0) func144 rfl ntmps144 results144 call144 (by rfl) (by simp) ?_;(focus (refine wkad w_t (w_3 c1 c2 c3) (w_1 (w_d 1 [(15,.sl 4 V0),(25,.sl 4 V1),(26,.agg [.sl 1 [iv a1,iv a2],.sl 1 [.sl 4 V2,.sl 4 V0],.sl 4 V1])] [] [6])) ?_;(repeat' first|exact w_t|apply w_l);all_goals intros));all_goals exact gL
theorem elFoot (M GG:List AV) (i:Nat) (a0 a1 a2:Int) (h0:0≤a0∧a0 < 40) (h1:0≤a1∧a1 < 40) (h2:0≤a2∧a2 < 40):Pure prog 144 [.agg [.sl 6 M,.sl 5 GG],iv i,.sl 1 [iv a0,iv a1,iv a2]] (.agg [.sl 1 [iv a1,iv a2],.sl 1 [qpA (subX (pX a2 a1 a2) (pX a0 a1 a2)),qpA (pX a0 a1 a2)],qpA (pX a2 a1 a2)]):=by
 have x0:=Zci (Za5 (.inr rfl) h0 h1 h2);have x1:=Zci (Za5 (.inr rfl) h2 h1 h2);exact elFootV M GG i a0 a1 a2 _ _ _ (Zdn _ _ _ (Za5 (.inr rfl) h0 h1 h2)) (Zdn _ _ _ (Za5 (.inr rfl) h2 h1 h2)) (Zk2 _ _ _ _ (x0.s) (x1.s))
theorem elOtherV (M GG:List AV) (i:Nat) (a0 a1 a2:Int) (V0 V1 V2 V3:List AV) (c1:Pure prog 81 [iv a2,iv a0,iv a1] (.sl 4 V0)) (c2:Pure prog 84 [.sl 4 V0] (.sl 4 V1)) (c3:Pure prog 81 [iv a1,iv a0,iv a1] (.sl 4 V2)) (c4:Pure prog 206 [iv a0,iv a1,.sl 4 V1,.sl 4 V2] (.agg [.sl 1 [iv a0,iv a1],.sl 1 [.sl 4 V3,.sl 4 V1],.sl 4 V2])):Pure prog 146 [.agg [.sl 6 M,.sl 5 GG],iv i,.sl 1 [iv a0,iv a1,iv a2]] (.agg [.sl 1 [iv a0,iv a1],.sl 1 [.sl 4 V3,.sl 4 V1],.sl 4 V2]):=by
 refine Zaa (tok:=0) func146 rfl ntmps146 results146 call146 (by rfl) (by simp) ?_;(focus (refine wkad w_t (w_4 c1 c2 c3 c4) (w_1 (w_d 1 [(15,.sl 4 V0),(16,.sl 4 V1),(26,.sl 4 V2),(27,.agg [.sl 1 [iv a0,iv a1],.sl 1 [.sl 4 V3,.sl 4 V1],.sl 4 V2])] [] [6])) ?_;(repeat' first|exact w_t|apply w_l);all_goals intros));all_goals exact gL
theorem elOther (M GG:List AV) (i:Nat) (a0 a1 a2:Int) (h0:0≤a0∧a0 < 40) (h1:0≤a1∧a1 < 40) (h2:0≤a2∧a2 < 40):Pure prog 146 [.agg [.sl 6 M,.sl 5 GG],iv i,.sl 1 [iv a0,iv a1,iv a2]] (.agg [.sl 1 [iv a0,iv a1],.sl 1 [qpA (subX (pX a1 a0 a1) (twX (pX a2 a0 a1))),qpA (twX (pX a2 a0 a1))],qpA (pX a1 a0 a1)]):=by
 have x0:=Zci (Za5 (.inr rfl) h2 h0 h1);have x1:=(Zez Zjb).mul x0;have x2:=Zci (Za5 (.inr rfl) h1 h0 h1);exact elOtherV M GG i a0 a1 a2 _ _ _ _ (Zdn _ _ _ (Za5 (.inr rfl) h2 h0 h1)) (Zuu x0) (Zdn _ _ _ (Za5 (.inr rfl) h1 h0 h1)) (Zk2 _ _ _ _ (x1.s) (x2.s))
theorem elSch2:Pure prog 86 [iv 2] (.tup [.agg [.fn 140 []],.v (.bool true)]):=by
 refine Zaa (tok:=0) func86 rfl ntmps86 results86 call86 (by rfl) (by simp) ?_;(focus (refine wkap w_t w_t (w_r 0) ?_;(repeat' first|exact w_t|apply w_l);all_goals intros));all_goals exact gL
theorem elSch3:Pure prog 86 [iv 3] (.tup [.agg [.fn 141 []],.v (.bool true)]):=by
 refine Zaa (tok:=0) func86 rfl ntmps86 results86 call86 (by rfl) (by simp) ?_;(focus (refine wkap w_t w_t (w_r 0) ?_;(repeat' first|exact w_t|apply w_l);all_goals intros));all_goals exact gL
theorem elSch5:Pure prog 86 [iv 5] (.tup [.agg [.fn 142 []],.v (.bool true)]):=by
 refine Zaa (tok:=0) func86 rfl ntmps86 results86 call86 (by rfl) (by simp) ?_;(focus (refine wkap w_t w_t (w_r 0) ?_;(repeat' first|exact w_t|apply w_l);all_goals intros));all_goals exact gL
theorem elSch9:Pure prog 86 [iv 9] (.tup [.agg [.fn 143 []],.v (.bool true)]):=by
 refine Zaa (tok:=0) func86 rfl ntmps86 results86 call86 (by rfl) (by simp) ?_;(focus (refine wkap w_t w_t (w_r 0) ?_;(repeat' first|exact w_t|apply w_l);all_goals intros));all_goals exact gL
theorem elSch7:Pure prog 86 [iv 7] (.tup [.agg [.fn 144 []],.v (.bool true)]):=by
 refine Zaa (tok:=0) func86 rfl ntmps86 results86 call86 (by rfl) (by simp) ?_;(focus (refine wkap w_t w_t (w_r 0) ?_;(repeat' first|exact w_t|apply w_l);all_goals intros));all_goals exact gL
theorem elSch8:Pure prog 86 [iv 8] (.tup [.agg [.fn 145 []],.v (.bool true)]):=by
 refine Zaa (tok:=0) func86 rfl ntmps86 results86 call86 (by rfl) (by simp) ?_;(focus (refine wkap w_t w_t (w_r 0) ?_;(repeat' first|exact w_t|apply w_l);all_goals intros));all_goals exact gL
theorem elSch10:Pure prog 86 [iv 10] (.tup [.agg [.fn 146 []],.v (.bool true)]):=by
 refine Zaa (tok:=0) func86 rfl ntmps86 results86 call86 (by rfl) (by simp) ?_;(focus (refine wkap w_t w_t (w_r 0) ?_;(repeat' first|exact w_t|apply w_l);all_goals intros));all_goals exact gL
theorem elSch11:Pure prog 86 [iv 11] (.tup [.agg [.fn 147 []],.v (.bool true)]):=by
 refine Zaa (tok:=0) func86 rfl ntmps86 results86 call86 (by rfl) (by simp) ?_;(focus (refine wkap w_t w_t (w_r 0) ?_;(repeat' first|exact w_t|apply w_l);all_goals intros));all_goals exact gL
theorem elSch0 (k:Int) (hk:¬k=2∧¬k=3∧¬k=5∧¬k=9∧¬k=7∧¬k=8∧¬k=10∧¬k=11):Pure prog 86 [iv k] (.tup [.agg [.v .nilFunc],.v (.bool false)]):=by
 obtain⟨k2,k3,k5,k9,k7,k8,k10,k11⟩:=hk;refine Zaa (tok:=0) func86 rfl ntmps86 results86 call86 (by rfl) (by simp) ?_;(focus (refine wkap (w_8 k2 k3 k5 k9 k7 k8 k10 k11) w_t (w_r 0) ?_;(repeat' first|exact w_t|apply w_l);all_goals intros));all_goals exact gL
theorem Zgq (a b:Int) (l:List Int) (hl:l.length≤1000000):Pure prog 87 [.sl 1 (iv a :: iv b :: l.map iv)] (.sl 1 (iv a :: iv b :: l.map iv)):=by
 have hl:(l.map iv).length≤1000000:=by rw [List.length_map];exact hl
 generalize l.map iv=L at *;refine Zaa (tok:=0) func87 rfl ntmps87 results87 call87 (by rfl) (by simp) ?_;(focus (refine wkap (w_1 hl) w_t (w_r 0) ?_;(repeat' first|exact w_t|apply w_l);all_goals intros));all_goals exact gL
theorem elComb0 (M G:List AV) (i:Nat) (k:Int) (nm:AV) (A0:List AV) (rb rn rd:AV) (hi:i < M.length) (hs:M.getD i .u=.agg [iv k,nm,.sl 1 A0,rb,rn,rd]) (c0:Pure prog 86 [iv k] (.tup [.agg [.v .nilFunc],.v (.bool false)])) :
 Pure prog 38 [.agg [.sl 6 M,.sl 5 G],iv i] (.tup [.agg [.v (.slice none 0 0),.v (.slice none 0 0),.v (.slice none 0 0)],iv 8]):=by
 refine Zaa (tok:=0) func38 rfl ntmps38 results38 call38 (by rfl) (by simp) ?_;(focus (refine wkad (w_2 hi hs) (w_1 c0) w_t ?_;(repeat' first|exact w_t|apply w_l);all_goals intros));all_goals exact gL
theorem elComb1 (M G:List AV) (i:Nat) (k:Int) (nm:AV) (A0:List AV) (rb rn rd:AV) (f:Nat) (ps ab be:List AV) (hi:i < M.length) (hs:M.getD i .u=.agg [iv k,nm,.sl 1 A0,rb,rn,rd]) (c0:Pure prog 86 [iv k] (.tup [.agg [.fn f []],.v (.bool true)]))
 (c1:Pure prog 87 [.sl 1 A0] (.sl 1 A0)) (c2:Pure prog f [.agg [.sl 6 M,.sl 5 G],iv i,.sl 1 A0] (.agg [.sl 1 ps,.sl 1 ab,.sl 4 be])) (hb:be.length≤100) :
 Pure prog 38 [.agg [.sl 6 M,.sl 5 G],iv i] (if be.length=0 then .tup [.agg [.v (.slice none 0 0),.v (.slice none 0 0),.v (.slice none 0 0)],iv 3] else .tup [.agg [.sl 1 ps,.sl 1 ab,.sl 4 be],iv 0]):=by
 by_cases h0:be.length=0
 ·rw [if_pos h0];refine Zaa (tok:=0) func38 rfl ntmps38 results38 call38 (by rfl) (by simp) ?_;(focus (refine wkad (w_3 hi hs h0) (w_3 c0 c1 c2) (w_1 (w_d 4 [(10,.sl 1 A0),(11,.agg [.sl 1 ps,.sl 1 ab,.sl 4 be])] [] [])) ?_;(repeat' first|exact w_t|apply w_l);all_goals intros));all_goals exact gL
 ·rw [if_neg h0];refine Zaa (tok:=0) func38 rfl ntmps38 results38 call38 (by rfl) (by simp) ?_;(focus (refine wkad (w_3 hi hs h0) (w_3 c0 c1 c2) (w_1 (w_d 4 [(10,.sl 1 A0),(11,.agg [.sl 1 ps,.sl 1 ab,.sl 4 be])] [] [])) ?_;(repeat' first|exact w_t|apply w_l);all_goals intros));all_goals exact gL
theorem Zpq {R:AV→Mem→Prop} {b r:AV} {m σ':Mem} (d t d' t':Nat) (hd:d < 1000) (hd':d' < 1000) (hdd:d≠d') (htt:t≠t') (hs:Sub b r) (hR:R r σ') (ht:m d=σ' t) (ht':m d'=σ' t') (hm:∀k,k≠t→k≠t'→σ' k≠none→m (k+1000)=σ' k):Back R b m:=by
 refine⟨r,σ',λk=>if k=t then d else if k=t' then d' else k+1000,hs,hR,λk e h=>?_,λk k' _ _ h=>?_⟩
 ·by_cases h1:k=t
  ·subst h1;simp only [if_true];rw [ht,h]
  ·by_cases h2:k=t'
   ·subst h2;simp only [if_neg h1,if_true];rw [ht',h]
   ·simp only [if_neg h1,if_neg h2];rw [hm k h1 h2 (by rw [h];simp),h]
 ·simp only at h;split at h<;>split at h<;>(try split at h)<;>(try split at h)<;>omega
theorem Zsm {P:Program} {t d:Nat} {f:FuncId} {args:List AV} {e:Nat→AV} {m:Mem} {K:St→Prop} {x:Value→Value→AV} {m':Value→Value→Mem} (c:ACall P f args m λr σ'=>∃s1 s2,r=x s1 s2∧σ'=m' s1 s2) (h:∀s1 s2,K ⟨upd e d (x s1 s2),m' s1 s2⟩):aRes P t (some d) (.call f args) K ⟨e,m⟩ :=
 c.mono λr σ' ⟨s1,s2,h1,h2⟩=>by subst h1;subst h2;exact h s1 s2
theorem Zkw {P:Program} {n:Nat} {K:St→Prop} {st:St} (h:K st):Zjm P n [] K st:=h
theorem sub3 {a b c a' b' c':AV} (h1:Sub a a') (h2:Sub b b') (h3:Sub c c'):Sub (.agg [a,b,c]) (.agg [a',b',c']):=Sub.agg _ _ rfl λj x y hx hy=>by
 match j with
 | 0=>cases hx;cases hy;exact h1
 | 1=>cases hx;cases hy;exact h2
 | 2=>cases hx;cases hy;exact h3
 | j+3=>cases hx
theorem Zy3 (σ:Mem) (K1 K2:Nat) (h12:K1≠K2) (a b:Int) (A B S:List AV) (c1:Pure prog 80 [.sl 4 B,.sl 4 A] (.sl 4 S)):ACall prog 206 [iv a,iv b,.sl 4 A,.sl 4 B] σ λr σ'=>∃s1 s2,r=.agg [.own K1 s1,.own K2 s2,.sl 4 B]∧σ'=upd (upd σ K1 (some (.row s1 3 1 [iv a,iv b] 0))) K2 (some (.row s2 27 1 [.sl 4 S,.sl 4 A] 0)):=by
 refine Zhl func206 rfl ntmps206 results206 call206 (by rfl) (by simp) (.cons (Sub.refl _) (.cons (Sub.refl _) (.cons (Sub.refl _) (.cons (Sub.refl _) .nil)))) ?_;have hL:∀k,lent σ (k+1000)=σ k:=λk=>by unfold lent;rw [if_neg (by omega),Nat.add_sub_cancel]
 generalize lent σ=m0 at *;(focus (refine wkap w_t (w_1 c1) (w_r 0) ?_;(repeat' first|exact w_t|apply w_l);all_goals intros));all_goals simp (disch:=omega) only [go_sem]
 rename_i s1 s2;refine Zpq (r:=.agg [.own K1 s1,.own K2 s2,.sl 4 B]) 11 K1 16 K2 (by omega) (by omega) (by omega) h12 (sub3 (Sub.own _ _ _) (Sub.own _ _ _) (Sub.refl _)) ⟨s1,s2,rfl,rfl⟩ ?_ ?_ ?_
 ·simp (disch:=omega) only [Zam,if_pos,if_neg,if_true]
 ·simp (disch:=omega) only [Zam,if_pos,if_neg,if_true]
 ·intro k h1 h2 _;simp (disch:=omega) only [Zam,if_pos,if_neg];exact hL k
theorem elFootAV (σ:Mem) (K1 K2:Nat) (h12:K1≠K2) (M GG:List AV) (i:Nat) (a0 a1 a2:Int) (V0 V1 S:List AV) (c1:Pure prog 81 [iv a0,iv a1,iv a2] (.sl 4 V0)) (c2:Pure prog 81 [iv a2,iv a1,iv a2] (.sl 4 V1)) (c3:Pure prog 80 [.sl 4 V1,.sl 4 V0] (.sl 4 S)):ACall prog 144 [.agg [.sl 6 M,.sl 5 GG],iv i,.sl 1 [iv a0,iv a1,iv a2]] σ λr σ'=>∃s1 s2,r=.agg [.own K1 s1,.own K2 s2,.sl 4 V1]∧σ'=upd (upd σ K1 (some (.row s1 3 1 [iv a1,iv a2] 0))) K2 (some (.row s2 27 1 [.sl 4 S,.sl 4 V0] 0)):=by
 refine Zhl func144 rfl ntmps144 results144 call144 (by rfl) (by simp) (.cons (Sub.refl _) (.cons (Sub.refl _) (.cons (Sub.refl _) .nil))) ?_;have hL:∀k,lent σ (k+1000)=σ k:=λk=>by unfold lent;rw [if_neg (by omega),Nat.add_sub_cancel]
 generalize lent σ=m0 at *;(focus (refine wkax w_t w_t w_t w_t w_t w_t w_t (w_r 0) ?_;(repeat' first|exact w_t|apply w_l);all_goals intros));refine Zmt 26 (Zd3 [(15,.sl 4 V0),(25,.sl 4 V1)]) [] [] (by simp only [List.take_succ_cons,List.take_zero];rfl) (by simp only [List.drop_succ_cons,List.drop_zero];rfl) (by kernel_rfl) (by rfl) (by kernel_rfl) (by kernel_rfl) (by simp only [List.length_cons,List.length_nil,Nat.reduceAdd];rfl) ?_;(focus (refine wkax w_t (w_2 c1 c2) w_t w_t w_t w_t w_t (w_r 0) ?_;(repeat' first|exact w_t|apply w_l);all_goals intros));intro _;refine⟨_,Frz.refl _ _,?_⟩;(focus (refine wkax w_t w_t w_t w_t w_t w_t w_t (w_r 0) ?_;(repeat' first|exact w_t|apply w_l);all_goals intros))
 refine Zsm (Zy3 _ 177 178 (by omega) a1 a2 V0 V1 S c3) ?_;intro s1 s2;(focus (refine wkax w_t w_t w_t w_t w_t w_t w_t (w_r 0) ?_;(repeat' first|exact w_t|apply w_l);all_goals intros));refine⟨_,Frz.refl _ _,?_⟩;intro _;refine⟨_,Frz.refl _ _,?_⟩;(focus (refine wkax w_t w_t w_t w_t w_t w_t w_t (w_r 0) ?_;(repeat' first|exact w_t|apply w_l);all_goals intros));refine⟨_,Frz.refl _ _,?_⟩;refine Zkw ?_;(focus (refine wkax w_t w_t w_t w_t w_t w_t w_t (w_r 0) ?_;(repeat' first|exact w_t|apply w_l);all_goals intros));all_goals simp (disch:=omega) only [go_sem]
 refine Zpq (r:=.agg [.own K1 s1,.own K2 s2,.sl 4 V1]) 177 K1 178 K2 (by omega) (by omega) (by omega) h12 (sub3 (Sub.own _ _ _) (Sub.own _ _ _) (Sub.refl _)) ⟨s1,s2,rfl,rfl⟩ ?_ ?_ ?_
 ·simp (disch:=omega) only [Zam,if_pos,if_neg,if_true]
 ·simp (disch:=omega) only [Zam,if_pos,if_neg,if_true]
 ·intro k h1 h2 _;simp (disch:=omega) only [Zam,if_pos,if_neg];exact hL k
theorem Zrh (M GG:List AV) (i:Nat) (a0 a1 a2:Int) (V0 V1 S T1 T2 NB:List AV) (c1:Pure prog 81 [iv a0,iv a1,iv a2] (.sl 4 V0)) (c2:Pure prog 81 [iv a2,iv a1,iv a2] (.sl 4 V1)) (c3:Pure prog 80 [.sl 4 V1,.sl 4 V0] (.sl 4 S))
 (c4:Pure prog 84 [.sl 4 S] (.sl 4 T1)) (c5:Pure prog 84 [.sl 4 V0] (.sl 4 T2)) (c6:Pure prog 80 [.v (.slice none 0 0),.sl 4 V1] (.sl 4 NB)) :
 Pure prog 145 [.agg [.sl 6 M,.sl 5 GG],iv i,.sl 1 [iv a0,iv a1,iv a2]] (.agg [.sl 1 [iv a1,iv a2,iv a0],.sl 1 [.sl 4 T1,.sl 4 T2,.sl 4 NB],.sl 4 V1]):=by
 refine Zaa (tok:=0) func145 rfl ntmps145 results145 call145 (by rfl) (by simp) ?_;(focus (refine wkax w_t w_t w_t w_t w_t w_t w_t (w_r 0) ?_;(repeat' first|exact w_t|apply w_l);all_goals intros));refine Zsm (elFootAV _ 277 278 (by omega) M GG i a0 a1 a2 V0 V1 S c1 c2 c3) ?_;intro s1 s2;(focus (refine wkax w_t w_t w_t w_t w_t w_t w_t (w_r 0) ?_;(repeat' first|exact w_t|apply w_l);all_goals intros));refine Zmt 6 (Zd3 []) [] [] (by simp only [List.take_succ_cons,List.take_zero];rfl) (by simp only [List.drop_succ_cons,List.drop_zero];rfl) (by kernel_rfl) (by rfl) (by kernel_rfl) (by kernel_rfl) (by simp only [List.length_cons,List.length_nil,Nat.reduceAdd];rfl) ?_
 (focus (refine wkax w_t w_t w_t w_t w_t w_t w_t (w_r 0) ?_;(repeat' first|exact w_t|apply w_l);all_goals intros));intro _;refine⟨_,Frz.refl _ _,?_⟩;(focus (refine wkax w_t w_t w_t w_t w_t w_t w_t (w_r 0) ?_;(repeat' first|exact w_t|apply w_l);all_goals intros));refine⟨_,Frz.refl _ _,?_⟩;intro _;refine⟨_,Frz.refl _ _,?_⟩;(focus (refine wkax w_t w_t w_t w_t w_t w_t w_t (w_r 0) ?_;(repeat' first|exact w_t|apply w_l);all_goals intros));refine⟨_,Frz.refl _ _,?_⟩;intro _;refine⟨_,Frz.refl _ _,?_⟩;(focus (refine wkax w_t w_t w_t w_t w_t w_t w_t (w_r 0) ?_;(repeat' first|exact w_t|apply w_l);all_goals intros))
 refine⟨_,Frz.refl _ _,?_⟩;refine Zkw ?_;(focus (refine wkax w_t w_t w_t w_t w_t w_t w_t (w_r 0) ?_;(repeat' first|exact w_t|apply w_l);all_goals intros));refine Zmt 14 (Zd3 [(4,.sl 4 T1),(9,.sl 4 T2),(12,.sl 4 NB)]) [] [] (by simp only [List.take_succ_cons,List.take_zero];rfl) (by simp only [List.drop_succ_cons,List.drop_zero];rfl) (by kernel_rfl) (by rfl) (by kernel_rfl) (by kernel_rfl) (by simp only [List.length_cons,List.length_nil,Nat.reduceAdd];rfl) ?_;(focus (refine wkax w_t (w_3 c4 c5 c6) w_t w_t w_t w_t w_t (w_r 0) ?_;(repeat' first|exact w_t|apply w_l);all_goals intros));intro _
 refine⟨_,Frz.refl _ _,?_⟩;(focus (refine wkax w_t w_t w_t w_t w_t w_t w_t (w_r 0) ?_;(repeat' first|exact w_t|apply w_l);all_goals intros));refine⟨_,Frz.refl _ _,?_⟩;intro _;refine⟨_,Frz.refl _ _,?_⟩;(focus (refine wkax w_t w_t w_t w_t w_t w_t w_t (w_r 0) ?_;(repeat' first|exact w_t|apply w_l);all_goals intros));refine⟨_,Frz.refl _ _,?_⟩;refine Zkw ?_;(focus (refine wkax w_t w_t w_t w_t w_t w_t w_t (w_r 0) ?_;(repeat' first|exact w_t|apply w_l);all_goals intros));all_goals exact gL
theorem Zuz (M GG:List AV) (i:Nat) (a0 a1 a2:Int) (h0:0≤a0∧a0 < 40) (h1:0≤a1∧a1 < 40) (h2:0≤a2∧a2 < 40):Pure prog 145 [.agg [.sl 6 M,.sl 5 GG],iv i,.sl 1 [iv a0,iv a1,iv a2]] (.agg [.sl 1 [iv a1,iv a2,iv a0],.sl 1 [qpA (twX (subX (pX a2 a1 a2) (pX a0 a1 a2))),qpA (twX (pX a0 a1 a2)),qpA (subX ([]) (pX a2 a1 a2))],qpA (pX a2 a1 a2)]):=by
 have x0:=Zci (Za5 (.inr rfl) h0 h1 h2);have x1:=Zci (Za5 (.inr rfl) h2 h1 h2);have x2:=x1.sub x0;exact Zrh M GG i a0 a1 a2 _ _ _ _ _ _ (Zdn _ _ _ (Za5 (.inr rfl) h0 h1 h2)) (Zdn _ _ _ (Za5 (.inr rfl) h2 h1 h2)) (Zis x1.s x0.s) (Zuu x2) (Zuu x0) (Zjw (Zis XL.nil.s x1.s) (.cons (.nil 4) (.cons (.refl _) .nil)))
theorem nilAdd {p:QTs} (h:XS p):Pure prog 82 [.v (.slice none 0 0),qpA p] (qpA p):=by
 have c:=Zji XL.nil.s h;have e:Za6 [] p=p:=by cases p<;>simp [addP]
 rw [e] at c;exact Zjw c (.cons (.nil 4) (.cons (.refl _) .nil))
theorem Zy7 (M GG:List AV) (i:Nat) (a0 a1 a2:Int) (V0 V1 V2 V3 V4 V5 V6 V7 V8 V9 V10:List AV) (c1:Pure prog 81 [iv a1,iv a2,iv a1] (.sl 4 V0)) (c2:Pure prog 81 [iv a1,iv a0,iv a2] (.sl 4 V1)) (c3:Pure prog 40 [.sl 4 V0,.sl 4 V1] (.sl 4 V2)) (c4:Pure prog 81 [iv a2,iv a0,iv a2] (.sl 4 V3)) (c5:Pure prog 81 [iv a2,iv a1,iv a0] (.sl 4 V4)) (c6:Pure prog 40 [.sl 4 V3,.sl 4 V4] (.sl 4 V5)) (c7:Pure prog 81 [iv a0,iv a1,iv a0] (.sl 4 V6)) (c8:Pure prog 81 [iv a0,iv a2,iv a1] (.sl 4 V7)) (c9:Pure prog 40 [.sl 4 V6,.sl 4 V7] (.sl 4 V8)) (c10:Pure prog 82 [.v (.slice none 0 0),.sl 4 V2] (.sl 4 V2)) (c11:Pure prog 82 [.sl 4 V2,.sl 4 V5] (.sl 4 V9)) (c12:Pure prog 82 [.sl 4 V9,.sl 4 V8] (.sl 4 V10)):Pure prog 147 [.agg [.sl 6 M,.sl 5 GG],iv i,.sl 1 [iv a0,iv a1,iv a2]] (.agg [.sl 1 [iv a0,iv a1,iv a2],.sl 1 [.sl 4 V2,.sl 4 V5,.sl 4 V8],.sl 4 V10]):=by
 have t1:Int.tmod 1 3=1:=rfl;have t2:Int.tmod 2 3=2:=rfl;have t3:Int.tmod 3 3=0:=rfl;have t4:Int.tmod 4 3=1:=rfl;refine Zaa (tok:=0) func147 rfl ntmps147 results147 call147 (by rfl) (by simp) ?_;(focus (refine wkax (w_4 t1 t2 t3 t4) (w_12 c1 c2 c3 c4 c5 c6 c7 c8 c9 c10 c11 c12) w_t w_t w_t w_t w_y (w_r 4) ?_;(repeat' first|exact w_t|apply w_l);all_goals intros));all_goals exact gL
theorem elCenter (M GG:List AV) (i:Nat) (a0 a1 a2:Int) (h0:0≤a0∧a0 < 40) (h1:0≤a1∧a1 < 40) (h2:0≤a2∧a2 < 40):Pure prog 147 [.agg [.sl 6 M,.sl 5 GG],iv i,.sl 1 [iv a0,iv a1,iv a2]] (.agg [.sl 1 [iv a0,iv a1,iv a2],.sl 1 [qpA (mulX (pX a1 a2 a1) (pX a1 a0 a2)),qpA (mulX (pX a2 a0 a2) (pX a2 a1 a0)),qpA (mulX (pX a0 a1 a0) (pX a0 a2 a1))],qpA (Za6 (Za6 (mulX (pX a1 a2 a1) (pX a1 a0 a2)) (mulX (pX a2 a0 a2) (pX a2 a1 a0))) (mulX (pX a0 a1 a0) (pX a0 a2 a1)))]):=by
 have x0:=Zci (Za5 (.inr rfl) h1 h2 h1);have x1:=Zci (Za5 (.inr rfl) h1 h0 h2);have x2:=Zci (Za5 (.inr rfl) h2 h0 h2);have x3:=Zci (Za5 (.inr rfl) h2 h1 h0);have x4:=Zci (Za5 (.inr rfl) h0 h1 h0);have x5:=Zci (Za5 (.inr rfl) h0 h2 h1);have x6:=x0.mul x1;have x7:=x2.mul x3;have x8:=x6.add x7;have x9:=x4.mul x5;exact Zy7 M GG i a0 a1 a2 _ _ _ _ _ _ _ _ _ _ _ (Zdn _ _ _ (Za5 (.inr rfl) h1 h2 h1)) (Zdn _ _ _ (Za5 (.inr rfl) h1 h0 h2)) (Zyo x0 x1) (Zdn _ _ _ (Za5 (.inr rfl) h2 h0 h2)) (Zdn _ _ _ (Za5 (.inr rfl) h2 h1 h0)) (Zyo x2 x3) (Zdn _ _ _ (Za5 (.inr rfl) h0 h1 h0)) (Zdn _ _ _ (Za5 (.inr rfl) h0 h2 h1)) (Zyo x4 x5) (nilAdd (x6.s)) (Zji (x6.s) (x7.s)) (Zji (x8.s) (x9.s))
section
attribute [local go_sem] underlying3 underlying4 underlying128 underlying50 underlying52 underlying54 underlying39 underlying55 underlying57 underlying26 underlying27 sz3 by3 z3 szB zB Zas zRat Zay zInt Zax zNat Zah Zan Zai Bool.and_self Zal Za7 zSlQ szQT byQT zQT Za9 zSlT szQP zQP underlying81 underlying29 szFr byFr zFr Zb6 Zca zSQP underlying9 underlying69 underlying33 underlying76 underlying22 underlying25 underlying93 underlying23 Zce zErr Zbh Zcm zStr szL byL zL Zb3 Zb4 Zdh Zdk zFig Zdj zSlI Zdi zSlS Zcc Zcd Zd0 Zd2 zSlF underlying83 underlying119 underlying79 underlying117 Ze2 Ze4 zCmb Ze0 zSch szFn zFn Ze1 zPlc
end
theorem l2 {l:List Int} (h:l.length=2):∃a b,l=[a,b]:=by
 match l,h with
 | [a,b],_=>exact⟨a,b,rfl⟩
theorem l3 {l:List Int} (h:l.length=3):∃a b c,l=[a,b,c]:=by
 match l,h with
 | [a,b,c],_=>exact⟨a,b,c,rfl⟩
theorem l4 {l:List Int} (h:l.length=4):∃a b c d,l=[a,b,c,d]:=by
 match l,h with
 | [a,b,c,d],_=>exact⟨a,b,c,d,rfl⟩
abbrev tOf (ss:List RS) (i:Nat):Int:=(prN ((ss.take i).map RS.k)).1
theorem none_q {r:RQ} (h:r.none=true):Sz r.q 2:=by
 unfold RQ.none at h;simp only [Bool.and_eq_true,Bool.not_eq_true',decide_eq_true_eq] at h;obtain⟨s,l,d⟩:=r;simp only at h;obtain⟨rfl,hl,hd⟩:=h;obtain rfl:=List.length_eq_zero_iff.1 hl;obtain rfl:=List.length_eq_zero_iff.1 hd;exact⟨by decide +kernel,by decide +kernel⟩
theorem errS_r {ss:List RS} {i:Nat} (hi:i < ss.length) (h:errS ss i=0):(ss[i].k=2∧ss[i].r.ok=true)∨(ss[i].k≠2∧ss[i].r.none=true):=by
 unfold errS at h;rw [show ss.getD i RS.zero=ss[i] from by rw [List.getD_eq_getElem?_getD,List.getElem?_eq_getElem hi];rfl] at h;generalize ss[i]=s at *;simp only at h;split at h
 ·omega
 ·split at h
  ·omega
  ·split at h
   ·omega
   ·split at h
    ·omega
    ·rename_i hn;by_cases hk:s.k=2
     ·left;refine⟨hk,?_⟩
      cases hr:s.r.ok with
      | true=>rfl
      | false=>exact absurd (.inl ⟨hk,hr⟩) hn
     ·right;refine⟨hk,?_⟩
      cases hr:s.r.none with
      | true=>rfl
      | false=>exact absurd (.inr ⟨hk,hr⟩) hn
theorem st_a {ss:List RS} {i:Nat} (hi:i < ss.length) (hl:ss.length≤8) (he:errS ss i=0) (hr:ss[i].r.lm 2):StA ss[i].k (tOf ss i) i ss.length ss[i].ar ss[i].r.q:=by
 obtain⟨h1,h2,h3,h4⟩:=Znk hi he;have ht:0≤tOf ss i∧tOf ss i≤16:=by have h:=prN_in ss (k:=i) hl;exact⟨h.1,h.2.1⟩
 have hz:Sz ss[i].r.q 2:=by
  rcases errS_r hi he with⟨_,h⟩ | ⟨_,h⟩
  ·exact(RQ.ok_av hr h).2
  ·exact none_q h
 generalize ss[i]=s at *;unfold arS at h1 h2;refine⟨by omega,hz,λk hk=>by have:=h3 k hk;omega,λk hk=>(h3 k hk).2,by omega,⟨?_,?_,?_,?_,?_⟩,?_⟩<;>intro hk
 ·rw [hk] at h2;simp at h2;omega
 ·rw [hk] at h2;simp at h2;omega
 ·rcases hk with hk | hk<;>rw [hk] at h2<;>simp at h2<;>omega
 ·rcases hk with hk | hk | hk<;>rw [hk] at h2<;>simp at h2<;>omega
 ·rw [hk] at h2;simp at h2;omega
 ·rw [hk] at h2;simp at h2;omega
def cmR:Option Cb→AV
 | none=>.tup [.agg [.v (.slice none 0 0),.v (.slice none 0 0),.v (.slice none 0 0)],iv 8]
 | some c=>if c.be.length=0 then .tup [.agg [.v (.slice none 0 0),.v (.slice none 0 0),.v (.slice none 0 0)],iv 3] else .tup [c.av,iv 0]
def rpR:Option Cb→AV
 | none=>.tup [.v (.slice none 0 0),.v (.slice none 0 0),.v (.slice none 0 0),iv 8]
 | some c=>.tup [ivs c.ps,.sl 1 (c.ab.map qpA),qpA c.be,iv 0]
theorem cb_none {k t:Int} {a:List Int} {r:Rat} (hk:¬k=2∧¬k=3∧¬k=5∧¬k=9∧¬k=7∧¬k=8∧¬k=10∧¬k=11):cbOf k a r t=none:=by
 obtain⟨k2,k3,k5,k9,k7,k8,k10,k11⟩:=hk;unfold cbOf;rw [if_neg k2,if_neg k3,if_neg k5,if_neg k9,if_neg k7,if_neg k8,if_neg k10,if_neg k11]
theorem Zg1 {ss:List RS} {gs:List RG} {i f:Nat} {k:Int} {nm rb rn rd:AV} {A0 A1:List AV} {c:Cb} (hi:i < ss.length) (hs:(ss.map RS.av).getD i .u=.agg [iv k,nm,.sl 1 A0,rb,rn,rd]) (c0:Pure prog 86 [iv k] (.tup [.agg [.fn f []],.v (.bool true)]))
 (c1:Pure prog 87 [.sl 1 A1] (.sl 1 A1)) (h01:A0=A1) (c2:Pure prog f [figA ss gs,iv i,.sl 1 A1] c.av) (hb:c.be.length≤4):Pure prog 38 [figA ss gs,iv i] (cmR (some c)):=by
 subst h01;have h:=elComb1 (ss.map RS.av) (gs.map RG.av) i k nm A0 rb rn rd f _ _ _ (by rw [List.length_map];exact hi) hs c0 c1 c2 (by rw [List.length_map];omega);rw [List.length_map] at h;exact h
theorem elComb (ss:List RS) (gs:List RG) (i:Nat) (hi:i < ss.length) (h8:ss.length≤8) (he:errS ss i=0) (hr:ss[i].r.lm 2):Pure prog 38 [figA ss gs,iv i] (cmR (cbOf ss[i].k ss[i].ar ss[i].r.q (tOf ss i))):=by
 have hM:(ss.map RS.av).getD i .u=.agg [iv ss[i].k,strA ss[i].nm,ivs ss[i].ar,.v (.bool ss[i].r.s),lim ss[i].r.l,lim ss[i].r.d]:=Zat RS.av hi;have hl:i < (ss.map RS.av).length:=by rw [List.length_map];exact hi
 have hA:=st_a hi h8 he hr;obtain⟨h1,h2,h3,h4⟩:=Znk hi he;have hg:∀k,k < ss[i].ar.length→0≤gI ss[i].ar k∧gI ss[i].ar k < 40:=λk hk=>by have:=h3 k hk;omega
 have ht:=hA.tr;have cp:Pure prog 207 [.agg [.sl 6 (ss.map RS.av),.sl 5 (gs.map RG.av)],iv i] (iv (tOf ss i)):=elParam ss gs i (by omega) (by omega);generalize tOf ss i=t at *;generalize ss[i]=s at *;obtain⟨k,nm,ar,r⟩:=s;simp only at hM hA h1 h2 h3 h4 hg hr ⊢;by_cases k2:k=2
 ·subst k2;obtain⟨a0,a1,rfl⟩:=l2 (show ar.length=2 by simp [arS] at h2;omega);have g0:0≤a0∧a0 < 40:=hg 0 (by simp);have g1:0≤a1∧a1 < 40:=hg 1 (by simp);obtain⟨hv,hz⟩:=RQ.ok_av hr (h4 rfl);have hv:AV.agg [.v (.bool r.s),lim r.l,lim r.d]=.agg [.v (.bool (decide (r.q.num < 0))),lim (toL r.q.num.natAbs),lim (toL r.q.den)]:=hv;simp only [AV.agg.injEq,List.cons.injEq,and_true] at hv;rw [hv.1,hv.2.1,hv.2.2] at hM;exact Zg1 hi hM elSch2 (Zgq _ _ [] (by simp)) rfl (Zy6 _ _ i a0 a1 2 _ _ r.q hl hM hz g0 g1) (Zlg (show cbOf 2 [a0,a1] r.q t=some _ from rfl) hA.sz hA.rg hA.n40 hA.tr hA.l).be.l
 by_cases k3:k=3
 ·subst k3;obtain⟨a0,a1,a2,rfl⟩:=l3 (show ar.length=3 by simp [arS] at h2;omega);have g0:0≤a0∧a0 < 40:=hg 0 (by simp);have g1:0≤a1∧a1 < 40:=hg 1 (by simp);have g2:0≤a2∧a2 < 40:=hg 2 (by simp);exact Zg1 hi hM elSch3 (Zgq _ _ [a2] (by simp)) rfl (Zy2 _ _ i a0 a1 a2 g0 g1 g2) (Zlg (show cbOf 3 [a0,a1,a2] r.q t=some _ from rfl) hA.sz hA.rg hA.n40 hA.tr hA.l).be.l
 by_cases k5:k=5
 ·subst k5;obtain⟨a0,a1,rfl⟩:=l2 (show ar.length=2 by simp [arS] at h2;omega);have g0:0≤a0∧a0 < 40:=hg 0 (by simp);have g1:0≤a1∧a1 < 40:=hg 1 (by simp);exact Zg1 hi hM elSch5 (Zgq _ _ [] (by simp)) rfl (elOnLine _ _ i a0 a1 t (show Qt.ok ⟨3,t,0,0⟩=true by unfold Qt.ok;rw [decide_eq_true_eq];exact .inl ⟨rfl,ht.1,ht.2,rfl,rfl⟩) cp g0 g1) (Zlg (show cbOf 5 [a0,a1] r.q t=some _ from rfl) hA.sz hA.rg hA.n40 hA.tr hA.l).be.l
 by_cases k9:k=9
 ·subst k9;obtain⟨a0,a1,a2,a3,rfl⟩:=l4 (show ar.length=4 by simp [arS] at h2;omega);have g0:0≤a0∧a0 < 40:=hg 0 (by simp);have g1:0≤a1∧a1 < 40:=hg 1 (by simp);have g2:0≤a2∧a2 < 40:=hg 2 (by simp);have g3:0≤a3∧a3 < 40:=hg 3 (by simp);exact Zg1 hi hM elSch9 (Zgq _ _ [a2,a3] (by simp)) rfl (elMet _ _ i a0 a1 a2 a3 g0 g1 g2 g3) (Zlg (show cbOf 9 [a0,a1,a2,a3] r.q t=some _ from rfl) hA.sz hA.rg hA.n40 hA.tr hA.l).be.l
 by_cases k7:k=7
 ·subst k7;obtain⟨a0,a1,a2,rfl⟩:=l3 (show ar.length=3 by simp [arS] at h2;omega);have g0:0≤a0∧a0 < 40:=hg 0 (by simp);have g1:0≤a1∧a1 < 40:=hg 1 (by simp);have g2:0≤a2∧a2 < 40:=hg 2 (by simp);exact Zg1 hi hM elSch7 (Zgq _ _ [a2] (by simp)) rfl (elFoot _ _ i a0 a1 a2 g0 g1 g2) (Zlg (show cbOf 7 [a0,a1,a2] r.q t=some _ from rfl) hA.sz hA.rg hA.n40 hA.tr hA.l).be.l
 by_cases k8:k=8
 ·subst k8;obtain⟨a0,a1,a2,rfl⟩:=l3 (show ar.length=3 by simp [arS] at h2;omega);have g0:0≤a0∧a0 < 40:=hg 0 (by simp);have g1:0≤a1∧a1 < 40:=hg 1 (by simp);have g2:0≤a2∧a2 < 40:=hg 2 (by simp);exact Zg1 hi hM elSch8 (Zgq _ _ [a2] (by simp)) rfl (Zuz _ _ i a0 a1 a2 g0 g1 g2) (Zlg (show cbOf 8 [a0,a1,a2] r.q t=some _ from rfl) hA.sz hA.rg hA.n40 hA.tr hA.l).be.l
 by_cases k10:k=10
 ·subst k10;obtain⟨a0,a1,a2,rfl⟩:=l3 (show ar.length=3 by simp [arS] at h2;omega);have g0:0≤a0∧a0 < 40:=hg 0 (by simp);have g1:0≤a1∧a1 < 40:=hg 1 (by simp);have g2:0≤a2∧a2 < 40:=hg 2 (by simp);exact Zg1 hi hM elSch10 (Zgq _ _ [a2] (by simp)) rfl (elOther _ _ i a0 a1 a2 g0 g1 g2) (Zlg (show cbOf 10 [a0,a1,a2] r.q t=some _ from rfl) hA.sz hA.rg hA.n40 hA.tr hA.l).be.l
 by_cases k11:k=11
 ·subst k11;obtain⟨a0,a1,a2,rfl⟩:=l3 (show ar.length=3 by simp [arS] at h2;omega);have g0:0≤a0∧a0 < 40:=hg 0 (by simp);have g1:0≤a1∧a1 < 40:=hg 1 (by simp);have g2:0≤a2∧a2 < 40:=hg 2 (by simp);exact Zg1 hi hM elSch11 (Zgq _ _ [a2] (by simp)) rfl (elCenter _ _ i a0 a1 a2 g0 g1 g2) (Zlg (show cbOf 11 [a0,a1,a2] r.q t=some _ from rfl) hA.sz hA.rg hA.n40 hA.tr hA.l).be.l
 rw [cb_none ⟨k2,k3,k5,k9,k7,k8,k10,k11⟩];exact elComb0 _ _ i k _ _ _ _ _ hl hM (elSch0 k ⟨k2,k3,k5,k9,k7,k8,k10,k11⟩)
end Go.Proofs.YtpkcophcldjboaaGreatDoor
