/- Contracts of the functions that the law reaches, and the rules by which they are walked. They say what a call hands back for every input within the bounds that each names; no other condition. -/
import Derived.Test.YtpkcophcldjboaaGreatDoorBg7
import Derived.Sort.AssemblyPlain
import Derived.Shelf.SlSortCmp.NoneTotal
import Derived.Sort.LotD5
set_option linter.unusedSimpArgs false
set_option linter.unusedVariables false
set_option maxRecDepth 20000
set_option maxHeartbeats 16000000
namespace Go.Proofs.YtpkcophcldjboaaGreatDoor
open Go Go.RowKit Go.Pg Go.Pol Go.Proofs.Tryz
attribute [-bool_to_prop] Bool.and_eq_decide Bool.or_eq_decide Bool.decide_beq_decide decide_eq_decide
attribute [local go_sem] Zaw Zay Zax Zah Zap Zai Bool.and_self Zal Za8 Zba
abbrev gatM (l:QTs):QTs:=sumG ordQ l
theorem ZAo:gatM []=[]:=by simp [gatM,sumG,sumH]
theorem Zlo (t:Rat × List Qt):gatM [t]=if t.1=0 then [] else [t]:=by simp [gatM,sumG,sumH]
theorem ZAn {l:QTs} (h:2≤l.length):gatM l=Zav (gatM (l.take (l.length/2))) (gatM (l.drop (l.length/2))):=by
 match l,h with
 | a :: b :: r,_ =>
   unfold gatM sumG;rw [List.map_take,List.map_drop];show sumH _ (_ :: _ :: r.map _)=_;rw [sumH];simp only [ZCu,ZCj];rfl
theorem Zmv:∀(n:Nat) (l:QTs) {j m:Nat},l.length=n→QK l j m→QK (gatM l) (n*(j+1) - 1) m∧(gatM l).length≤n:=by
 intro n
 induction n using Nat.strongRecOn with
 | _ n ih =>
   intro l j m hl hq
   match n,l,hl with
   | 0,[],_=>rw [ZAo];exact⟨λt ht=>by(cases ht),ZCi _⟩
   | 1,[t],_ =>
     rw [Zlo];split
     ·exact⟨λt ht=>by(cases ht),ZCr _⟩
     ·exact⟨hq.mono zo (ZCi _),by simp⟩
   | n+2,l,hl =>
     rw [ZAn zo];have ht:(l.take (l.length/2)).length=(n+2)/2:=by rw [ZCz];omega
     have hd:(l.drop (l.length/2)).length=n+2 - (n+2)/2:=by rw [ZEj];omega
     obtain⟨a1,a2⟩:=ih _ zo (l.take (l.length/2)) ht (λt h=>hq t (ZDw h));obtain⟨b1,b2⟩:=ih _ zo (l.drop (l.length/2)) hd (λt h=>hq t (ZE2 h));have e:(n+2)*(j+1)=(n+2)/2*(j+1)+(n+2 - (n+2)/2)*(j+1):=by rw [←ZC8];congr 1;omega
     have p1:1*(j+1)≤(n+2)/2*(j+1):=ZCw _ zo;have p2:1*(j+1)≤(n+2 - (n+2)/2)*(j+1):=ZCw _ zo;refine⟨(join_QK a1 b1).mono zo (ZCi _),?_⟩;refine ZCk (Zfo _ _) ?_;omega
def GH (l:QTs) (k m:Nat):Prop:=∀s:QTs,s <:+: l→QK s k m∧QK (gatM s) k m
theorem GH.part {l s:QTs} {k m:Nat} (h:GH l k m) (hs:s <:+: l):GH s k m:=λu hu=>h u (hu.trans hs)
theorem GH.of_qk {l:QTs} {j m:Nat} (h:QK l j m):GH l (l.length*(j+1)+j) m:=λs hs=>by
 have hq:QK s j m:=λt ht=>h t (hs.subset ht);have hl:=hs.length_le;have:=ZCw (j+1) hl;exact⟨hq.mono zo (ZCi _),(Zmv _ s rfl hq).1.mono zo (ZCi _)⟩
theorem Zwa {D B a b:Nat} {l:QTs} (h:NB D B l) (h0:D≠0) (hd:D < 65536 ^ a) (hb:B < 65536 ^ b) {m:Nat} (hm:∀t∈l,t.2.length≤m):QK l (a+b) m :=
 λt ht=>⟨bq_sz (h.bq ht) h0 hd hb,hm t ht⟩
theorem n1_infix {s l:QTs} (h:s <:+: l):n1 s≤n1 l:=by
 obtain⟨a,b,rfl⟩:=h;rw [Zp5,Zp5];omega
theorem Zi6 {l:QTs} {m:Nat} (hm:∀t∈l,t.2.length≤m):∀t∈gatM l,t.2.length≤m:=by
 have:∃j,QK l j m:=by
  induction l with
  | nil=>exact⟨0,λt ht=>by cases ht⟩
  | cons a l ih =>
    obtain⟨j,hj⟩:=ih λt ht=>hm t (.tail _ ht);refine⟨max j (max (toL a.1.num.natAbs).length (toL a.1.den).length),λt ht=>?_⟩;rcases List.mem_cons.1 ht with rfl | ht
    ·exact⟨⟨zo,zo⟩,hm _ (.head _)⟩
    ·exact⟨(hj t ht).1.mono zo,(hj t ht).2⟩
 obtain⟨j,hj⟩:=this;exact λt ht=>((Zmv _ l rfl hj).1 t ht).2
theorem GH.of_nb {D B a b:Nat} {l:QTs} (h:NB D B l) (h0:D≠0) (hd:D < 65536 ^ a) (hb:B < 65536 ^ b) {m:Nat} (hm:∀t∈l,t.2.length≤m):GH l (a+b) m:=λs hs=>by
 have hn:NB D B s:=⟨λt ht=>h.1 t (hs.subset ht),ZCk (n1_infix hs) h.2⟩;have hm2:∀t∈s,t.2.length≤m:=λt ht=>hm t (hs.subset ht);exact⟨Zwa hn h0 hd hb hm2,Zwa (NB.sumG (cmp:=ordQ) hn) h0 hd hb (Zi6 hm2)⟩
theorem Zng:∀(n:Nat) (l:QTs) {j m:Nat},l.length=n→GH l j m→n≤100000000→m≤1000000→j≤900000→Pure prog 71 [qpA l] (qpA (gatM l)):=by
 intro n
 induction n using Nat.strongRecOn with
 | _ n ih =>
   intro l j m hl hG hn hm hj;have hq:=(hG l (List.infix_refl l)).1;have hlm:(l.map qtA).length=n:=by rw [ZCj,hl]
   match n,l,hl with
   | 0,[],_ =>
     clear ih hG;refine Zfg (r:=.v (.slice none 0 0)) ?_ (by rw [ZAo];exact .nil 4);show Pure _ _ [.sl 4 []] _;refine pI func71 rfl ntmps71 results71 call71 ?_
     (refine wkad w_t w_t w_t (w_s ?_);intros)
     all_goals exact gL
   | 1,[t],_ =>
     clear ih hG;obtain⟨ht,-⟩:=hq t (.head _);have cz:=qSign t.1 ht zo;rw [Zlo];by_cases h0:t.1=0
     ·rw [ZCh h0];have hz2:t.1.num.sign=0:=by rw [Zd8];exact h0
      refine Zfg (r:=.v (.slice none 0 0)) ?_ (.nil 4);show Pure _ _ [.sl 4 [qtA t]] _;rw [hz2] at cz;clear hq hz2 h0;obtain⟨t1,t2⟩:=t;simp only at *;generalize t2.map Qt.av=T at *;generalize toL t1.num.natAbs=a at *;generalize toL t1.den=b at *;refine pI func71 rfl ntmps71 results71 call71 ?_
      (refine wkad w_t (w_1 cz) w_t (w_s ?_);intros)
      all_goals exact gL
     ·rw [ZCg h0];have hz2:¬t.1.num.sign=0:=by rw [Zd8];exact h0
      show Pure _ _ [.sl 4 [qtA t]] (.sl 4 [qtA t]);clear hq h0;obtain⟨t1,t2⟩:=t;simp only at *;generalize t1.num.sign=z at *;generalize t2.map Qt.av=T at *;generalize toL t1.num.natAbs=a at *;generalize toL t1.den=b at *;refine pI func71 rfl ntmps71 results71 call71 ?_
      (refine wkad (w_1 hz2) (w_1 cz) w_t (w_s ?_);intros)
      all_goals exact gL
   | n+2,l,hl =>
     rw [ZAn zo];have ht:(l.take (l.length/2)).length=(n+2)/2:=by rw [ZCz];omega
     have hd:(l.drop (l.length/2)).length=n+2 - (n+2)/2:=by rw [ZEj];omega
     have qt:l.take (l.length/2) <:+: l:=(List.take_prefix _ _).isInfix;have qd:l.drop (l.length/2) <:+: l:=(List.drop_suffix _ _).isInfix;have c1:=ih _ zo _ ht (hG.part qt) zo hm hj;have c2:=ih _ zo _ hd (hG.part qd) zo hm hj;obtain⟨q1,a1⟩:=hG _ qt;obtain⟨q2,b1⟩:=hG _ qd;have a2:=(Zmv _ _ ht q1).2;have b2:=(Zmv _ _ hd q2).2;have c3:=rxJoin _ _ a1 b1 zo zo zo zo hm;clear ih a1 b1 a2 b2 qt qd hq hG q1 q2;have m1:(l.take (l.length/2)).map qtA=(l.map qtA).take ((n+2)/2):=by rw [List.map_take,hl]
     have m2:(l.drop (l.length/2)).map qtA=(l.map qtA).drop ((n+2)/2):=by rw [List.map_drop,hl]
     have c1:Pure prog 71 [.sl 4 ((l.map qtA).take ((n+2)/2))] (.sl 4 ((gatM (l.take (l.length/2))).map qtA)):=by rw [←m1];exact c1
     have c2:Pure prog 71 [.sl 4 ((l.map qtA).drop ((n+2)/2))] (.sl 4 ((gatM (l.drop (l.length/2))).map qtA)):=by rw [←m2];exact c2
     have c3:Pure prog 132 [.sl 4 ((gatM (l.take (l.length/2))).map qtA),.sl 4 ((gatM (l.drop (l.length/2))).map qtA)] (.sl 4 ((Zav (gatM (l.take (l.length/2))) (gatM (l.drop (l.length/2)))).map qtA)):=c3;show Pure _ _ [.sl 4 (l.map qtA)] (.sl 4 ((Zav (gatM (l.take (l.length/2))) (gatM (l.drop (l.length/2)))).map qtA));clear m1 m2;generalize (Zav (gatM (l.take (l.length/2))) (gatM (l.drop (l.length/2)))).map qtA=R at *;generalize (gatM (l.take (l.length/2))).map qtA=G1 at *;generalize (gatM (l.drop (l.length/2))).map qtA=G2 at *;generalize l.map qtA=A at *;have htk:A.take (n+2)=A:=ZEb zo
     have hn2:((n+2:Nat):Int).tdiv 2=(((n+2)/2:Nat):Int):=by first|rfl|(rw [Int.tdiv_eq_ediv_of_nonneg zo];omega)
     refine pI func71 rfl ntmps71 results71 call71 ?_
     (refine wkad (w_3 hlm htk hn2) (w_3 c1 c2 c3) (w_1 (w_d 6 [(3,.sl 4 G1),(7,.sl 4 G2),(8,.sl 4 R)] [] [])) (w_s ?_);intros)
     all_goals exact gL
structure RE where
 r:RQ
 q:List Qt
abbrev RE.av (t:RE):AV:=.agg [.v (.bool t.r.s),lim t.r.l,lim t.r.d,qsA t.q]
def RE.ok (t:RE):Bool:=t.r.ok && t.q.all Qt.ok
def sgP (l:List Qt):Int:=l.foldl (λs q=>s*q.norm.2) 1
def nzP (l:List Qt):List Qt:=(l.filter λq=>decide (q.norm.2≠0)).map λq=>q.norm.1
def putP (l:List Qt):List Qt:=(nzP l).foldl (putQ Qt.cmp) []
def RE.t (t:RE):Rat × List Qt:=(t.r.q*(sgP t.q:Rat),putP t.q)
theorem Zth (l:List Qt) (q:Qt):sgP (l++[q])=sgP l*q.norm.2:=by unfold sgP;rw [ZGm];rfl
theorem putP_y (l:List Qt) {q:Qt} (h:q.norm.2≠0):putP (l++[q])=putQ Qt.cmp (putP l) q.norm.1:=by
 unfold putP nzP;rw [ZFe,ZDd,ZGm,ZFo,ZCh (ZCp h)];rfl
theorem putP_n (l:List Qt) {q:Qt} (h:q.norm.2=0):putP (l++[q])=putP l:=by
 unfold putP nzP;rw [ZFe,ZDd,ZGm,ZFo,ZCg (by simp [h])];rfl
theorem Zki (l:List Qt):(putP l).length≤l.length:=by
 unfold putP;rw [(Zfs (cmp:=Qt.cmp) (nzP l) []).length_eq,ZDo];unfold nzP;rw [ZCj];exact ZG5 _ _
theorem Zgi (q:Qt):q.norm.2=-1∨q.norm.2=0∨q.norm.2=1:=by
 unfold Qt.norm Zea Ze9
 repeat' split
 all_goals first|exact .inl rfl|exact .inr (.inl rfl)|exact .inr (.inr rfl)
theorem sg_mul {a b:Int} (ha:a=-1∨a=0∨a=1) (hb:b=-1∨b=0∨b=1):a*b=-1∨a*b=0∨a*b=1:=by
 rcases ha with rfl | rfl | rfl<;>rcases hb with rfl | rfl | rfl<;>decide
theorem Zmh (l:List Qt):sgP l=-1∨sgP l=0∨sgP l=1:=by
 have key:∀(l:List Qt) (s:Int),(s=-1∨s=0∨s=1)→(l.foldl (λs q=>s*q.norm.2) s=-1∨l.foldl (λs q=>s*q.norm.2) s=0∨l.foldl (λs q=>s*q.norm.2) s=1):=by
  intro l
  induction l with
  | nil=>intro s h;exact h
  | cons a l ih=>intro s h;exact ih _ (sg_mul h (Zgi a))
 exact key l 1 (.inr (.inr rfl))
theorem Zl5 {z:Int} (h:z=-1∨z=0∨z=1):Sz (z:Rat) 1:=by
 refine Sz.int ?_ (ZCi _);rcases h with rfl | rfl | rfl
 ·exact Nat.le_of_eq Zc8
 ·show(toL 0).length≤1;rw [Zaz];exact ZCr _
 ·exact Nat.le_of_eq Zc8
theorem qOfS {z:Int} (h:z=-1∨z=0∨z=1):Pure prog 65 [iv z] (ratQ (z:Rat)):=by
 rcases h with rfl | rfl | rfl
 ·exact qOfM
 ·exact qOf 0 zo
 ·exact qOf 1 zo
def nrmR (l:List RE):AV:=if l.all RE.ok=true then qpA (gatM (l.map RE.t)) else .v (.slice none 0 0)
theorem Zhh {α:Type} {p:α→Bool} {l:List α} {i:Nat} (h:i < l.length) (h1:(l.take i).all p=true) (h2:p l[i]=true):(l.take (i+1)).all p=true:=by
 rw [ZFp,ZCs h,List.all_append,h1];simp [h2]
theorem Zkq {α:Type} {p:α→Bool} {l:List α} {i:Nat} (h:i < l.length) (h2:p l[i]=false):l.all p=false:=by
 rw [List.all_eq_false];exact⟨l[i],ZCt h,by simp [h2]⟩
theorem rxNorm (l:List RE) {J:Nat} (hl:l.length≤1000) (hr:∀t∈l,t.r.lm J) (hq:∀t∈l,t.q.length≤1000) (hJ:J≤800):Pure prog 119 [.sl 4 (l.map RE.av)] (nrmR l):=by
 have hlm:(l.map RE.av).length=l.length:=ZCj ..;have hg:∀i (h:i < l.length),(l.map RE.av).getD i .u=RE.av l[i]:=λi h=>Zak RE.av h;generalize l.map RE.av=A at *;refine pI func119 rfl ntmps119 results119 call119 ?_
 (refine wkad (w_1 hlm) w_t w_t (w_s ?_);intros)
 refine Zdj (Frz.nilOwn (d:=3) 75 4 57 (gC)) ?_;refine Zad (ι:=Nat) (λi e m=>i≤l.length∧(l.take i).all RE.ok=true∧e 0=.sl 4 A∧e 4=iv i∧∃sv,e 3=.own 75 sv∧m 75=some (.row sv 57 4 (((l.take i).map RE.t).map qtA) 0)) (λi=>l.length - i) 0 zr ?_ ?_
 ·rintro i e m ⟨hi,ha,e0,e4,sv,e3,m75⟩
  have hol:((((l.take i).map RE.t).map qtA)).length=i:=by rw [ZCj,ZCj,ZCz];omega
  by_cases hlt:i < l.length
  ·have hgi:=hg i hlt;have hri:=hr _ (ZCt hlt);have hqi:=hq _ (ZCt hlt);have hta:((l.take (i+1)).map RE.t).map qtA=((l.take i).map RE.t).map qtA++[qtA l[i].t]:=by rw [ZFp,ZCs hlt,ZDd,ZDd];rfl
   have hok:=Zhh (p:=RE.ok) hlt ha;have hbad:=Zkq (p:=RE.ok) hlt;have hbr:RE.ok l[i]=false→nrmR l=.v (.slice none 0 0):=λh=>by unfold nrmR;rw [hbad h];rfl
   clear hbad hg hr hq ha;generalize l[i]=t at *;generalize nrmR l=NR at *;generalize ((l.take i).map RE.t).map qtA=O at *;obtain⟨r,q⟩:=t;simp only at hri hqi;have hgi:A.getD i .u=.agg [.v (.bool r.s),lim r.l,lim r.d,.sl 4 (q.map Qt.av)]:=hgi;have crq:=Zpm r.s r.l r.d hri.1 hri.2.1 (by have:=hri.2.2.1;omega) (by have:=hri.2.2.2;omega)
   cases hro:r.ok with
   | false =>
     rw [show(RQ.ok ⟨r.s,r.l,r.d⟩)=false from hro] at crq;rw [hbr (by unfold RE.ok;rw [hro];rfl)];clear hbr hok hta;obtain⟨s,x,d⟩:=r;simp only at *;generalize q.map Qt.av=Q at *
     (refine wkad (w_6 e0 e4 e3 m75 hlm hgi) (w_1 crq) w_t (w_s ?_);intros)
     all_goals exact gL
   | true =>
     rw [show(RQ.ok ⟨r.s,r.l,r.d⟩)=true from hro] at crq;have hz:=(RQ.ok_av hri hro).2;have hre:=RQ.ok_eq hri hro;have hqm:(q.map Qt.av).length=q.length:=ZCj ..;have hgq:∀k (h:k < q.length),(q.map Qt.av).getD k .u=Qt.av q[k]:=λk h=>Zak Qt.av h;have hbq:∀k (h:k < q.length),Qt.ok q[k]=false→NR=.v (.slice none 0 0):=λk h h2=>hbr (by unfold RE.ok;rw [Zkq (p:=Qt.ok) h h2,ZGk]);have hqk:q.all Qt.ok=true→RE.ok ⟨r,q⟩=true:=λh=>by unfold RE.ok;rw [hro,h];rfl
     have het:qtA (RE.t ⟨r,q⟩)=.agg [.v (.bool (decide ((r.q*(sgP q:Rat)).num < 0))),lim (toL (r.q*(sgP q:Rat)).num.natAbs),lim (toL (r.q*(sgP q:Rat)).den),.sl 4 ((putP q).map Qt.av)]:=rfl;rw [het] at hta;clear het hbr;generalize hx:r.q=x at *;subst hre;clear hro;simp only at *;generalize hQ:q.map Qt.av=Q at *;have cm:=qMul x (sgP q:Rat) hz (Zl5 (Zmh q)) zo zo;have cs:=qOfS (Zmh q);have cm:Pure prog 69 [.agg [.v (.bool (decide (x.num < 0))),lim (toL x.num.natAbs),lim (toL x.den)],ratQ (sgP q:Rat)] (ratQ (x*(sgP q:Rat))):=cm;generalize hxn:toL x.num.natAbs=xn at *;generalize hxd:toL x.den=xd at *
     generalize hxs:decide (x.num < 0)=xs at *
     (refine wkad (w_6 e0 e4 e3 m75 hlm hgi) (w_1 crq) w_t (w_s ?_);intros)
     refine Zdj (Frz.nil (d:=6) 4 (gC)) ?_;refine Zad (ι:=Nat) (λk e m=>k≤q.length∧(q.take k).all Qt.ok=true∧e 0=.sl 4 A∧e 4=iv i∧e 3=.own 75 sv∧m 75=some (.row sv 57 4 O 0)∧e 5=iv (sgP (q.take k))∧e 6=.sl 4 ((putP (q.take k)).map Qt.av)∧e 7=iv k) (λk=>q.length - k) 0 zr ?_ ?_
     ·rintro k e m ⟨hk,hak,e0,e4,e3,m75,e5,e6,e7⟩
      by_cases hkt:k < q.length
      ·have hgk:=hgq k hkt;have hok2:=Zhh (p:=Qt.ok) hkt hak;have hbk:=hbq k hkt;have htk:q.take (k+1)=q.take k++[q[k]]:=by rw [ZFp,ZCs hkt];rfl
       have s1:=Zth (q.take k) q[k];have s2:=putP_y (q.take k) (q:=q[k]);have s3:=putP_n (q.take k) (q:=q[k]);have hpl:=Zki (q.take k);have htl:(q.take k).length≤1000:=by rw [ZCz];omega
       have hsg:=Zmh (q.take k);have hns:=Zgi q[k];rw [←htk] at s1 s2 s3;have c1:=Zk4 q[k].k q[k].a q[k].b q[k].c;have c2:=Ztm q[k].k q[k].a q[k].b q[k].c;have c3:=rxPut (putP (q.take k)) (q[k].norm).1 zo;clear hgq hbq hqk cm cs hta hok htk hak;generalize q[k]=y at *;generalize hP1:putP (q.take (k+1))=P1 at *;generalize hS1:sgP (q.take (k+1))=S1 at *;generalize putP (q.take k)=P0 at *;generalize sgP (q.take k)=S0 at *;generalize hn1:y.norm.1=nn at *;generalize hn2:y.norm.2=ns at *;obtain⟨y1,y2,y3,y4⟩:=y;simp only at *
       cases hyo:Qt.ok ⟨y1,y2,y3,y4⟩with
       | false =>
         rw [hyo] at c1;rw [hbk hyo];clear s1 s2 s3 c2 c3 hok2 hbk
         (refine wkad (w_11 e0 e4 e3 m75 e5 e6 e7 hlm hgi hqm hgk) (w_1 c1) w_t (w_s ?_);intros)
         all_goals exact gL
       | true =>
         rw [hyo] at c1;have hok3:=hok2 hyo;clear hbk hok2;obtain⟨n1,n2,n3,n4⟩:=nn;by_cases hns0:ns=0
         ·have s3:=s3 hns0;subst s3;subst s1;clear s2 c3;generalize hPA:P1.map Qt.av=PA at *
          (refine wkad (w_12 e0 e4 e3 m75 e5 e6 e7 hlm hgi hqm hgk hns0) (w_2 c1 c2) w_t (w_s ?_);intros)
          exact⟨k+1,⟨zo,hok3,gW e0,gW e4,gW e3,gW m75,by rw [hS1,hns0];exact gC,by rw [hP1,hPA];exact gW e6,gS⟩,zo⟩
         ·have s2:=s2 hns0;subst s2;have hw:IntKind.i64.wrap (S0*ns)=S0*ns:=by rcases sg_mul hsg hns with h | h | h<;>rw [h]<;>rfl
          subst s1;clear s3;have c3:Pure prog 191 [.sl 4 (P0.map Qt.av),.agg [iv n1,iv n2,iv n3,iv n4]] (.sl 4 ((putQ Qt.cmp P0 ⟨n1,n2,n3,n4⟩).map Qt.av)):=c3;generalize hPB:(putQ Qt.cmp P0 ⟨n1,n2,n3,n4⟩).map Qt.av=PB' at *;generalize P0.map Qt.av=PA at *
          (refine wkad (w_13 e0 e4 e3 m75 e5 e6 e7 hlm hgi hqm hgk hns0 hw) (w_3 c1 c2 c3) w_t (w_s ?_);intros)
          exact⟨k+1,⟨zo,hok3,gW e0,gW e4,gW e3,gW m75,by rw [hS1];exact gC,by rw [hP1,hPB];exact gC,gS⟩,zo⟩
      ·have hkl:k=q.length:=zo;subst hkl;rw [ZDu] at hak e5 e6;have hok3:=hok (hqk hak);clear hgq hbq hqk hok;generalize (putP q).map Qt.av=PA at *;generalize hS:sgP q=S0 at *;generalize x*(S0:Rat)=w at *
       (refine wkad (w_11 e0 e4 e3 m75 e5 e6 e7 hlm hgi hqm hol) (w_2 cs cm) (w_1 (w_d 18 [(7,ratQ (S0:Rat)),(8,ratQ w)] [12,1012] [74,75])) (w_s ?_);intros)
       exact⟨i+1,⟨zo,hok3,gW e0,gS,_,gC,by rw [hta];exact gC⟩,zo⟩
     ·exact⟨ZCr _,rfl,gW e0,gW e4,gW e3,gW m75,gC,gC,gC⟩
  ·have hil:i=l.length:=zo;subst hil;rw [ZDu] at m75 ha hol;have hfin:nrmR l=.sl 4 ((gatM (l.map RE.t)).map qtA):=by unfold nrmR;rw [ZCh ha]
   have hqk:QK (l.map RE.t) (J+1) 1000:=λt ht=>by
    obtain⟨u,hu,rfl⟩:=List.mem_map.1 ht
    have hok:u.r.ok=true:=by
     have:=List.all_eq_true.1 ha u hu;unfold RE.ok at this;simp only [ZC2] at this;exact this.1
    have:=hq u hu;have:=Zki u.q;exact⟨(RQ.ok_av (hr u hu) hok).2.mul (Zl5 (Zmh u.q)),by show(putP u.q).length≤1000;omega⟩
   have h1:l.length*(J+1+1)≤1000*(J+1+1):=ZCw _ hl;have cg:=Zng l.length (l.map RE.t) (ZCj ..) (GH.of_qk hqk) zo zo (by rw [ZCj];omega);have cg:Pure prog 71 [.sl 4 ((l.map RE.t).map qtA)] (.sl 4 ((gatM (l.map RE.t)).map qtA)):=cg;rw [hfin];show _;clear hg hr hq hqk ha;generalize (gatM (l.map RE.t)).map qtA=G at *;generalize (l.map RE.t).map qtA=O at *
   (refine wkax (w_6 e0 e4 e3 m75 hlm hol) w_t w_t (w_1 cg) w_t w_t w_y (w_r 0) (w_s ?_);intros)
   all_goals exact gL
 ·exact⟨ZCr _,rfl,gC,gC,_,gC,gC⟩
attribute [go_sem] underlying164 szOpn zOpn szFnR zFnR
attribute [local go_sem] undFnR
abbrev subT (p q:QTs):QTs:=Zav p (q.map λt=>(-t.1,t.2))
structure OpF (f:Nat) (s:Rat):Prop where
 pm:s=1∨s=-1
 ct:∀(a b:Rat) {j k:Nat},Sz a j→Sz b k→j≤1000000→k≤1000000→Pure prog f [ratQ a,ratQ b] (ratQ (a+s*b))
theorem opAdd:OpF 139 1:=⟨.inl rfl,λa b _ _ ha hb hj hk=>by rw [ZGl];exact Zyy a b ha hb zo zo⟩
theorem opSub:OpF 137 (-1):=⟨.inr rfl,λa b _ _ ha hb hj hk=>by
 have:a+-1*b=a - b:=by grind
 rw [this];exact ratSub a b ha hb zo zo⟩
def sclT (s:Rat) (q:QTs):QTs:=q.map λt=>(s*t.1,t.2)
theorem Zco (s:Rat) (q:QTs):(sclT s q).length=q.length:=ZCj ..
theorem Zxz (s:Rat) (q:QTs) {i:Nat} (h:i < q.length):(sclT s q)[i]'(by rw [Zco];exact h)=(s*q[i].1,q[i].2):=ZG6 ..
theorem ZAx (f:Nat) (s:Rat) (op:OpF f s) (p q:QTs) {j k n:Nat} (hp:QK p j n) (hq:QK q k n) (np:∀t∈p,t.1≠0) (nq:∀t∈q,t.1≠0) (lp:p.length≤100000000) (lq:q.length≤100000000) (hj:j≤900000) (hk:k≤900000) (hn:n≤1000000) :
 Pure prog 138 [.agg [.fn f []],qpA p,qpA q] (qpA (Zav p (sclT s q))):=by
 have hz0:ratQ ((0:Nat):Rat)=.agg [.v (.bool false),lim [],lim (toL 1)]:=by
  show AV.agg [.v (.bool (decide ((0:Rat).num < 0))),lim (toL (0:Rat).num.natAbs),lim (toL (0:Rat).den)]=_;rw [show(0:Rat).num=0 from rfl,show(0:Rat).den=1 from rfl,show(0:Int).natAbs=0 from rfl,Zaz];rfl
 have hz1:ratQ (0:Rat)=.agg [.v (.bool false),lim [],lim (toL 1)]:=hz0;have c0:Pure prog 56 [iv 0] (.agg [.v (.bool false),lim [],lim (toL 1)]):=by rw [←hz0];exact Zvw 0 zo
 have sz0:Sz (0:Rat) 1:=Zl5 (.inr (.inl rfl));have hsn:s≠0:=by rcases op.pm with h | h<;>rw [h]<;>decide
 show Pure _ _ [.agg [.fn f []],.sl 4 (p.map qtA),.sl 4 (q.map qtA)] _;refine pI func138 rfl ntmps138 results138 call138 ?_
 (refine wkad w_t (w_1 c0) w_t (w_s ?_);intros)
 rename_i g3 g8;generalize toL 1=one at *;refine Zdj (Frz.nilOwn (d:=7) 79 4 57 (gC)) ?_;refine Zad (ι:=Nat × Nat) (λx e m=>x.1≤p.length∧x.2≤q.length∧e 1=.sl 4 ((p.drop x.1).map qtA)∧e 2=.sl 4 ((q.drop x.2).map qtA)∧e 3=.pbox 3 g3 0∧m 3=some (.box g3 164 [.fn f []] false)∧e 8=.pbox 8 g8 0∧m 8=some (.box g8 54 [.v (.bool false),lim [],lim one] false)∧∃sv out,e 7=.own 79 sv∧m 79=some (.row sv 57 4 (out.map qtA) 0)∧out.length≤x.1+x.2∧Zav p (sclT s q)=out++Zav (p.drop x.1) ((sclT s q).drop x.2)) (λx=>p.length+q.length - (x.1+x.2)) (0,0) zr ?_ ?_
 ·rintro ⟨i,l⟩ e m ⟨hi,hl,e1,e2,e3,m3,e8,m8,sv,out,e7,m79,ho,hs⟩
  simp only at hi hl e1 e2 ho hs;have hlen:(out.map qtA).length=out.length:=ZCj ..;by_cases hi2:i < p.length
  ·have hd:(p.drop i).map qtA=qtA p[i] :: (p.drop (i+1)).map qtA:=by rw [ZEg hi2];rfl
   have hdl:((p.drop (i+1)).map qtA).length=p.length - (i+1):=by rw [ZCj,ZEj]
   have ms:=hp _ (ZCt hi2);have ns:=np _ (ZCt hi2);rw [hd] at e1;have hdp:=hd;clear hd;by_cases hl2:l < q.length
   ·have hd:(q.drop l).map qtA=qtA q[l] :: (q.drop (l+1)).map qtA:=by rw [ZEg hl2];rfl
    have hel:((q.drop (l+1)).map qtA).length=q.length - (l+1):=by rw [ZCj,ZEj]
    have mt:=hq _ (ZCt hl2);have nt:=nq _ (ZCt hl2);have st:=Zqi (p:=p) (q:=sclT s q) hi2 (show l < (sclT s q).length by rw [Zco];exact hl2);rw [Zxz s q hl2] at st;rw [hd] at e2;have hdq:=hd;clear hd hp hq np nq;generalize p[i]=u at *;generalize q[l]=v at *;have cl:=exCmpP u.2 v.2 (by have:=ms.2;omega) (by have:=mt.2;omega);have h3:=Zpv u.2 v.2;have hou:∀x:Rat × List Qt,(out++[x]).map qtA=out.map qtA++[.agg [.v (.bool (decide (x.1.num < 0))),lim (toL x.1.num.natAbs),lim (toL x.1.den),.sl 4 (x.2.map Qt.av)]]:=λx=>by rw [ZDd];rfl
    rw [st] at hs;clear st;have ca1:=op.ct u.1 0 ms.1 sz0 zo zo;have ca2:=op.ct 0 v.1 sz0 mt.1 zo zo;have ca3:=op.ct u.1 v.1 ms.1 mt.1 zo zo;rw [show u.1+s*0=u.1 by rw [ZGu,ZEu],hz1] at ca1;rw [show 0+s*v.1=s*v.1 by rw [ZGr],hz1] at ca2;have hpm:=op.pm;have zs1:=Ze1 u.1 ms.1 zo
    have hsz:Sz (s*v.1) (k+1):=by
     rcases hpm with h | h
     ·rw [h,ZGl];exact mt.1.mono zo
     ·rw [h,show -1*v.1=- v.1 by grind];exact mt.1.neg.mono zo
    have zs2:=Ze1 (s*v.1) hsz zo;have zs3:=Ze1 (u.1+s*v.1) (ms.1.add hsz) zo;have nz1:¬u.1.num.sign=0:=by rw [Zd8];exact ns
    have nz2:¬(s*v.1).num.sign=0:=by rw [Zd8];exact λh=>by rcases Rat.mul_eq_zero.1 h with h | h;exact hsn h;exact nt h
    have hou1:=hou u;have hou2:=hou (s*v.1,v.2);have hou3:=hou (u.1+s*v.1,v.2);clear hou ms mt hsz hpm;obtain⟨u1,u2⟩:=u;obtain⟨v1,v2⟩:=v;simp only at *;have cl:Pure prog 44 [.sl 4 (u2.map Qt.av),.sl 4 (v2.map Qt.av)] (iv (ordQ u2 v2)):=cl;have e1:e 1=.sl 4 (.agg [.v (.bool (decide (u1.num < 0))),lim (toL u1.num.natAbs),lim (toL u1.den),.sl 4 (u2.map Qt.av)] :: (p.drop (i+1)).map qtA):=e1;have hdp:(p.drop i).map qtA=.agg [.v (.bool (decide (u1.num < 0))),lim (toL u1.num.natAbs),lim (toL u1.den),.sl 4 (u2.map Qt.av)] :: (p.drop (i+1)).map qtA:=hdp;have e2:e 2=.sl 4 (.agg [.v (.bool (decide (v1.num < 0))),lim (toL v1.num.natAbs),lim (toL v1.den),.sl 4 (v2.map Qt.av)] :: (q.drop (l+1)).map qtA):=e2
    have hdq:(q.drop l).map qtA=.agg [.v (.bool (decide (v1.num < 0))),lim (toL v1.num.natAbs),lim (toL v1.den),.sl 4 (v2.map Qt.av)] :: (q.drop (l+1)).map qtA:=hdq;have ca1:Pure prog f [.agg [.v (.bool (decide (u1.num < 0))),lim (toL u1.num.natAbs),lim (toL u1.den)],.agg [.v (.bool false),lim [],lim one]] (.agg [.v (.bool (decide (u1.num < 0))),lim (toL u1.num.natAbs),lim (toL u1.den)]):=ca1;have ca2:Pure prog f [.agg [.v (.bool false),lim [],lim one],.agg [.v (.bool (decide (v1.num < 0))),lim (toL v1.num.natAbs),lim (toL v1.den)]] (ratQ (s*v1)):=ca2;have ca3:Pure prog f [.agg [.v (.bool (decide (u1.num < 0))),lim (toL u1.num.natAbs),lim (toL u1.den)],.agg [.v (.bool (decide (v1.num < 0))),lim (toL v1.num.natAbs),lim (toL v1.den)]] (ratQ (u1+s*v1)):=ca3
    have zs1:Pure prog 42 [.agg [.v (.bool (decide (u1.num < 0))),lim (toL u1.num.natAbs),lim (toL u1.den)]] (iv u1.num.sign):=zs1;rcases h3 with⟨h1,h2⟩ | ⟨h1,h2,h4⟩ | ⟨h1,h2,h4⟩
    ·rw [ZCh h2] at hs;rw [h1] at cl;clear ca2 ca3 zs2 zs3 nz2 hou2 hou3 h1 h2;generalize u1.num.sign=z at *;generalize hO:out.map qtA=O at *;generalize hPd:(p.drop (i+1)).map qtA=PD at *;have htp:PD.take (p.length - (i+1))=PD:=ZEb zo;generalize hQd:(q.drop (l+1)).map qtA=QD at *;have htq:QD.take (q.length - (l+1))=QD:=ZEb zo;generalize u2.map Qt.av=U2 at *;generalize v2.map Qt.av=V2 at *
     (refine wkax (w_14 e1 e2 e3 m3 e8 m8 e7 m79 hlen hdl hel htp htq nz1) (w_3 cl ca1 zs1) (w_3 (w_d 8 [(8,iv (-1))] [] []) (w_d 9 [] [] [10,11]) (w_d 12 [] [] [10])) w_t w_t w_t w_y (w_r 0) (w_s ?_);intros)
     refine⟨(i+1,l),⟨by simp only;omega,by simp only;omega,by rw [hPd];exact gC,by rw [hdq];exact gW e2,gW e3,gW m3,gW e8,gW m8,_,out++[(u1,u2)],gC,by rw [hou1];exact gC,by simp only [ZDa,ZCu,ZC6];omega,by rw [hs,ZDv];rfl⟩,by simp only;omega⟩
    ·rw [ZCg h2,ZCg h4] at hs;have huv:u2=v2:=Zbb.eqz _ _ h1;rw [h1] at cl;clear ca1 ca2 zs1 zs2 nz1 nz2 hou1 hou2 h2 h4;by_cases hz:u1+s*v1=0
     ·rw [ZCh hz] at hs;have hz2:(u1+s*v1).num.sign=0:=by rw [Zd8];exact hz
      rw [hz2] at zs3;clear hou3 h1 huv hz hz2;generalize u1+s*v1=w at *;generalize hO:out.map qtA=O at *;generalize hPd:(p.drop (i+1)).map qtA=PD at *;have htp:PD.take (p.length - (i+1))=PD:=ZEb zo;generalize hQd:(q.drop (l+1)).map qtA=QD at *;have htq:QD.take (q.length - (l+1))=QD:=ZEb zo;generalize u2.map Qt.av=U2 at *;generalize v2.map Qt.av=V2 at *
      (refine wkax (w_13 e1 e2 e3 m3 e8 m8 e7 m79 hlen hdl hel htp htq) (w_3 cl ca3 zs3) (w_4 (w_d 8 [(8,iv 0)] [] []) (w_d 9 [] [] [10,11]) (w_d 12 [] [] [10]) (w_d 14 [] [] [11])) w_t w_t w_t w_y (w_r 0) (w_s ?_);intros)
      refine⟨(i+1,l+1),⟨by simp only;omega,by simp only;omega,by rw [hPd];exact gC,by rw [hQd];exact gC,gW e3,gW m3,gW e8,gW m8,_,out,gW e7,by rw [hO];exact gW m79,by simp only;omega,hs⟩,by simp only;omega⟩
     ·rw [ZCg hz] at hs;have hz2:¬(u1+s*v1).num.sign=0:=by rw [Zd8];exact hz
      have hs:Zav p (sclT s q)=out++(u1+s*v1,v2) :: Zav (p.drop (i+1)) ((sclT s q).drop (l+1)):=by rw [←huv];exact hs
      clear h1 huv hz;generalize (u1+s*v1).num.sign=z at *;generalize u1+s*v1=w at *;generalize hO:out.map qtA=O at *;generalize hPd:(p.drop (i+1)).map qtA=PD at *;have htp:PD.take (p.length - (i+1))=PD:=ZEb zo;generalize hQd:(q.drop (l+1)).map qtA=QD at *;have htq:QD.take (q.length - (l+1))=QD:=ZEb zo;generalize u2.map Qt.av=U2 at *;generalize v2.map Qt.av=V2 at *
      (refine wkax (w_14 e1 e2 e3 m3 e8 m8 e7 m79 hlen hdl hel htp htq hz2) (w_3 cl ca3 zs3) (w_4 (w_d 8 [(8,iv 0)] [] []) (w_d 9 [] [] [10,11]) (w_d 12 [] [] [10]) (w_d 14 [] [] [11])) w_t w_t w_t w_y (w_r 0) (w_s ?_);intros)
      refine⟨(i+1,l+1),⟨by simp only;omega,by simp only;omega,by rw [hPd];exact gC,by rw [hQd];exact gC,gW e3,gW m3,gW e8,gW m8,_,out++[(w,v2)],gC,by rw [hou3];exact gC,by simp only [ZDa,ZCu,ZC6];omega,by rw [hs,ZDv];rfl⟩,by simp only;omega⟩
    ·rw [ZCg h2,ZCh h4] at hs;rw [h1] at cl;clear ca1 ca3 zs1 zs3 nz1 hou1 hou3 h1 h2 h4;generalize (s*v1).num.sign=z at *;generalize s*v1=w at *;generalize hO:out.map qtA=O at *;generalize hPd:(p.drop (i+1)).map qtA=PD at *;have htp:PD.take (p.length - (i+1))=PD:=ZEb zo;generalize hQd:(q.drop (l+1)).map qtA=QD at *;have htq:QD.take (q.length - (l+1))=QD:=ZEb zo;generalize u2.map Qt.av=U2 at *;generalize v2.map Qt.av=V2 at *
     (refine wkax (w_14 e1 e2 e3 m3 e8 m8 e7 m79 hlen hdl hel htp htq nz2) (w_3 cl ca2 zs2) (w_3 (w_d 8 [(8,iv 1)] [] []) (w_d 9 [] [] [10,11]) (w_d 14 [] [] [11])) w_t w_t w_t w_y (w_r 0) (w_s ?_);intros)
     refine⟨(i,l+1),⟨by simp only;omega,by simp only;omega,by rw [hdp];exact gW e1,by rw [hQd];exact gC,gW e3,gW m3,gW e8,gW m8,_,out++[(w,v2)],gC,by rw [hou2];exact gC,by simp only [ZDa,ZCu,ZC6];omega,by rw [hs,ZDv];rfl⟩,by simp only;omega⟩
   ·have hl3:l=q.length:=zo;subst hl3;rw [Zfk (.inr (by rw [Zco];exact ZCi _)),ZEx (l:=sclT s q) (by rw [Zco];exact ZCi _),ZDo,ZEg hi2] at hs
    have hs:Zav p (sclT s q)=(out++[p[i]])++Zav (p.drop (i+1)) ((sclT s q).drop q.length):=by
     rw [Zfk (.inr (by rw [Zco];exact ZCi _)),hs,ZEx (l:=sclT s q) (by rw [Zco];exact ZCi _)];simp
    rw [show q.drop q.length=[] from ZEx (ZCi _)] at e2;have e2:e 2=.sl 4 []:=e2;have hq0:(q.drop q.length).map qtA=[]:=by rw [ZEx (ZCi _)];rfl
    clear hp hq np nq;generalize p[i]=u at *;have hou1:(out++[u]).map qtA=out.map qtA++[.agg [.v (.bool (decide (u.1.num < 0))),lim (toL u.1.num.natAbs),lim (toL u.1.den),.sl 4 (u.2.map Qt.av)]]:=by rw [ZDd];rfl
    have ca1:=op.ct u.1 0 ms.1 sz0 zo zo;rw [show u.1+s*0=u.1 by rw [ZGu,ZEu],hz1] at ca1;have zs1:=Ze1 u.1 ms.1 zo;have nz1:¬u.1.num.sign=0:=by rw [Zd8];exact ns
    obtain⟨u1,u2⟩:=u;simp only at *;have e1:e 1=.sl 4 (.agg [.v (.bool (decide (u1.num < 0))),lim (toL u1.num.natAbs),lim (toL u1.den),.sl 4 (u2.map Qt.av)] :: (p.drop (i+1)).map qtA):=e1;have hdp:(p.drop i).map qtA=.agg [.v (.bool (decide (u1.num < 0))),lim (toL u1.num.natAbs),lim (toL u1.den),.sl 4 (u2.map Qt.av)] :: (p.drop (i+1)).map qtA:=hdp;have ca1:Pure prog f [.agg [.v (.bool (decide (u1.num < 0))),lim (toL u1.num.natAbs),lim (toL u1.den)],.agg [.v (.bool false),lim [],lim one]] (.agg [.v (.bool (decide (u1.num < 0))),lim (toL u1.num.natAbs),lim (toL u1.den)]):=ca1;have zs1:Pure prog 42 [.agg [.v (.bool (decide (u1.num < 0))),lim (toL u1.num.natAbs),lim (toL u1.den)]] (iv u1.num.sign):=zs1
    generalize u1.num.sign=z at *;generalize hO:out.map qtA=O at *;generalize hPd:(p.drop (i+1)).map qtA=PD at *;have htp:PD.take (p.length - (i+1))=PD:=ZEb zo;generalize u2.map Qt.av=U2 at *
    (refine wkad (w_12 e1 e2 e3 m3 e8 m8 e7 m79 hlen hdl htp nz1) (w_2 ca1 zs1) (w_2 (w_d 9 [] [] [10,11]) (w_d 12 [] [] [10])) (w_s ?_);intros)
    refine⟨(i+1,q.length),⟨by simp only;omega,by simp only;omega,by rw [hPd];exact gC,by rw [hq0];exact gW e2,gW e3,gW m3,gW e8,gW m8,_,out++[(u1,u2)],gC,by rw [hou1];exact gC,by simp only [ZDa,ZCu,ZC6];omega,hs⟩,by simp only;omega⟩
  ·have hi3:i=p.length:=zo;subst hi3;rw [show p.drop p.length=[] from ZEx (ZCi _)] at e1;have e1:e 1=.sl 4 []:=e1;have hp0:(p.drop p.length).map qtA=[]:=by rw [ZEx (ZCi _)];rfl
   by_cases hl2:l < q.length
   ·have hd:(q.drop l).map qtA=qtA q[l] :: (q.drop (l+1)).map qtA:=by rw [ZEg hl2];rfl
    have hel:((q.drop (l+1)).map qtA).length=q.length - (l+1):=by rw [ZCj,ZEj]
    have mt:=hq _ (ZCt hl2);have nt:=nq _ (ZCt hl2);rw [hd] at e2;have hdq:=hd;have hsl:(sclT s q).drop l=(s*q[l].1,q[l].2) :: (sclT s q).drop (l+1):=by rw [ZEg (by rw [Zco];exact hl2),Zxz s q hl2]
    rw [Zfk (.inl (ZCi _)),ZEx (ZCi _),ZFu,hsl] at hs
    have hs:Zav p (sclT s q)=(out++[(s*q[l].1,q[l].2)])++Zav (p.drop p.length) ((sclT s q).drop (l+1)):=by
     rw [Zfk (.inl (ZCi _)),hs,ZEx (l:=p) (ZCi _)];simp
    clear hd hsl hp hq np nq;generalize q[l]=v at *;have ca2:=op.ct 0 v.1 sz0 mt.1 zo zo;rw [show 0+s*v.1=s*v.1 by rw [ZGr],hz1] at ca2;have hpm:=op.pm
    have hsz:Sz (s*v.1) (k+1):=by
     rcases hpm with h | h
     ·rw [h,ZGl];exact mt.1.mono zo
     ·rw [h,show -1*v.1=- v.1 by grind];exact mt.1.neg.mono zo
    have zs2:=Ze1 (s*v.1) hsz zo;have nz2:¬(s*v.1).num.sign=0:=by rw [Zd8];exact λh=>by rcases Rat.mul_eq_zero.1 h with h | h;exact hsn h;exact nt h
    have hou2:(out++[(s*v.1,v.2)]).map qtA=out.map qtA++[.agg [.v (.bool (decide ((s*v.1).num < 0))),lim (toL (s*v.1).num.natAbs),lim (toL (s*v.1).den),.sl 4 (v.2.map Qt.av)]]:=by rw [ZDd];rfl
    clear mt nt hsz hpm;obtain⟨v1,v2⟩:=v;simp only at *;have e2:e 2=.sl 4 (.agg [.v (.bool (decide (v1.num < 0))),lim (toL v1.num.natAbs),lim (toL v1.den),.sl 4 (v2.map Qt.av)] :: (q.drop (l+1)).map qtA):=e2;have hdq:(q.drop l).map qtA=.agg [.v (.bool (decide (v1.num < 0))),lim (toL v1.num.natAbs),lim (toL v1.den),.sl 4 (v2.map Qt.av)] :: (q.drop (l+1)).map qtA:=hdq;have ca2:Pure prog f [.agg [.v (.bool false),lim [],lim one],.agg [.v (.bool (decide (v1.num < 0))),lim (toL v1.num.natAbs),lim (toL v1.den)]] (ratQ (s*v1)):=ca2;generalize (s*v1).num.sign=z at *;generalize s*v1=w at *;generalize hO:out.map qtA=O at *
    generalize hQd:(q.drop (l+1)).map qtA=QD at *;have htq:QD.take (q.length - (l+1))=QD:=ZEb zo;generalize v2.map Qt.av=V2 at *
    (refine wkad (w_12 e1 e2 e3 m3 e8 m8 e7 m79 hlen hel htq nz2) (w_2 ca2 zs2) (w_2 (w_d 9 [] [] [10,11]) (w_d 14 [] [] [11])) (w_s ?_);intros)
    refine⟨(p.length,l+1),⟨by simp only;omega,by simp only;omega,by rw [hp0];exact gW e1,by rw [hQd];exact gC,gW e3,gW m3,gW e8,gW m8,_,out++[(w,v2)],gC,by rw [hou2];exact gC,by simp only [ZDa,ZCu,ZC6];omega,hs⟩,by simp only;omega⟩
   ·have hl3:l=q.length:=zo;subst hl3;rw [show q.drop q.length=[] from ZEx (ZCi _)] at e2;have e2:e 2=.sl 4 []:=e2;rw [Zfk (.inl (ZCi _)),ZEx (ZCi _),ZEx (l:=sclT s q) (by rw [Zco];exact ZCi _),ZDo,ZDo] at hs;rw [hs];clear hp hq np nq hs;generalize hO:out.map qtA=O at *;rw [show qpA out=.sl 4 O from ZD2 _ hO]
    (refine wkad (w_9 e1 e2 e3 m3 e8 m8 e7 m79 hlen) w_t w_t (w_s ?_);intros)
    all_goals exact gM (w_1 m79)
 ·exact⟨ZCr _,ZCr _,gC,gC,gC,gC,gC,gC,_,[],gC,gC,ZCr _,by simp⟩
end Go.Proofs.YtpkcophcldjboaaGreatDoor
namespace Go.Pol
open Go.Sort
def ltC {α:Type} (cmp:α→α→Int) (x y:α):Bool:=decide (cmp x y < 0)
theorem Zt6 {α β:Type} {cmp:α→α→Int} (o:CO cmp) (f:β→α):∀{l m:List β},(∀s∈l,∀t∈l,f s=f t→s=t)→(l.Pairwise λs t=>cmp (f s) (f t)≤0)→(m.Pairwise λs t=>cmp (f s) (f t)≤0)→l.Perm m→l=m
 | [],m,_,_,_,p=>(List.nil_perm.1 p).symm
 | a :: l,[],_,_,_,p=>by have:=p.length_eq;simp at this
 | a :: l,b :: m,hi,hl,hm,p=>by
   have hl':=List.pairwise_cons.1 hl;have hm':=List.pairwise_cons.1 hm
   have hab:a=b:=by
    have h1:a∈b :: m:=p.mem_iff.1 (.head _);have h2:b∈a :: l:=p.mem_iff.2 (.head _);rcases List.mem_cons.1 h1 with h | h1
    ·exact h
    ·rcases List.mem_cons.1 h2 with h | h2
     ·exact h.symm
     ·exact hi a (.head _) b (.tail _ h2) (o.anti (hl'.1 b h2) (hm'.1 a h1))
   subst hab;rw [Zt6 o f (λs hs t ht=>hi s (.tail _ hs) t (.tail _ ht)) hl'.2 hm'.2 (List.Perm.cons_inv p)]
theorem dst_inj {κ:Type} {l:List (Rat × κ)} (h:Dst l):∀s∈l,∀t∈l,s.2=t.2→s=t:=by
 induction l with
 | nil=>intro s hs;cases hs
 | cons a l ih =>
   have h':=List.pairwise_cons.1 h;intro s hs t ht e;rcases List.mem_cons.1 hs with rfl | hs
   ·rcases List.mem_cons.1 ht with rfl | ht
    ·rfl
    ·exact absurd e (h'.1 t ht)
   ·rcases List.mem_cons.1 ht with ht | ht
    ·rw [ht] at e;exact absurd e.symm (h'.1 s hs)
    ·exact ih h'.2 s hs t ht e
section
variable {α:Type} {β:Type} (f:α→β)
variable [Inhabited α]
end
section
variable {α:Type} [Inhabited α] {lt:α→α→Bool}
theorem bitsLen_256 {x:Nat} (h:256≤x):bitsLen x=8+bitsLen (x/256):=by
 have h1:=lt_two_pow_bitsLen x;have h2:=lt_two_pow_bitsLen (x/256)
 have h3:8 < bitsLen x:=by
  rcases ZC5 8 (bitsLen x) with h | h
  ·exact h
  ·have:=(bitsLen_le_iff x 8).1 h;omega
 have a:bitsLen x≤8+bitsLen (x/256):=(bitsLen_le_iff _ _).2 (by rw [ZDj];omega);have b:bitsLen (x/256)≤bitsLen x - 8:=(bitsLen_le_iff _ _).2 (by
  obtain⟨m,hm⟩:∃m,bitsLen x=8+m:=⟨bitsLen x - 8,zo⟩;rw [hm] at h1 ⊢;rw [ZDj] at h1;rw [show 8+m - 8=m by omega];exact Nat.div_lt_of_lt_mul h1)
 omega
def hintN (n:Nat):Hint:=if n=0 then .increasing else if n=12 then .decreasing else .unknown
section
variable {d d1 d2:Array α} {a b lim lim1 pv:Nat} {wb wp:Bool} {c:Nat × Hint} {hint:Hint} {pi:Array α × Bool}
end
end
end Go.Pol
namespace Go.Proofs.YtpkcophcldjboaaGreatDoor
open Go Go.RowKit Go.Pg Go.Pol Go.Proofs.Tryz
attribute [-bool_to_prop] Bool.and_eq_decide Bool.or_eq_decide Bool.decide_beq_decide decide_eq_decide
theorem Zcu {P:Program} {t:TypeId} {w:World} (h:(P.underlying t).map Zf4=some false):(isAgg t).run P w=.ok false w:=by
 obtain⟨d,hd,h⟩:=Option.map_eq_some_iff.1 h;simp only [isAgg,ZC1,ZC4 hd,ZC0];cases d<;>first|rfl|cases h
theorem ag_st {P:Program} {t:TypeId} {w:World} (h:(P.underlying t).map Zf4=some true):(isAgg t).run P w=.ok true w:=by
 obtain⟨d,hd,h⟩:=Option.map_eq_some_iff.1 h;simp only [isAgg,ZC1,ZC4 hd,ZC0];cases d<;>first|rfl|cases h
def sqR:Go.Shelf.Ren:=⟨fun | 14=>113 | 15=>114 | 20=>180 | 21=>181 | 22=>182 | 23=>183 | 24=>184 | 25=>185 | 26=>186 | 27=>187 | 28=>188 | 29=>189 | 46=>226 | 47=>227 | 48=>228 | 49=>229 | 50=>230 | 57=>253 | n=>n,fun | 0=>0 | 3=>3 | 4=>4 | 5=>5 | 9=>9 | 22=>55 | 24=>39 | 25=>89 | 39=>149 | 45=>191 | 46=>192 | 50=>169 | 53=>198 | 55=>160 | 66=>227 | 70=>231 | 76=>247 | 77=>248 | n=>n,λn=>n⟩
theorem sqL:Go.Proofs.SlLaysF0.n14 prog sqR:={
 mixed:=by kernel_rfl
 f14:=⟨f113.name,by decide,by kernel_rfl⟩
 f15:=by kernel_rfl
 f20:=⟨f180.name,by decide,by kernel_rfl⟩
 f21:=⟨f181.name,by decide,by kernel_rfl⟩
 f22:=⟨f182.name,by decide,by kernel_rfl⟩
 f23:=⟨f183.name,by decide,by kernel_rfl⟩
 f24:=⟨f184.name,by decide,by kernel_rfl⟩
 f25:=⟨f185.name,by decide,by kernel_rfl⟩
 f26:=⟨f186.name,by decide,by kernel_rfl⟩
 f27:=⟨f187.name,by decide,by kernel_rfl⟩
 f28:=by kernel_rfl
 f29:=by kernel_rfl
 f46:=⟨f226.name,by decide,by kernel_rfl⟩
 f47:=by kernel_rfl
 f48:=by kernel_rfl
 f49:=⟨f229.name,by decide,by kernel_rfl⟩
 f50:=⟨f230.name,by decide,by kernel_rfl⟩
 f57:=⟨f253.name,by decide,by kernel_rfl⟩
 t0:=by kernel_rfl
 a0:=λ_=>Zcu (t:=0) zk
 z0:=λ_=>Zac zk
 v0:=λ_=>Zab zk
 t3:=by kernel_rfl
 a3:=λ_=>Zcu (t:=3) zk
 z3:=λ_=>Zac zk
 v3:=λ_=>Zab zk
 t4:=by kernel_rfl
 a4:=λ_=>Zcu (t:=4) zk
 z4:=λ_=>Zac zk
 v4:=λ_=>Zab zk
 t5:=by kernel_rfl
 a5:=λ_=>Zcu (t:=5) zk
 z5:=λ_=>Zac zk
 v5:=λ_=>Zab zk
 t9:=by kernel_rfl
 a9:=λ_=>Zcu (t:=9) zk
 z9:=λ_=>Zac zk
 v9:=λ_=>Zab zk
 t22:=by kernel_rfl
 a22:=λ_=>Zcu (t:=55) zk
 z22:=λ_=>Zac zk
 v22:=λ_=>Zab zk
 t25:=by kernel_rfl
 a25:=λ_=>Zcu (t:=89) zk
 z25:=λ_=>Zac zk
 v25:=λ_=>Zab zk
 t39:=by kernel_rfl
 a39:=λ_=>Zcu (t:=149) zk
 z39:=λ_=>Zac zk
 v39:=λ_=>Zab zk
 t45:=by kernel_rfl
 a45:=λ_=>Zcu (t:=191) zk
 z45:=λ_=>Zac zk
 v45:=λ_=>Zab zk
 t46:=by kernel_rfl
 a46:=λ_=>Zcu (t:=192) zk
 z46:=λ_=>Zac zk
 v46:=λ_=>Zab zk
 t50:=by kernel_rfl
 a50:=λ_=>Zcu (t:=169) zk
 z50:=λ_=>Zac zk
 v50:=λ_=>Zab zk
 t53:=by kernel_rfl
 a53:=λ_=>Zcu (t:=198) zk
 z53:=λ_=>Zac zk
 v53:=λ_=>Zab zk
 t55:=by kernel_rfl
 a55:=λ_=>Zcu (t:=160) zk
 z55:=λ_=>Zac zk
 v55:=λ_=>Zab zk
 t66:=by kernel_rfl
 a66:=λ_=>Zcu (t:=227) zk
 z66:=λ_=>Zac zk
 v66:=λ_=>Zab zk
 t70:=by kernel_rfl
 a70:=λ_=>Zcu (t:=231) zk
 z70:=λ_=>Zac zk
 v70:=λ_=>Zab zk
 t76:=by kernel_rfl
 a76:=λ_=>Zcu (t:=247) zk
 z76:=λ_=>Zac zk
 v76:=λ_=>Zab zk
 t77:=by kernel_rfl
 a77:=λ_=>Zcu (t:=248) zk
 z77:=λ_=>Zac zk
 v77:=λ_=>Zab zk
}
def stR:Go.Shelf.Ren:=⟨fun | 14=>211 | 15=>114 | 20=>238 | 21=>239 | 22=>240 | 23=>241 | 24=>242 | 25=>243 | 26=>244 | 27=>245 | 28=>188 | 29=>189 | 46=>256 | 47=>227 | 48=>228 | 49=>257 | 50=>258 | 57=>264 | n=>n,fun | 0=>0 | 3=>3 | 4=>4 | 5=>5 | 9=>9 | 22=>26 | 24=>57 | 25=>172 | 39=>149 | 45=>191 | 46=>192 | 50=>169 | 53=>198 | 55=>160 | 66=>227 | 70=>231 | 76=>247 | 77=>248 | n=>n,λn=>n⟩
theorem stL:Go.Proofs.SlLaysF0.n14 prog stR:={
 mixed:=by kernel_rfl
 f14:=⟨f211.name,by decide,by kernel_rfl⟩
 f15:=by kernel_rfl
 f20:=⟨f238.name,by decide,by kernel_rfl⟩
 f21:=⟨f239.name,by decide,by kernel_rfl⟩
 f22:=⟨f240.name,by decide,by kernel_rfl⟩
 f23:=⟨f241.name,by decide,by kernel_rfl⟩
 f24:=⟨f242.name,by decide,by kernel_rfl⟩
 f25:=⟨f243.name,by decide,by kernel_rfl⟩
 f26:=⟨f244.name,by decide,by kernel_rfl⟩
 f27:=⟨f245.name,by decide,by kernel_rfl⟩
 f28:=by kernel_rfl
 f29:=by kernel_rfl
 f46:=⟨f256.name,by decide,by kernel_rfl⟩
 f47:=by kernel_rfl
 f48:=by kernel_rfl
 f49:=⟨f257.name,by decide,by kernel_rfl⟩
 f50:=⟨f258.name,by decide,by kernel_rfl⟩
 f57:=⟨f264.name,by decide,by kernel_rfl⟩
 t0:=by kernel_rfl
 a0:=λ_=>Zcu (t:=0) zk
 z0:=λ_=>Zac zk
 v0:=λ_=>Zab zk
 t3:=by kernel_rfl
 a3:=λ_=>Zcu (t:=3) zk
 z3:=λ_=>Zac zk
 v3:=λ_=>Zab zk
 t4:=by kernel_rfl
 a4:=λ_=>Zcu (t:=4) zk
 z4:=λ_=>Zac zk
 v4:=λ_=>Zab zk
 t5:=by kernel_rfl
 a5:=λ_=>Zcu (t:=5) zk
 z5:=λ_=>Zac zk
 v5:=λ_=>Zab zk
 t9:=by kernel_rfl
 a9:=λ_=>Zcu (t:=9) zk
 z9:=λ_=>Zac zk
 v9:=λ_=>Zab zk
 t22:=by kernel_rfl
 a22:=λ_=>Zcu (t:=26) zk
 z22:=λ_=>Zac zk
 v22:=λ_=>Zab zk
 t25:=by kernel_rfl
 a25:=λ_=>Zcu (t:=172) zk
 z25:=λ_=>Zac zk
 v25:=λ_=>Zab zk
 t39:=by kernel_rfl
 a39:=λ_=>Zcu (t:=149) zk
 z39:=λ_=>Zac zk
 v39:=λ_=>Zab zk
 t45:=by kernel_rfl
 a45:=λ_=>Zcu (t:=191) zk
 z45:=λ_=>Zac zk
 v45:=λ_=>Zab zk
 t46:=by kernel_rfl
 a46:=λ_=>Zcu (t:=192) zk
 z46:=λ_=>Zac zk
 v46:=λ_=>Zab zk
 t50:=by kernel_rfl
 a50:=λ_=>Zcu (t:=169) zk
 z50:=λ_=>Zac zk
 v50:=λ_=>Zab zk
 t53:=by kernel_rfl
 a53:=λ_=>Zcu (t:=198) zk
 z53:=λ_=>Zac zk
 v53:=λ_=>Zab zk
 t55:=by kernel_rfl
 a55:=λ_=>Zcu (t:=160) zk
 z55:=λ_=>Zac zk
 v55:=λ_=>Zab zk
 t66:=by kernel_rfl
 a66:=λ_=>Zcu (t:=227) zk
 z66:=λ_=>Zac zk
 v66:=λ_=>Zab zk
 t70:=by kernel_rfl
 a70:=λ_=>Zcu (t:=231) zk
 z70:=λ_=>Zac zk
 v70:=λ_=>Zab zk
 t76:=by kernel_rfl
 a76:=λ_=>Zcu (t:=247) zk
 z76:=λ_=>Zac zk
 v76:=λ_=>Zab zk
 t77:=by kernel_rfl
 a77:=λ_=>Zcu (t:=248) zk
 z77:=λ_=>Zac zk
 v77:=λ_=>Zab zk
}
theorem co_h1 {α:Type} {cmp:α→α→Int} (o:CO cmp) (x y:α):cmp x x=0∧(cmp x y < 0↔0 < cmp y x):=⟨o.refl x,o.flip x y⟩
theorem co_h2 {α:Type} {cmp:α→α→Int} (o:CO cmp) (a b c:α) (h1:cmp a b≤0) (h2:cmp b c≤0):cmp a c≤0:=o.le_tr h1 h2
theorem sqPdqK (σ:Mem) (K:Nat) (sv:Value) (L:List Qt) (lm:Nat) (hK:σ K=some (.row sv 39 4 (L.map Qt.av) 0)) (hl:L.length≤1000000000) (hlim:lm≤1000000000):ACall prog 113 [.own K sv,iv 0,iv L.length,iv lm,.fn 43 []] σ λr σ'=>r=.tup []∧σ'=upd σ K (some (.row sv 39 4 ((srtQ Qt.cmp L).map Qt.av) 0)):=by
 refine(Zmf sqL (k:=4) (λ_=>ag_st (t:=39) zk) (λ_=>Zac zk) zo (λq:Qt=>[iv q.k,iv q.a,iv q.b,iv q.c]) Qt.cmp (g:=43) L (λ_=>rfl) hK zo (co_h1 qtO) (co_h2 qtO) (λx _ y _=>quCmp x.k x.a x.b x.c y.k y.a y.b y.c) call113 lm zo λp cap w=>Go.Proofs.AnyF.pdqsortCmpFunc_none sqL p cap lm _ w).mono λr σ' h=>?_;obtain⟨l',hp,hs,rfl,rfl⟩:=h;have e:l'=srtQ Qt.cmp L:=Ze8 qtO hs (Zby qtO.cp _) (hp.trans (Za3 _).symm);rw [e];exact⟨rfl,rfl⟩
theorem stPdqK (σ:Mem) (K:Nat) (sv:Value) (L:List (Rat × List Qt)) (lm:Nat) (hK:σ K=some (.row sv 57 4 (L.map qtA) 0)) (hl:L.length≤1000000000) (hq:∀t∈L,t.2.length≤1000000) (hd:Dst L) (hlim:lm≤1000000000):ACall prog 211 [.own K sv,iv 0,iv L.length,iv lm,.fn 154 []] σ λr σ'=>r=.tup []∧σ'=upd σ K (some (.row sv 57 4 ((srtQ ordT L).map qtA) 0)):=by
 refine(Zmf stL (k:=4) (λ_=>ag_st (t:=57) zk) (λ_=>Zac zk) zo (λt:Rat × List Qt=>[.v (.bool (decide (t.1.num < 0))),lim (toL t.1.num.natAbs),lim (toL t.1.den),.sl 4 (t.2.map Qt.av)]) ordT (g:=154) L (λ_=>rfl) hK zo (λs t=>co_h1 Zbb s.2 t.2) (λs t u=>co_h2 Zbb s.2 t.2 u.2) (λs hs t ht=>exCmpT s t (hq s hs) (hq t ht)) call211 lm zo λp cap w=>Go.Proofs.AnyF.pdqsortCmpFunc_none stL p cap lm _ w).mono λr σ' h=>?_;obtain⟨l',hp,hs,rfl,rfl⟩:=h;have e:l'=srtQ ordT L:=Zt6 Zbb (λs:Rat × List Qt=>s.2) (λs hs' t ht' e=>dst_inj hd s (hp.mem_iff.1 hs') t (hp.mem_iff.1 ht') e) hs (Zby (Zbb.cp.key λs:Rat × List Qt=>s.2) L) (hp.trans (Za3 _).symm)
 rw [e];exact⟨rfl,rfl⟩
attribute [go_sem] underlying227 underlying247 szXs byXs zXs
theorem Zrc (a:Nat) (s:Nat) (hs:s < 64):shrI .u64 (a:Int) (s:Int)=((a/2 ^ s:Nat):Int):=by
 unfold shrI;rw [show min ((s:Int).toNat) IntKind.u64.bits=s by rw [ZE9];exact ZE1 (by show s≤64;omega),ZHx _ (Int.le_of_lt (Int.pow_pos zd))];simp
def hintI:Go.Sort.Hint→Int
 | .unknown=>0
 | .increasing=>1
 | .decreasing=>2
abbrev u64A (n:Nat):AV:=.v (.int .u64 (n:Int))
theorem Zn4 (i:Nat):len8 i=Go.Sort.bitsLen i:=rfl
theorem bLen64 (x:Nat) (hx:x≤1000000000):Pure prog 189 [u64A x] (iv (Go.Sort.bitsLen x:Nat)):=by
 have n32:¬(4294967296:Int)≤(x:Int):=zo;by_cases h16:65536≤x
 ·have g16:(65536:Int)≤(x:Int):=zo;have b1:=Go.Pol.bitsLen_256 (x:=x) zo;have b2:=Go.Pol.bitsLen_256 (x:=x/256) zo;rw [ZHj] at b2;have b2:Go.Sort.bitsLen (x/256)=8+Go.Sort.bitsLen (x/65536):=b2;have s16:shrI .u64 (x:Int) 16=((x/65536:Nat):Int):=Zrc x 16 zo;have hy:x/65536≤15258:=zo;rw [b1,b2];clear b1 b2;generalize x/65536=y at *;have s8:shrI .u64 (y:Int) 8=((y/256:Nat):Int):=Zrc y 8 zo;by_cases h8:256≤y
  ·have g8:(256:Int)≤(y:Int):=zo;rw [Go.Pol.bitsLen_256 h8];have hz:y/256 < 256:=zo;generalize y/256=z at *;rw [←Zn4];have b:=Zgj hz;refine pI func189 rfl ntmps189 results189 call189 ?_
   (repeat' (first|(apply Zrz (g:=len8) (n:=256) zk zk zo)|(with_reducible first|refine stp ?_|apply gx1|apply gx2|apply gx3|apply gx4|apply gx5|apply gx6|apply gx7)|(with_reducible refine Zcn ?_;intro _)|((with_reducible refine gE ?_);(try simp (disch:=omega) only [go_sem,n32,g16,s16,s8,g8])<;>first|rfl|omega)|with_reducible refine Zam zd ?_))
   (all_goals (try simp (disch:=omega) only [go_sem,ZCp,ZCq,ZCh,ZCg,Int.reduceAdd,Int.reduceSub,Int.reduceToNat,ZC3]));(all_goals first|done|rfl|(congr 2;first|done|omega|(rw [ZDg];simp only [bool_to_prop,ZCy,ZDy,ZDz,ZD0,ZD1];omega))|skip)
  ·have g8:¬(256:Int)≤(y:Int):=zo;rw [←Zn4];have b:=Zgj (i:=y) zo;refine pI func189 rfl ntmps189 results189 call189 ?_
   (repeat' (first|(apply Zrz (g:=len8) (n:=256) zk zk zo)|(with_reducible first|refine stp ?_|apply gx1|apply gx2|apply gx3|apply gx4|apply gx5|apply gx6|apply gx7)|(with_reducible refine Zcn ?_;intro _)|((with_reducible refine gE ?_);(try simp (disch:=omega) only [go_sem,n32,g16,s16,s8,g8])<;>first|rfl|omega)|with_reducible refine Zam zd ?_))
   (all_goals (try simp (disch:=omega) only [go_sem,ZCp,ZCq,ZCh,ZCg,Int.reduceAdd,Int.reduceSub,Int.reduceToNat,ZC3]));(all_goals first|done|rfl|(congr 2;first|done|omega|(rw [ZDg];simp only [bool_to_prop,ZCy,ZDy,ZDz,ZD0,ZD1];omega))|skip)
 ·have g16:¬(65536:Int)≤(x:Int):=zo;have s8:shrI .u64 (x:Int) 8=((x/256:Nat):Int):=Zrc x 8 zo;by_cases h8:256≤x
  ·have g8:(256:Int)≤(x:Int):=zo;rw [Go.Pol.bitsLen_256 h8];have hz:x/256 < 256:=zo;generalize x/256=z at *;rw [←Zn4];have b:=Zgj hz;refine pI func189 rfl ntmps189 results189 call189 ?_
   (repeat' (first|(apply Zrz (g:=len8) (n:=256) zk zk zo)|(with_reducible first|refine stp ?_|apply gx1|apply gx2|apply gx3|apply gx4|apply gx5|apply gx6|apply gx7)|(with_reducible refine Zcn ?_;intro _)|((with_reducible refine gE ?_);(try simp (disch:=omega) only [go_sem,n32,g16,s8,g8])<;>first|rfl|omega)|with_reducible refine Zam zd ?_))
   (all_goals (try simp (disch:=omega) only [go_sem,ZCp,ZCq,ZCh,ZCg,Int.reduceAdd,Int.reduceSub,Int.reduceToNat,ZC3]));(all_goals first|done|rfl|(congr 2;first|done|omega|(rw [ZDg];simp only [bool_to_prop,ZCy,ZDy,ZDz,ZD0,ZD1];omega))|skip)
  ·have g8:¬(256:Int)≤(x:Int):=zo;rw [←Zn4];have b:=Zgj (i:=x) zo;refine pI func189 rfl ntmps189 results189 call189 ?_
   (repeat' (first|(apply Zrz (g:=len8) (n:=256) zk zk zo)|(with_reducible first|refine stp ?_|apply gx1|apply gx2|apply gx3|apply gx4|apply gx5|apply gx6|apply gx7)|(with_reducible refine Zcn ?_;intro _)|((with_reducible refine gE ?_);(try simp (disch:=omega) only [go_sem,n32,g16,s8,g8])<;>first|rfl|omega)|with_reducible refine Zam zd ?_))
   (all_goals (try simp (disch:=omega) only [go_sem,ZCp,ZCq,ZCh,ZCg,Int.reduceAdd,Int.reduceSub,Int.reduceToNat,ZC3]));(all_goals first|done|rfl|(congr 2;first|done|omega|(rw [ZDg];simp only [bool_to_prop,ZCy,ZDy,ZDz,ZD0,ZD1];omega))|skip)
theorem bLen (x:Nat) (hx:x≤1000000000):Pure prog 114 [u64A x] (iv (Go.Sort.bitsLen x:Nat)):=by
 have c:=bLen64 x hx;generalize ((Go.Sort.bitsLen x:Nat):Int)=r at *;refine pI func114 rfl ntmps114 results114 call114 ?_
 (refine wkap w_t (w_1 c) (w_r 0) (w_s ?_);intros)
 all_goals exact gL
theorem Zm3 {x:Nat} (h:x≤1000000000):Go.Sort.bitsLen x≤30:=(Go.Sort.bitsLen_le_iff x 30).2 zo
attribute [local go_sem] Zah Zap Zai Bool.and_self Zal Za8 Zba
theorem Zxt (σ:Mem) (K:Nat) (sv:Value) (L:List Qt) (hK:σ K=some (.row sv 39 4 (L.map Qt.av) 0)) (hl:L.length≤1000000000):ACall prog 51 [.own K sv,.fn 43 []] σ λr σ'=>r=.tup []∧σ'=upd σ K (some (.row sv 39 4 ((srtQ Qt.cmp L).map Qt.av) 0)):=by
 refine Zh0 (args':=[.own (K+1000) sv,.fn 43 []]) func51 rfl ntmps51 results51 call51 zr zs (.cons (Sub.own _ _ _) (.cons (Sub.refl _) .nil)) ?_;have hL:∀k,lent σ (k+1000)=σ k:=λk=>by unfold lent;rw [ZCg zo,ZFb]
 generalize lent σ=m0 at *;have m0K:m0 (K+1000)=some (.row sv 39 4 (L.map Qt.av) 0):=by rw [hL,hK]
 have cb:=bLen L.length hl;have hb:=Zm3 hl;have hml:(L.map Qt.av).length=L.length:=ZCj ..;have ci:=fun(σ:Mem) h=>sqPdqK σ (K+1000) sv L (Go.Sort.bitsLen L.length) h hl zo;generalize (srtQ Qt.cmp L).map Qt.av=V at *;generalize Go.Sort.bitsLen L.length=lim at *;have ci:∀(σ:Mem),σ (K+1000)=some (.row sv 39 4 (L.map Qt.av) 0)→ACall prog 113 [.own (K+1000) sv,iv 0,iv L.length,iv lim,.fn 43 []] σ _:=ci;generalize L.map Qt.av=LA at *
 (refine wkap (w_2 m0K hml) (w_1 cb) (w_r 0) (w_s ?_);intros)
 refine Zg6 (ci _ (by(simp (disch:=omega) only [go_sem,m0K]<;>repeat' first|rfl|refine⟨?_,?_⟩))) ?_
 (refine wkap w_t w_t (w_r 0) (w_s ?_);intros)
 simp (disch:=omega) only [go_sem];refine Zqy (Sub.refl _) ⟨rfl,rfl⟩ λk hk=>?_;by_cases e:k=K
 ·subst e;rw [Zaq,ZCh rfl,Zaq,ZCh rfl]
 ·rw [Zaq,ZCg zo,Zaq,ZCg e,hL]
theorem stSortN (σ:Mem) (K:Nat) (sv:Value) (L:List (Rat × List Qt)) (hK:σ K=some (.row sv 57 4 (L.map qtA) 0)) (hl:L.length≤1000000000) (hq:∀t∈L,t.2.length≤1000000) (hd:Dst L):ACall prog 153 [.own K sv,.fn 154 []] σ λr σ'=>r=.tup []∧σ'=upd σ K (some (.row sv 57 4 ((srtQ ordT L).map qtA) 0)):=by
 refine Zh0 (args':=[.own (K+1000) sv,.fn 154 []]) func153 rfl ntmps153 results153 call153 zr zs (.cons (Sub.own _ _ _) (.cons (Sub.refl _) .nil)) ?_;have hL:∀k,lent σ (k+1000)=σ k:=λk=>by unfold lent;rw [ZCg zo,ZFb]
 generalize lent σ=m0 at *;have m0K:m0 (K+1000)=some (.row sv 57 4 (L.map qtA) 0):=by rw [hL,hK]
 have cb:=bLen L.length hl;have hb:=Zm3 hl;have hml:(L.map qtA).length=L.length:=ZCj ..;have ci:=fun(σ:Mem) h=>stPdqK σ (K+1000) sv L (Go.Sort.bitsLen L.length) h hl hq hd zo;generalize (srtQ ordT L).map qtA=V at *;generalize Go.Sort.bitsLen L.length=lim at *;have ci:∀(σ:Mem),σ (K+1000)=some (.row sv 57 4 (L.map qtA) 0)→ACall prog 211 [.own (K+1000) sv,iv 0,iv L.length,iv lim,.fn 154 []] σ _:=ci;generalize L.map qtA=LA at *
 (refine wkap (w_2 m0K hml) (w_1 cb) (w_r 0) (w_s ?_);intros)
 refine Zg6 (ci _ (by(simp (disch:=omega) only [go_sem,m0K]<;>repeat' first|rfl|refine⟨?_,?_⟩))) ?_
 (refine wkap w_t w_t (w_r 0) (w_s ?_);intros)
 simp (disch:=omega) only [go_sem];refine Zqy (Sub.refl _) ⟨rfl,rfl⟩ λk hk=>?_;by_cases e:k=K
 ·subst e;rw [Zaq,ZCh rfl,Zaq,ZCh rfl]
 ·rw [Zaq,ZCg zo,Zaq,ZCg e,hL]
def maxQ:Nat:=1000
theorem qSort (σ:Mem) (K:Nat) (sv:Value) (L:List Qt) (hK:σ K=some (.row sv 39 4 (L.map Qt.av) 0)) (hl:L.length≤maxQ):ACall prog 51 [.own K sv,.fn 43 []] σ λr σ'=>r=.tup []∧σ'=upd σ K (some (.row sv 39 4 ((srtQ Qt.cmp L).map Qt.av) 0)):=Zxt σ K sv L hK (by unfold maxQ at hl;omega)
theorem Zii:maxQ≤1000:=by unfold maxQ;omega
theorem ZAb:12≤maxQ:=by unfold maxQ;omega
def maxT:Nat:=100000000
theorem Zum:maxT=100000000:=rfl
theorem Zn0:maxT≤100000000:=by unfold maxT;omega
theorem ZAa:12≤maxT:=by unfold maxT;omega
theorem stSortT (σ:Mem) (K:Nat) (sv:Value) (L:List (Rat × List Qt)) (hK:σ K=some (.row sv 57 4 (L.map qtA) 0)) (hl:L.length≤maxT) (hq:∀t∈L,t.2.length≤1000000) (hd:Dst L):ACall prog 153 [.own K sv,.fn 154 []] σ λr σ'=>r=.tup []∧σ'=upd σ K (some (.row sv 57 4 ((srtQ ordT L).map qtA) 0)):=stSortN σ K sv L hK (by unfold maxT at hl;omega) hq hd
attribute [go_sem] underlying167 underlying123 underlying165 zSum zMap
attribute [local go_sem] Zaw Zay Zax Zo5 Zjx Zoy Zo6 Zbg
def mpN:QTs→Nat→List (MKey × AV)
 | [],_=>[]
 | t :: l,n=>(MKey.s (keyS t.2),iv n) :: mpN l (n+1)
abbrev mpE (T:QTs):List (MKey × AV):=mpN T 0
def B8 (T:QTs):Prop:=∀t∈T,∀q∈t.2,q.b8
theorem Zr9 (s:ByteArray):∀(T:QTs) (n:Nat),Ze4 (.s s) (mpN T n)=true
 | [],_=>rfl
 | t :: T,n=>by
   show(MKey.like (.s s) (.s (keyS t.2)) && Ze4 (.s s) (mpN T (n+1)))=true;rw [Zr9 s T (n+1)];rfl
theorem Zzz (l:QTs) (t:Rat × List Qt):∀n,mpN (l++[t]) n=mpN l n++[(MKey.s (keyS t.2),iv ((n+l.length:Nat)))]:=by
 induction l with
 | nil=>intro n;rfl
 | cons a l ih =>
   intro n;show(MKey.s (keyS a.2),iv n) :: mpN (l++[t]) (n+1)=_;rw [ih];show _=(MKey.s (keyS a.2),iv n) :: (mpN l (n+1)++_);rw [show n+1+l.length=n+(a :: l).length by simp only [ZCu];omega]
theorem Zui {l m:QTs} (h:l.map (λt=>t.2)=m.map λt=>t.2):∀n,mpN l n=mpN m n:=by
 induction l generalizing m with
 | nil=>intro n;cases m with
   | nil=>rfl
   | cons b m=>simp at h
 | cons a l ih=>intro n;cases m with
   | nil=>simp at h
   | cons b m =>
     simp only [ZDq,List.cons.injEq] at h;show(MKey.s (keyS a.2),iv n) :: mpN l (n+1)=(MKey.s (keyS b.2),iv n) :: mpN m (n+1);rw [h.1,ih h.2]
theorem Zsa:∀{T:QTs} {p:List Qt} {i:Nat} (hi:i < T.length) (n:Nat),B8 T→(∀q∈p,q.b8)→T[i].2=p→(∀j (h:j < T.length),j < i→T[j].2≠p)→Zcb (.s (keyS p)) (mpN T n)=some (iv ((n+i:Nat)))
 | [],p,i,hi,_,_,_,_,_=>by simp at hi
 | t :: T,p,0,hi,n,hb,hp,he,_=>by
   show(if MKey.s (keyS t.2)=MKey.s (keyS p) then _ else _)=_;have he:t.2=p:=he;rw [ZCh (by rw [he])];rfl
 | t :: T,p,i+1,hi,n,hb,hp,he,hn=>by
   show(if MKey.s (keyS t.2)=MKey.s (keyS p) then _ else Zcb (.s (keyS p)) (mpN T (n+1)))=_;have h0:t.2≠p:=hn 0 zs zo;rw [ZCg (λh=>h0 (Zuq (hb t (.head _)) hp (by injection h))),Zsa (by simpa using hi) (n+1) (λu hu=>hb u (.tail _ hu)) hp he (λj h hj=>hn (j+1) (by simpa using h) zo)];rw [show n+1+i=n+(i+1) by omega]
theorem Zlh:∀{T:QTs} {p:List Qt} (n:Nat),B8 T→(∀q∈p,q.b8)→(∀j (h:j < T.length),T[j].2≠p)→Zcb (.s (keyS p)) (mpN T n)=none∧∀x,Zck (.s (keyS p)) x (mpN T n)=mpN T n++[(MKey.s (keyS p),x)]
 | [],p,_,_,_,_=>⟨rfl,λ_=>rfl⟩
 | t :: T,p,n,hb,hp,hn=>by
   have h0:t.2≠p:=hn 0 zs;have hk:¬MKey.s (keyS t.2)=MKey.s (keyS p):=λh=>h0 (Zuq (hb t (.head _)) hp (by injection h));obtain⟨h1,h2⟩:=Zlh (n+1) (λu hu=>hb u (.tail _ hu)) hp (λj h=>hn (j+1) (by simpa using h));refine⟨?_,λx=>?_⟩
   ·show(if MKey.s (keyS t.2)=MKey.s (keyS p) then _ else Zcb (.s (keyS p)) (mpN T (n+1)))=_;rw [ZCg hk,h1]
   ·show(if MKey.s (keyS t.2)=MKey.s (keyS p) then _ else _ :: Zck (.s (keyS p)) x (mpN T (n+1)))=_;rw [ZCg hk,h2];rfl
theorem ZB6:∀{T:QTs} {t:Rat × List Qt} {i:Nat} (hi:i < T.length),T[i].2=t.2→(∀j (h:j < T.length),j < i→T[j].2≠t.2)→addC T t=T.set i (T[i].1+t.1,T[i].2)
 | [],t,i,hi,_,_=>by simp at hi
 | s :: T,t,0,hi,he,_=>by
   have he:s.2=t.2:=he;show(if s.2=t.2 then _ else _)=_;rw [ZCh he];rfl
 | s :: T,t,i+1,hi,he,hn=>by
   show(if s.2=t.2 then _ else s :: addC T t)=_;have h0:s.2≠t.2:=hn 0 zs zo;rw [ZCg h0,ZB6 (i:=i) (by simpa using hi) he (λj h hj=>hn (j+1) (by simpa using h) zo)];rfl
theorem ZB7:∀{T:QTs} {t:Rat × List Qt},(∀j (h:j < T.length),T[j].2≠t.2)→addC T t=T++[t]
 | [],t,_=>rfl
 | s :: T,t,hn=>by
   show(if s.2=t.2 then _ else s :: addC T t)=_;have h0:s.2≠t.2:=hn 0 zs;rw [ZCg h0,ZB7 (λj h=>hn (j+1) (by simpa using h))];rfl
theorem Zuz (T:QTs) (p:List Qt):(∃i,∃h:i < T.length,T[i].2=p∧∀j (h:j < T.length),j < i→T[j].2≠p)∨∀j (h:j < T.length),T[j].2≠p:=by
 induction T with
 | nil=>exact .inr λj h=>by simp at h
 | cons t T ih =>
   by_cases h:t.2=p
   ·exact .inl ⟨0,by simp,h,λj _ hj=>zo⟩
   ·rcases ih with⟨i,hi,h1,h2⟩ | h2
    ·refine .inl ⟨i+1,by simpa using hi,h1,λj hj hji=>?_⟩
     cases j with
     | zero=>exact h
     | succ j=>exact h2 j (by simpa using hj) zo
    ·refine .inr λj hj=>?_
     cases j with
     | zero=>exact h
     | succ j=>exact h2 j (by simpa using hj)
theorem exNew (σ:Mem) (KB KM:Nat) (hne:KM≠KB):ACall prog 88 [] σ λr σ'=>∃g h,r=.pbox KB g 0∧σ'=upd (upd σ KM (some (.map h []))) KB (some (.box g 167 [.mp KM h,.v (.slice none 0 0)] false)):=by
 refine Zs0 (args':=[]) func88 rfl ntmps88 results88 call88 zr zs .nil ?_;have hL:∀k,lent σ (k+1000)=σ k:=λk=>by unfold lent;rw [ZCg zo,ZFb]
 generalize lent σ=m0 at *
 (refine wkap w_t w_t (w_r 0) (w_s ?_);intros)
 simp (disch:=omega) only [go_sem];rename_i h g;refine⟨.pbox KB g 0,_,λk=>if k=KB then 3 else if k=KM then 1 else k+1000,Sub.pbox _ _ _ _,⟨g,h,rfl,rfl⟩,λk e hk=>?_,λk k' _ _ he=>?_⟩
 ·by_cases h1:k=KB
  ·subst h1;rw [Zaq,ZCh rfl] at hk;injection hk with hk
   subst hk;refine⟨.box g 167 [.mp 1 h,.v (.slice none 0 0)] false,by simp (disch:=omega) only [go_sem,ZCh];rfl,EntSub.box rfl (λx hx=>?_) λj a b ha hb=>?_⟩
   ·simp only [ZF7,List.not_mem_nil,or_false] at hx;rcases hx with rfl | rfl<;>rfl
   ·match j,ha,hb with
    | 0,ha,hb=>simp only [ZGc,Option.some.injEq] at ha hb;subst ha;subst hb;exact Sub.mp _ _ _
    | 1,ha,hb=>simp only [ZHe,ZGc,Option.some.injEq] at ha hb;subst ha;subst hb;exact Sub.refl _
    | j+2,ha,hb=>simp at ha
  ·rw [Zaq,ZCg h1] at hk;simp only [ZCg h1];by_cases h2:k=KM
   ·subst h2;rw [Zaq,ZCh rfl] at hk;injection hk with hk
    subst hk;simp only [ZDf];exact⟨.map h [],by simp (disch:=omega) only [go_sem,ZCh,ZCg],EntSub.refl _⟩
   ·rw [Zaq,ZCg h2] at hk;simp only [ZCg h2];exact⟨e,by rw [←hk,←hL k];simp (disch:=omega) only [go_sem,ZCg],EntSub.refl _⟩
 ·simp only at he;split at he<;>split at he<;>(try split at he)<;>(try split at he)<;>first|omega|(subst_vars;rfl)
theorem exAdd (σ:Mem) (KB KM KT g h:Nat) (sv:Value) (T:QTs) (a:Rat) (p:List Qt) {j k:Nat} (hB:σ KB=some (.box g 167 [.mp KM h,.own KT sv] false)) (hM:σ KM=some (.map h (mpE T))) (hT:σ KT=some (.row sv 57 4 (T.map qtA) 0))
 (n1:KB≠KM) (n2:KB≠KT) (n3:KM≠KT) (hl:T.length≤100000000) (hp:p.length≤1000) (b1:B8 T) (b2:∀q∈p,q.b8) (hs:∀t∈T,Sz t.1 j) (ha:Sz a k) (hj:j≤1000000) (hk:k≤1000000) :
 ACall prog 89 [.pbox KB g 0,ratQ a,qsA p] σ λr σ'=>∃sv',r=.tup []∧σ'=upd (upd (upd σ KM (some (.map h (mpE (addC T (a,p)))))) KT (some (.row sv' 57 4 ((addC T (a,p)).map qtA) 0))) KB (some (.box g 167 [.mp KM h,.own KT sv'] false)):=by
 have mB:=Zcq hB;have mM:=Zcq hM;have mT:=Zcq hT;simp only [Ent.sh,AV.shL,AV.sh] at mB mM mT;have ck:=exKey p hp;have hlT:(T.map qtA).length=T.length:=ZCj ..;have hal:Ze4 (.s (keyS p)) (mpE T)=true:=Zr9 _ T 0;rcases Zuz T p with⟨i,hi,he,hf⟩ | hf
 ·have hget:Zcb (.s (keyS p)) (mpE T)=some (iv i):=by have:=Zsa hi 0 b1 b2 he hf;rwa [ZC9] at this
  have hadd:=ZB6 (t:=(a,p)) hi he hf
  have hkeys:mpE (addC T (a,p))=mpE T:=by
   refine Zui ?_ 0;rw [hadd,List.map_set];show(T.map _).set i T[i].2=_;rw [←ZG6 (f:=λt:Rat × List Qt=>t.2) (h:=by rw [ZCj];exact hi)];exact List.set_getElem_self _
  have hgi:(T.map qtA).getD i .u=qtA T[i]:=Zak qtA hi;have hst:(T.map qtA).set i (qtA (T[i].1+a,T[i].2))=(addC T (a,p)).map qtA:=by rw [hadd,List.map_set]
  have ca:=Zyy T[i].1 a (hs _ (ZCt hi)) ha zo zo;rw [hkeys];clear hs ha b1 b2 hf hadd hkeys;generalize T[i]=t at *;obtain⟨t1,t2⟩:=t;simp only at *;refine Zd3 func89 rfl ntmps89 results89 call89 zr zs ?_;generalize hRR:(addC T (a,p)).map qtA=R at *;generalize T.map qtA=TA at *;generalize mpE T=es at *
  (refine wkad (w_9 mB mM mT @Zd4 @Zds hget hal hgi hlT) (w_2 ck ca) (w_1 (w_d 4 [(14,ratQ (t1+a))] [17] [])) (w_s ?_);intros)
  simp (disch:=omega) only [go_sem];have e1:upd σ KM (some (.map h es))=σ:=Zgw hM;have e2:upd (upd σ KT (some (.row sv 57 4 R 0))) KB (some (.box g 167 [.mp KM h,.own KT sv] false))=upd σ KT (some (.row sv 57 4 R 0)):=Zgw (by rw [Zaq,ZCg n2];exact hB);refine Zwy (Sub.refl _) ⟨sv,rfl,rfl⟩ ?_;rw [e1,e2];exact((Agr.start σ).own zo).put rfl (by rw [←hst];rfl)
 ·have hget:Zcb (.s (keyS p)) (mpE T)=none:=(Zlh 0 b1 b2 hf).1;have hput:∀x,Zck (.s (keyS p)) x (mpE T)=mpE T++[(MKey.s (keyS p),x)]:=(Zlh 0 b1 b2 hf).2;have hadd:=ZB7 (t:=(a,p)) hf;have hmp:mpE (addC T (a,p))=mpE T++[(MKey.s (keyS p),iv T.length)]:=by rw [hadd];show mpN _ 0=_;rw [Zzz,ZC9]
  have hrow:(addC T (a,p)).map qtA=T.map qtA++[.agg [.v (.bool (decide (a.num < 0))),lim (toL a.num.natAbs),lim (toL a.den),.sl 4 (p.map Qt.av)]]:=by rw [hadd,ZDd];rfl
  rw [hmp,hrow];clear hs ha b1 b2 hf hadd hmp hrow;refine Zd3 func89 rfl ntmps89 results89 call89 zr zs ?_;generalize T.map qtA=TA at *;generalize mpE T=es at *
  (refine wkax (w_9 mB mM mT @Zd4 @Zds hget hal hput hlT) (w_1 ck) (w_2 (w_d 5 [] [10] []) (w_d 6 [] [9,2009,12] [])) w_t w_t w_t w_y (w_r 0) (w_s ?_);intros)
  simp (disch:=omega) only [go_sem];rename_i x1 x2 x3;refine Zwy (Sub.refl _) ⟨x3,rfl,rfl⟩ ?_;refine Agr.put ?_ rfl rfl;refine Agr.put ?_ rfl rfl;refine Agr.own ?_ zo;refine Agr.put ?_ rfl rfl;refine Agr.own ?_ zo;exact Agr.start σ
def nzT (T:QTs):QTs:=T.filter λt=>decide (t.1≠0)
theorem nzT_y {T:QTs} {i:Nat} (h:i < T.length) (h0:T[i].1≠0):nzT (T.take (i+1))=nzT (T.take i)++[T[i]]:=by
 unfold nzT;rw [ZFp,ZCs h,ZFe];show _++List.filter _ [T[i]]=_;rw [ZFo,ZCh (ZCp h0)];rfl
theorem nzT_n {T:QTs} {i:Nat} (h:i < T.length) (h0:T[i].1=0):nzT (T.take (i+1))=nzT (T.take i):=by
 unfold nzT;rw [ZFp,ZCs h,ZFe];show _++List.filter _ [T[i]]=_;rw [ZFo,ZCg (by simp [h0])];simp
theorem Zr0 (T:QTs):(nzT T).length≤T.length:=ZG5 _ _
theorem exExpr (σ:Mem) (KB KM KT KP g h:Nat) (sv:Value) (T:QTs) {j n:Nat} (hB:σ KB=some (.box g 167 [.mp KM h,.own KT sv] false)) (hT:σ KT=some (.row sv 57 4 (T.map qtA) 0))
 (hl:T.length≤maxT) (hd:Dst T) (hs:QK T j n) (hj:j≤1000000) (hn:n≤1000000) :
 ACall prog 92 [.pbox KB g 0] σ λr σ'=>∃sv',r=.own KP sv'∧σ'=upd σ KP (some (.row sv' 57 4 ((srtQ ordT (nzT T)).map qtA) 0)):=by
 have hMT:=Zn0;have mB:=Zcq hB;have mT:=Zcq hT;simp only [Ent.sh,AV.shL,AV.sh] at mB mT;have hlT:(T.map qtA).length=T.length:=ZCj ..;have hg:∀i (h:i < T.length),(T.map qtA).getD i .u=qtA T[i]:=λi h=>Zak qtA h;refine Zhj func92 rfl ntmps92 results92 call92 zr zs ?_;have hL:∀k,Zeb σ (k+1000)=(σ k).map Ent.sh:=Agr.start σ;have h0:∀k,k < 1000→Zeb σ k=none:=λk hk=>Zd4 hk;generalize Zeb σ=m0 at *;generalize T.map qtA=A at *
 (refine wkap (w_3 mB mT hlT) w_t (w_r 0) (w_s ?_);intros)
 refine Zdj (Frz.nilOwn (d:=3) 22 4 57 (gC)) ?_;refine Zad (ι:=Nat) (λi e m=>i≤T.length∧e 9=.own (KT+1000) sv∧e 10=iv T.length∧e 11=iv i∧m (KT+1000)=some (.row sv 57 4 A 0)∧(∀k,m (k+1000)=m0 (k+1000))∧∃sv,e 3=.own 22 sv∧m 22=some (.row sv 57 4 ((nzT (T.take i)).map qtA) 0)) (λi=>T.length - i) 0 zr ?_ ?_
 ·rintro i e m ⟨hi,e9,e10,e11,mT,hm,sv',e3,m22⟩
  have hol:((nzT (T.take i)).map qtA).length≤100000000:=by rw [ZCj];have:=Zr0 (T.take i);rw [ZCz] at this;omega
  by_cases hlt:i < T.length
  ·have hgi:=hg i hlt;have ms:=hs _ (ZCt hlt);have hy:=nzT_y hlt;have hnn:=nzT_n hlt;clear hg hs;generalize T[i]=t at *;have cz:=Ze1 t.1 ms.1 zo;by_cases hz:t.1=0
   ·have hnz:=hnn hz;clear hnn;have hz2:t.1.num.sign=0:=by rw [Zd8];exact hz
    rw [hz2] at cz;clear hy ms hz2;obtain⟨t1,t2⟩:=t;simp only at *;generalize hO:(nzT (T.take i)).map qtA=O at *;generalize t2.map Qt.av=S2 at *;generalize toL t1.num.natAbs=a at *;generalize toL t1.den=b at *
    (refine wkap (w_8 e9 e10 e11 mT e3 m22 hlT hgi) (w_1 cz) (w_r 0) (w_s ?_);intros)
    exact⟨i+1,⟨zo,gW e9,gW e10,gS,by(simp (disch:=omega) only [go_sem,mT]<;>repeat' first|rfl|refine⟨?_,?_⟩),λk=>by rw [←hm k];try simp (disch:=omega) [Zaq,marks,mark],_,gW e3,by rw [hnz,hO];exact gW m22⟩,zo⟩
   ·have hy:=hy hz;have hz2:¬t.1.num.sign=0:=by rw [Zd8];exact hz
    have hmp:(nzT (T.take (i+1))).map qtA=(nzT (T.take i)).map qtA++[qtA t]:=by rw [hy,ZDd];rfl
    clear hnn ms hy;obtain⟨t1,t2⟩:=t;simp only at *;generalize t1.num.sign=z at *;generalize (nzT (T.take i)).map qtA=O at *;have hmp:(nzT (T.take (i+1))).map qtA=O++[.agg [.v (.bool (decide (t1.num < 0))),lim (toL t1.num.natAbs),lim (toL t1.den),.sl 4 (t2.map Qt.av)]]:=hmp;have hgi:A.getD i .u=.agg [.v (.bool (decide (t1.num < 0))),lim (toL t1.num.natAbs),lim (toL t1.den),.sl 4 (t2.map Qt.av)]:=hgi;have cz:Pure prog 42 [.agg [.v (.bool (decide (t1.num < 0))),lim (toL t1.num.natAbs),lim (toL t1.den)]] (iv z):=cz;generalize t2.map Qt.av=S2 at *;generalize toL t1.num.natAbs=a at *;generalize toL t1.den=b at *
    (refine wkap (w_9 e9 e10 e11 mT e3 m22 hlT hgi hz2) (w_1 cz) (w_r 0) (w_s ?_);intros)
    exact⟨i+1,⟨zo,gW e9,gW e10,gS,by(simp (disch:=omega) only [go_sem,mT]<;>repeat' first|rfl|refine⟨?_,?_⟩),λk=>by rw [←hm k];try simp (disch:=omega) [Zaq,marks,mark],_,gC,by rw [hmp];exact gC⟩,zo⟩
  ·have hil:i=T.length:=zo;subst hil;rw [ZDu] at m22 hol;rw [ZCj] at hol;have hmem:∀t,t∈nzT T→t∈T:=λt ht=>(List.mem_filter.1 ht).1;have ci:=fun(m:Mem) h=>stSortT m 22 sv' (nzT T) h (by have:=Zr0 T;omega) (λt ht=>by have:=(hs t (hmem t ht)).2;omega) (hd.sublist List.filter_sublist);clear hg hs
   (refine wkap (w_7 e9 e10 e11 mT e3 m22 hlT) w_t (w_r 0) (w_s ?_);intros)
   refine Zg6 (ci _ (gW m22)) ?_
   (refine wkap (w_1 e3) w_t (w_r 0) (w_s ?_);intros)
   simp (disch:=omega) only [go_sem];refine Zjb (σ:=σ) (r:=.own KP sv') 22 KP zo (Sub.own _ _ _) ⟨sv',rfl,rfl⟩ ?_ ?_
   ·simp only [Zaq,ZCh]
   ·intro k hk _;rw [Zaq,ZCg zo,hm k,hL k,Zaq,ZCg hk]
 ·exact⟨ZCr _,gC,gC,gC,by(simp (disch:=omega) only [go_sem,mT]<;>repeat' first|rfl|refine⟨?_,?_⟩),λk=>by try simp (disch:=omega) [Zaq,marks,mark],_,gC,gC⟩
attribute [go_sem] underlying209
theorem exGrow (σ:Mem) (KP n:Nat) (h0:0 < n) (hn:n≤2000000) :
 ACall prog 210 [.v (.slice none 0 0),iv n] σ λr σ'=>∃sv L,r=.view KP sv 4 0 0∧σ'=upd σ KP (some (.row sv 39 4 L 0)):=by
 refine Zhj func210 rfl ntmps210 results210 call210 zr zs ?_;have h1:¬((n:Nat):Int) < 0:=zo;have h2:(0:Int) < ((n:Nat):Int):=zo;have hm:∀k,Zeb σ (k+1000)=(σ k).map Ent.sh:=λk=>by unfold Zeb;rw [ZCg zo];rfl
 generalize Zeb σ=m0 at *
 (refine wkap (w_2 h1 h2) w_t (w_r 0) (w_s ?_);intros)
 simp (disch:=omega) only [go_sem];rename_i sv;refine Zjb (σ:=σ) (σ':=upd σ KP (some (.row sv 39 4 (List.replicate ((n:Int) - 0).toNat (.agg [iv 0,iv 0,iv 0,iv 0])) 0))) 22 KP zo (Sub.view _ _ _ _ _ _) ⟨_,_,rfl,rfl⟩ ?_ ?_
 ·simp only [Zaq,ZCh]
 ·intro k hk _;rw [Zaq,ZCg zo,hm k,Zaq,ZCg hk]
theorem exGrow0:Pure prog 210 [.v (.slice none 0 0),iv 0] (.v (.slice none 0 0)):=by
 refine pI func210 rfl ntmps210 results210 call210 ?_
 (refine wkap w_t w_t (w_r 0) (w_s ?_);intros)
 all_goals exact gL
theorem exConcat (σ:Mem) (KC KP:Nat) (svc:Value) (A B:List AV) (hC:σ KC=some (.row svc 55 1 [.sl 4 A,.sl 4 B] 0)) (hk:KC≠KP) (ha:A.length≤1000000) (hb:B.length≤1000000) :
 ACall prog 152 [.own KC svc] σ λr σ'=>∃sv,r=.own KP sv∧σ'=upd σ KP (some (.row sv 39 4 (A++B) 0)):=by
 have mC:=Zcq hC;simp only [Ent.sh,AV.shL,AV.sh] at mC;have hm:∀k,Zeb σ (k+1000)=(σ k).map Ent.sh:=λk=>by unfold Zeb;rw [ZCg zo];rfl
 refine Zhj func152 rfl ntmps152 results152 call152 zr zs ?_;generalize Zeb σ=m0 at *;have h1:¬((A.length:Nat):Int) < 0:=zo;have h2:¬((A.length:Nat):Int)+(B.length:Int) < 0:=zo;have e1:(0:Int)+((A.length:Nat):Int)=(A.length:Int):=zo;have e2:((A.length:Nat):Int)+(B.length:Int)=((A.length+B.length:Nat):Int):=zo;by_cases hn:0 < A.length+B.length
 ·have cg:=fun(m:Mem)=>exGrow m 40 (A.length+B.length) hn zo
  (refine wkap (w_5 mC h1 h2 e1 e2) w_t (w_r 3) (w_s ?_);intros)
  refine Zdp (cg _) ?_
  rintro _ _ ⟨sv,L,rfl,rfl⟩
  have hz:(L.take 0++A)=A:=rfl
  (refine wkap (w_2 mC hz) w_t (w_r 3) (w_s ?_);intros)
  simp (disch:=omega) only [go_sem];rename_i sv1 sv2;refine Zjb (σ:=σ) (σ':=upd σ KP (some (.row sv2 39 4 (A++B) 0))) 40 KP zo (Sub.own _ _ _) ⟨_,rfl,rfl⟩ ?_ ?_
  ·simp (disch:=omega) only [go_sem,ZCh]
  ·intro k hk _;rw [show upd σ KP (some (.row sv2 39 4 (A++B) 0)) k=σ k from by rw [Zaq,ZCg hk],←hm k];simp (disch:=omega) only [go_sem]
 ·have hA:A=[]:=List.length_eq_zero_iff.1 zo;have hB:B=[]:=List.length_eq_zero_iff.1 zo;subst hA hB;have cg:=exGrow0;have e4:((0:Nat):Int)+((0:Nat):Int)=0:=rfl;have e5:(0:Int)+((0:Nat):Int)=((0:Nat):Int):=rfl
  (refine wkap (w_3 mC e4 e5) w_t (w_r 3) (w_s ?_);intros)
  refine o_c cg rfl ?_
  (refine wkap (w_1 mC) w_t (w_r 0) (w_s ?_);intros)
  refine Zdj (Frz.nilOwn (d:=6) 40 4 39 (gC)) ?_
  (refine wkap (w_1 mC) w_t (w_r 3) (w_s ?_);intros)
  simp (disch:=omega) only [go_sem];rename_i sv1 sv2;refine Zjb (σ:=σ) (σ':=upd σ KP (some (.row sv2 39 4 [] 0))) 40 KP zo (Sub.own _ _ _) ⟨_,rfl,rfl⟩ ?_ ?_
  ·simp (disch:=omega) only [go_sem,ZCh]
  ·intro k hk _;rw [show upd σ KP (some (.row sv2 39 4 [] 0)) k=σ k from by rw [Zaq,ZCg hk],←hm k];simp (disch:=omega) only [go_sem]
abbrev muQ (a b:List Qt):List Qt:=srtQ Qt.cmp (a++b)
theorem exTimes (a b:List Qt) (hm:a.length+b.length≤maxQ):Pure prog 91 [qsA a,qsA b] (qsA (muQ a b)):=by
 have hM:=Zii;have cs:=fun(m:Mem) (sv:Value) h=>qSort m 300 sv (a++b) h (by rw [ZDa];exact hm);have cc:=fun(m:Mem) (svc:Value) h=>exConcat m 8 300 svc (a.map Qt.av) (b.map Qt.av) h zo (by rw [ZCj];omega) (by rw [ZCj];omega);rw [←ZDd] at cc;show Pure _ _ [.sl 4 (a.map Qt.av),.sl 4 (b.map Qt.av)] (.sl 4 ((muQ a b).map Qt.av));generalize (muQ a b).map Qt.av=R at *;generalize (a++b).map Qt.av=AB at *;generalize a.map Qt.av=A at *;generalize b.map Qt.av=B at *;refine pI func91 rfl ntmps91 results91 call91 ?_
 (refine wkap w_t w_t (w_r 0) (w_s ?_);intros)
 refine Zdp (cc _ _ (gC)) ?_
 rintro _ _ ⟨sv,rfl,rfl⟩
 (refine wkap w_t w_t (w_r 0) (w_s ?_);intros)
 refine Zg6 (cs _ _ (gC)) ?_
 (refine wkap w_t w_t (w_r 0) (w_s ?_);intros)
 all_goals exact gL
theorem exAddO (σ:Mem) (KB KM KT KP g h:Nat) (sv svP:Value) (T:QTs) (a:Rat) (p:List Qt) {j k:Nat} (hB:σ KB=some (.box g 167 [.mp KM h,.own KT sv] false)) (hM:σ KM=some (.map h (mpE T))) (hT:σ KT=some (.row sv 57 4 (T.map qtA) 0)) (hP:σ KP=some (.row svP 39 4 (p.map Qt.av) 0)) (n4:KP≠KB) (n5:KP≠KM) (n6:KP≠KT)
 (n1:KB≠KM) (n2:KB≠KT) (n3:KM≠KT) (hl:T.length≤100000000) (hp:p.length≤1000) (b1:B8 T) (b2:∀q∈p,q.b8) (hs:∀t∈T,Sz t.1 j) (ha:Sz a k) (hj:j≤1000000) (hk:k≤1000000) :
 ACall prog 89 [.pbox KB g 0,ratQ a,.own KP svP] σ λr σ'=>∃sv' eP,r=.tup []∧σ'=upd (upd (upd (upd σ KP eP) KM (some (.map h (mpE (addC T (a,p)))))) KT (some (.row sv' 57 4 ((addC T (a,p)).map qtA) 0))) KB (some (.box g 167 [.mp KM h,.own KT sv'] false)):=by
 have mB:=Zcq hB;have mM:=Zcq hM;have mT:=Zcq hT;have mP:=Zcq hP;simp only [Ent.sh,AV.shL,AV.sh] at mB mM mT mP;have ck:=exKey p hp;have ck:Pure prog 148 [.sl 4 (p.map Qt.av)] (strA (keyS p)):=ck;have hlT:(T.map qtA).length=T.length:=ZCj ..;have hal:Ze4 (.s (keyS p)) (mpE T)=true:=Zr9 _ T 0;rcases Zuz T p with⟨i,hi,he,hf⟩ | hf
 ·have hget:Zcb (.s (keyS p)) (mpE T)=some (iv i):=by have:=Zsa hi 0 b1 b2 he hf;rwa [ZC9] at this
  have hadd:=ZB6 (t:=(a,p)) hi he hf
  have hkeys:mpE (addC T (a,p))=mpE T:=by
   refine Zui ?_ 0;rw [hadd,List.map_set];show(T.map _).set i T[i].2=_;rw [←ZG6 (f:=λt:Rat × List Qt=>t.2) (h:=by rw [ZCj];exact hi)];exact List.set_getElem_self _
  have hgi:(T.map qtA).getD i .u=qtA T[i]:=Zak qtA hi;have hst:(T.map qtA).set i (qtA (T[i].1+a,T[i].2))=(addC T (a,p)).map qtA:=by rw [hadd,List.map_set]
  have ca:=Zyy T[i].1 a (hs _ (ZCt hi)) ha zo zo;rw [hkeys];clear hs ha b1 b2 hf hadd hkeys;generalize T[i]=t at *;obtain⟨t1,t2⟩:=t;simp only at *;refine Zd3 func89 rfl ntmps89 results89 call89 zr zs ?_;generalize hRR:(addC T (a,p)).map qtA=R at *;generalize T.map qtA=TA at *;generalize mpE T=es at *;generalize hPA:p.map Qt.av=PA at *
  (repeat' (first|(with_reducible first|refine stp ?_|apply gx1|apply gx2|apply gx3|apply gx4|apply gx5|apply gx6|apply gx7|apply gy8|apply gz2|apply gz3|apply gw2 (ck)|refine gw0 (ca) ?_ ?_|refine gw3 (ca) ?_ ?_ ?_)|(with_reducible refine Zcn ?_;intro _)|((with_reducible refine gE ?_);(try simp (disch:=omega) only [go_sem,mB,mM,mT,mP,Zd4,Zds,hget,hal,hgi,hlT,ZCp,ZCq,ZCh,ZCg,Int.reduceAdd,Int.reduceSub,Int.reduceToNat,ZC3])<;>first|rfl|omega)|with_reducible refine Zam zd ?_|((with_reducible apply gy1);iterate 3 focus rfl)|((with_reducible apply gy2);iterate 3 focus rfl)|((with_reducible apply gy3);iterate 2 focus rfl)|((with_reducible apply gy4);iterate 1 focus rfl)|((with_reducible apply gy5);iterate 4 focus rfl)|((with_reducible apply gy5c);iterate 4 focus rfl)|((with_reducible apply gy6);iterate 4 focus rfl)|((with_reducible apply Zlv);iterate 3 focus rfl)|((with_reducible apply Zlc);iterate 1 focus rfl)|((with_reducible apply gy7);iterate 1 focus rfl)|((with_reducible apply gy9);(focus ((with_reducible refine gE ?_);(try simp (disch:=omega) only [go_sem,mB,mM,mT,mP,Zd4,Zds,hget,hal,hgi,hlT,ZCp,ZCq,ZCh,ZCg,Int.reduceAdd,Int.reduceSub,Int.reduceToNat,ZC3])<;>rfl)))|((with_reducible apply gz1);(focus first|rfl|(simp (disch:=omega) only [go_sem,mB,mM,mT,mP,Zd4,Zds,hget,hal,hgi,hlT,ZCp,ZCq,ZCh,ZCg,Int.reduceAdd,Int.reduceSub,Int.reduceToNat,ZC3];done)))|((with_reducible apply Zcf (id:=4) (Zdv [(14,ratQ (t1+a))]) [17] []);(focus kernel_rfl);(focus rfl);(focus kernel_rfl);(focus (simp only [ZCu,ZC6,Nat.reduceAdd];rfl)))|((with_reducible first|apply Zfh|apply Zja|apply Zfn);all_goals (intro hc;(try simp only [bool_to_prop] at hc);try (exfalso;omega)))))
  simp (disch:=omega) only [go_sem];have e1:upd σ KM (some (.map h es))=σ:=Zgw hM;have e2:upd (upd σ KT (some (.row sv 57 4 R 0))) KB (some (.box g 167 [.mp KM h,.own KT sv] false))=upd σ KT (some (.row sv 57 4 R 0)):=Zgw (by rw [Zaq,ZCg n2];exact hB);refine Zwy (Sub.refl _) ⟨sv,some (.row svP 39 4 PA 0),rfl,rfl⟩ ?_;have e0:upd σ KP (some (.row svP 39 4 PA 0))=σ:=Zgw hP;rw [e0,e1,e2];exact((Agr.start σ).own zo).put rfl (by rw [←hst];rfl)
 ·have hget:Zcb (.s (keyS p)) (mpE T)=none:=(Zlh 0 b1 b2 hf).1;have hput:∀x,Zck (.s (keyS p)) x (mpE T)=mpE T++[(MKey.s (keyS p),x)]:=(Zlh 0 b1 b2 hf).2;have hadd:=ZB7 (t:=(a,p)) hf;have hmp:mpE (addC T (a,p))=mpE T++[(MKey.s (keyS p),iv T.length)]:=by rw [hadd];show mpN _ 0=_;rw [Zzz,ZC9]
  have hrow:(addC T (a,p)).map qtA=T.map qtA++[.agg [.v (.bool (decide (a.num < 0))),lim (toL a.num.natAbs),lim (toL a.den),.sl 4 (p.map Qt.av)]]:=by rw [hadd,ZDd];rfl
  rw [hmp,hrow];clear hs ha b1 b2 hf hadd hmp hrow;refine Zd3 func89 rfl ntmps89 results89 call89 zr zs ?_;generalize T.map qtA=TA at *;generalize mpE T=es at *;generalize hPA:p.map Qt.av=PA at *
  (repeat' (first|(with_reducible first|refine stp ?_|apply gx1|apply gx2|apply gx3|apply gx4|apply gx5|apply gx6|apply gx7|apply gy8|apply gz2|apply gz3|apply gw2 (ck))|(with_reducible refine Zcn ?_;intro _)|((with_reducible refine gE ?_);(try simp (disch:=omega) only [go_sem,mB,mM,mT,mP,Zd4,Zds,hget,hal,hput,hlT,ZCp,ZCq,ZCh,ZCg,Int.reduceAdd,Int.reduceSub,Int.reduceToNat,ZC3])<;>first|rfl|omega)|with_reducible refine Zam zd ?_|((with_reducible apply gy1);iterate 3 focus rfl)|((with_reducible apply gy2);iterate 3 focus rfl)|((with_reducible apply gy3);iterate 2 focus rfl)|((with_reducible apply gy4);iterate 1 focus rfl)|((with_reducible apply gy5);iterate 4 focus rfl)|((with_reducible apply gy5c);iterate 4 focus rfl)|((with_reducible apply gy6);iterate 4 focus rfl)|((with_reducible apply Zlv);iterate 3 focus rfl)|((with_reducible apply Zlc);iterate 1 focus rfl)|((with_reducible apply gy7);iterate 1 focus rfl)|((with_reducible apply gy9);(focus ((with_reducible refine gE ?_);(try simp (disch:=omega) only [go_sem,mB,mM,mT,mP,Zd4,Zds,hget,hal,hput,hlT,ZCp,ZCq,ZCh,ZCg,Int.reduceAdd,Int.reduceSub,Int.reduceToNat,ZC3])<;>rfl)))|((with_reducible apply gz1);(focus first|rfl|(simp (disch:=omega) only [go_sem,mB,mM,mT,mP,Zd4,Zds,hget,hal,hput,hlT,ZCp,ZCq,ZCh,ZCg,Int.reduceAdd,Int.reduceSub,Int.reduceToNat,ZC3];done)))|((with_reducible apply Zcf (id:=4) (Zdv []) [] []);(focus kernel_rfl);(focus rfl);(focus kernel_rfl);(focus (simp only [ZCu,ZC6,Nat.reduceAdd];rfl)))|((with_reducible first|apply Zfh|apply Zja|apply Zfn);all_goals (intro hc;(try simp only [bool_to_prop] at hc);try (exfalso;omega)))))
  refine r_frzD (Frz.own (d:=2) (k:=KP+1000) (sv:=svP) (ty:=39) (mm:=4) (es:=PA) (pub:=0) (gC) (by(simp (disch:=omega) only [go_sem,mP]<;>repeat' first|rfl|refine⟨?_,?_⟩))) ?_
  (refine wkax (w_10 mB mM mT mP @Zd4 @Zds hget hal hput hlT) w_t (w_2 (w_d 5 [] [10] []) (w_d 6 [] [9,2009,12] [])) w_t w_t w_t w_y (w_r 0) (w_s ?_);intros)
  simp (disch:=omega) only [go_sem];rename_i x1 x2 x3;refine Zwy (Sub.refl _) ⟨x3,some (.row svP 39 4 PA PA.length),rfl,rfl⟩ ?_;refine Agr.put ?_ rfl rfl;refine Agr.put ?_ rfl rfl;refine Agr.own ?_ zo;refine Agr.put ?_ rfl rfl;rw [mP];refine Agr.put ?_ rfl rfl;refine Agr.own ?_ zo;exact Agr.start σ
def nsP (l:List Qt):List Qt:=l.map λq=>q.norm.1
abbrev accS (L:QTs):QTs:=L.foldl addC []
theorem sgP_ne {l:List Qt} (h:sgP l≠0):∀q∈l,q.norm.2≠0:=by
 have key:∀(l:List Qt) (s:Int),l.foldl (λs q=>s*q.norm.2) s≠0→s≠0∧∀q∈l,q.norm.2≠0:=by
  intro l
  induction l with
  | nil=>intro s h;exact⟨h,λq hq=>by cases hq⟩
  | cons a l ih =>
    intro s h;obtain⟨h1,h2⟩:=ih _ h;have ha:a.norm.2≠0:=λe=>h1 (by show s*a.norm.2=0;rw [e,Int.mul_zero]);have hs:s≠0:=λe=>h1 (by show s*a.norm.2=0;rw [e,Int.zero_mul]);exact⟨hs,λq hq=>by rcases List.mem_cons.1 hq with rfl | hq;exact ha;exact h2 q hq⟩
 exact(key l 1 h).2
theorem Zxs {l:List Qt} (h:sgP l≠0):srtQ Qt.cmp (nsP l)=putP l:=by
 unfold putP;rw [Zqm qtO];congr 1;unfold nzP nsP;rw [List.filter_eq_self.2 λq hq=>ZCp (sgP_ne h q hq)]
theorem norm_b8 {q:Qt} (h:q.ok=true):q.norm.1.b8:=by
 have hb:=ok_b8 h;unfold Qt.b8 at hb;unfold Qt.norm Zea Ze9;rw [ZCh h]
 repeat' split
 all_goals (unfold Qt.b8;simp only;omega)
theorem Zy6 {l:List Qt} (h:l.all Qt.ok=true):∀q∈putP l,q.b8:=by
 intro q hq;unfold putP at hq;have:=(Zfs (cmp:=Qt.cmp) (nzP l) []).mem_iff.1 hq;rw [ZDo] at this;unfold nzP at this;obtain⟨x,hx,rfl⟩:=List.mem_map.1 this;exact norm_b8 (List.all_eq_true.1 h x (List.mem_filter.1 hx).1)
theorem Zl3 (L:QTs) (t:Rat × List Qt):accS (L++[t])=addC (accS L) t:=by unfold accS;rw [ZGm];rfl
theorem Zve (l:QTs) (t:Rat × List Qt):(addC l t).length≤l.length+1:=by
 induction l with
 | nil=>exact ZCi _
 | cons s l ih=>unfold addC;split<;>simp only [ZCu]<;>omega
theorem Zov {l:QTs} {t u:Rat × List Qt} (h:u∈addC l t):u∈l∨u=t∨∃s∈l,u=(s.1+t.1,s.2):=by
 induction l with
 | nil=>exact .inr (.inl (List.mem_singleton.1 h))
 | cons s l ih =>
   unfold addC at h;split at h
   ·rcases List.mem_cons.1 h with rfl | h
    ·exact .inr (.inr ⟨s,.head _,rfl⟩)
    ·exact .inl (.tail _ h)
   ·rcases List.mem_cons.1 h with rfl | h
    ·exact .inl (.head _)
    ·rcases ih h with h | h | ⟨v,hv,e⟩
     ·exact .inl (.tail _ h)
     ·exact .inr (.inl h)
     ·exact .inr (.inr ⟨v,.tail _ hv,e⟩)
structure AccOk (S:QTs) (i j n:Nat):Prop where
 len:S.length≤i
 b8:B8 S
 qk:QK S (i*(j+2)) n
theorem AccOk.nil (j n:Nat):AccOk [] 0 j n:=⟨ZCi _,λt ht=>by(cases ht),λt ht=>by(cases ht)⟩
theorem AccOk.mono {S:QTs} {i k j n:Nat} (h:AccOk S i j n) (hk:i≤k):AccOk S k j n:=⟨ZCk h.len hk,h.b8,h.qk.mono (ZCw _ hk) (ZCi _)⟩
theorem AccOk.add {S:QTs} {i j n:Nat} (h:AccOk S i j n) {t:Rat × List Qt} (h1:Sz t.1 j) (h2:t.2.length≤n) (h3:∀q∈t.2,q.b8):AccOk (addC S t) (i+1) j n:=by
 have e:(i+1)*(j+2)=i*(j+2)+(j+2):=ZD8 _ _;refine⟨ZCk (Zve S t) (by have:=h.len;omega),λu hu=>?_,λu hu=>?_⟩
 ·rcases Zov hu with hu | rfl | ⟨s,hs,rfl⟩
  ·exact h.b8 u hu
  ·exact h3
  ·exact h.b8 s hs
 ·rcases Zov hu with hu | rfl | ⟨s,hs,rfl⟩
  ·exact⟨(h.qk u hu).1.mono zo,(h.qk u hu).2⟩
  ·exact⟨h1.mono zo,h2⟩
  ·exact⟨((h.qk s hs).1.add h1).mono zo,(h.qk s hs).2⟩
theorem acc_fin (L:QTs):srtQ ordT (nzT (accS (nzT L)))=gatM L:=by
 have h1:srtQ ordT (nzT (accS (nzT L)))=Go.Pol.sumC ordQ (nzT L):=rfl;rw [h1,Znc Zbb];refine Zjh Zbb.ko (Zna Zbb _) (Zna Zbb _) λx=>?_;rw [Znb Zbb,Znb Zbb];exact Zm1 L x
theorem Zpk {z:Int} (h:z=-1∨z=0∨z=1):Pure prog 56 [iv z] (ratQ (z:Rat)):=by
 rcases h with rfl | rfl | rfl
 ·exact ratOfM
 ·exact Zvw 0 zo
 ·exact Zvw 1 zo
theorem Zu0 (l:List RE) {J JA nQ:Nat} (hl:l.length≤1000000) (hr:∀t∈l,t.r.lm J) (hq:∀t∈l,t.q.length≤nQ) (hnQ:nQ≤maxQ) (hJ:J≤900000) (hJA:JA≤1000000)
 (hA:∀i,i≤l.length→(l.take i).all RE.ok=true→QK (accS (nzT ((l.take i).map RE.t))) JA nQ∧B8 (accS (nzT ((l.take i).map RE.t)))∧(accS (nzT ((l.take i).map RE.t))).length≤maxT):Pure prog 78 [.sl 4 (l.map RE.av)] (nrmR l):=by
 have hMq0:=Zii;have hMT:=Zn0;have hlm:(l.map RE.av).length=l.length:=ZCj ..;have hg:∀i (h:i < l.length),(l.map RE.av).getD i .u=RE.av l[i]:=λi h=>Zak RE.av h;generalize l.map RE.av=A at *;refine pI func78 rfl ntmps78 results78 call78 ?_
 (refine wkad w_t w_t w_t (w_s ?_);intros)
 refine Zdp (exNew _ 200 201 zo) ?_
 rintro _ _ ⟨g,h,rfl,rfl⟩
 (refine wkad (w_1 hlm) w_t w_t (w_s ?_);intros)
 refine Zdj (Frz.nilBox (k:=200) 1 202 4 57 (gC) rfl zo) ?_;refine Zad (ι:=Nat) (λi e m=>i≤l.length∧(l.take i).all RE.ok=true∧e 3=.pbox 200 g 0∧m 201=some (.map h (mpE (accS (nzT ((l.take i).map RE.t)))))∧(∃sv,m 200=some (.box g 167 [.mp 201 h,.own 202 sv] false)∧m 202=some (.row sv 57 4 ((accS (nzT ((l.take i).map RE.t))).map qtA) 0))∧e 13=.sl 4 A∧e 14=iv l.length∧e 15=iv i) (λi=>l.length - i) 0 zr ?_ ?_
 ·rintro i e m ⟨hi,ha,e3,m201,⟨sv,m200,m202⟩,e13,e14,e15⟩
  have hacc:=hA i hi ha;by_cases hlt:i < l.length
  ·have hgi:=hg i hlt;have hri:=hr _ (ZCt hlt);have hqi:=hq _ (ZCt hlt);have hta:(l.take (i+1)).map RE.t=(l.take i).map RE.t++[l[i].t]:=by rw [ZFp,ZCs hlt,ZDd];rfl
   have hok:=Zhh (p:=RE.ok) hlt ha;have hbr:RE.ok l[i]=false→nrmR l=.v (.slice none 0 0):=λh=>by unfold nrmR;rw [Zkq (p:=RE.ok) hlt h];rfl
   have hny:(l[i].t).1≠0→accS (nzT ((l.take (i+1)).map RE.t))=addC (accS (nzT ((l.take i).map RE.t))) l[i].t:=λh=>by
    rw [hta];unfold nzT;rw [ZFe];rw [show List.filter (λt:Rat × List Qt=>decide (t.1≠0)) [l[i].t]=[l[i].t] from by rw [ZFo,ZCh (ZCp h)];rfl];exact Zl3 _ _
   have hnn:(l[i].t).1=0→accS (nzT ((l.take (i+1)).map RE.t))=accS (nzT ((l.take i).map RE.t)):=λh=>by
    rw [hta];unfold nzT;rw [ZFe];rw [show List.filter (λt:Rat × List Qt=>decide (t.1≠0)) [l[i].t]=[] from by rw [ZFo,ZCg (by simp [h])];rfl,ZDo]
   clear hg hr hq ha hta;generalize l[i]=t at *;generalize hNR:nrmR l=NR at *;generalize accS (nzT ((l.take i).map RE.t))=S at *;obtain⟨r,q⟩:=t;simp only at hri hqi;have hgi:A.getD i .u=.agg [.v (.bool r.s),lim r.l,lim r.d,.sl 4 (q.map Qt.av)]:=hgi;have crq:=rtRight r ⟨hri.1,hri.2.1,by have:=hri.2.2.1;omega,by have:=hri.2.2.2;omega⟩;have crq:Pure prog 41 [.agg [.v (.bool r.s),lim r.l,lim r.d]] (.v (.bool r.ok)):=crq
   cases hro:r.ok with
   | false =>
     rw [hro] at crq;rw [hbr (by unfold RE.ok;rw [hro];rfl)];clear hbr hok hny hnn hacc;obtain⟨s,x,d⟩:=r;simp only at *;generalize q.map Qt.av=Q at *
     (refine wkad (w_9 e3 m200 m201 m202 e13 e14 e15 hlm hgi) (w_1 crq) w_t (w_s ?_);intros)
     all_goals exact gL
   | true =>
     rw [hro] at crq;have hz:=(RQ.ok_av hri hro).2;have hre:=RQ.ok_eq hri hro;have hqm:(q.map Qt.av).length=q.length:=ZCj ..;have hgq:∀k (h:k < q.length),(q.map Qt.av).getD k .u=Qt.av q[k]:=λk h=>Zak Qt.av h;have hbq:∀k (h:k < q.length),Qt.ok q[k]=false→NR=.v (.slice none 0 0):=λk h h2=>hbr (by unfold RE.ok;rw [Zkq (p:=Qt.ok) h h2,ZGk]);have hqk:q.all Qt.ok=true→RE.ok ⟨r,q⟩=true:=λh=>by unfold RE.ok;rw [hro,h];rfl
     have het1:(RE.t ⟨r,q⟩).1=r.q*(sgP q:Rat):=rfl;have het:RE.t ⟨r,q⟩=(r.q*(sgP q:Rat),putP q):=rfl;rw [het] at hny;rw [het1] at hnn;clear het het1 hbr;generalize hx:r.q=x at *;subst hre;clear hro;simp only at *;generalize hQ:q.map Qt.av=Q at *
     (refine wkad (w_10 e3 m200 m201 m202 e13 e14 e15 hlm hgi hqm) (w_1 crq) w_t (w_s ?_);intros)
     rename_i g5 g6 s28;clear crq;have hw0:x*((sgP (q.take 0):Int):Rat)=x:=by show x*((1:Int):Rat)=x;exact ZGt x
     refine Zad (ι:=Nat) (λk e m=>k≤q.length∧(q.take k).all Qt.ok=true∧(e 3=.pbox 200 g 0∧m 201=some (.map h (mpE S))∧m 200=some (.box g 167 [.mp 201 h,.own 202 sv] false)∧m 202=some (.row sv 57 4 (S.map qtA) 0))∧(e 13=.sl 4 A∧e 14=iv l.length∧e 15=iv i)∧(e 30=.sl 4 Q∧e 31=iv q.length∧e 32=iv k)∧(e 6=.pbox 6 g6 0∧m 6=some (.box g6 54 [.v (.bool (decide ((x*((sgP (q.take k):Int):Rat)).num < 0))),lim (toL (x*((sgP (q.take k):Int):Rat)).num.natAbs),lim (toL (x*((sgP (q.take k):Int):Rat)).den)] false))∧∃sv,e 7=.own 28 sv∧m 28=some (.row sv 39 4 ((nsP (q.take k)).map Qt.av) 0)) (λk=>q.length - k) 0 zr ?_ ?_
     ·rintro k e m ⟨hk,hak,⟨e3,m201,m200,m202⟩,⟨e13,e14,e15⟩,⟨e30,e31,e32⟩,⟨e6,m6⟩,s7,e7,m28⟩
      have hwz:Sz (x*((sgP (q.take k):Int):Rat)) (J+1):=hz.mul (Zl5 (Zmh _));have hnl:((nsP (q.take k)).map Qt.av).length=k:=by unfold nsP;rw [ZCj,ZCj,ZCz];omega
      by_cases hkt:k < q.length
      ·have hgk:=hgq k hkt;have hok2:=Zhh (p:=Qt.ok) hkt hak;have hbk:=hbq k hkt;have htk:q.take (k+1)=q.take k++[q[k]]:=by rw [ZFp,ZCs hkt];rfl
       have s1:x*((sgP (q.take (k+1)):Int):Rat)=x*((sgP (q.take k):Int):Rat)*(q[k].norm.2:Rat):=by rw [htk,Zth,Rat.intCast_mul,Rat.mul_assoc]
       have s2:(nsP (q.take (k+1))).map Qt.av=(nsP (q.take k)).map Qt.av++[Qt.av q[k].norm.1]:=by rw [htk];unfold nsP;rw [ZDd,ZDd];rfl
       have hns:=Zgi q[k];have c1:=Zlb q[k].k q[k].a q[k].b q[k].c;have c2:=Zy3 q[k].k q[k].a q[k].b q[k].c;have c3:=Zpk hns;have c4:=ratMul _ _ hwz (Zl5 hns) zo zo;have c4:Pure prog 90 [.agg [.v (.bool (decide ((x*((sgP (q.take k):Int):Rat)).num < 0))),lim (toL (x*((sgP (q.take k):Int):Rat)).num.natAbs),lim (toL (x*((sgP (q.take k):Int):Rat)).den)],ratQ (q[k].norm.2:Rat)] (ratQ (x*((sgP (q.take k):Int):Rat)*(q[k].norm.2:Rat))):=c4;rw [←s1] at c4;clear hgq hbq hqk hny hnn hok htk hak s1 hwz;generalize q[k]=y at *;generalize hW1:x*((sgP (q.take (k+1)):Int):Rat)=w1 at *;generalize x*((sgP (q.take k):Int):Rat)=w0 at *
       generalize (nsP (q.take k)).map Qt.av=PR at *;generalize toL w0.num.natAbs=wn at *;generalize toL w0.den=wd at *;generalize decide (w0.num < 0)=ws at *;generalize S.map qtA=SA at *;generalize mpE S=SM at *;generalize hn1:y.norm.1=nn at *;generalize hn2:y.norm.2=ns at *;obtain⟨y1,y2,y3,y4⟩:=y;simp only at *
       cases hyo:Qt.ok ⟨y1,y2,y3,y4⟩with
       | false =>
         rw [hyo] at c1;rw [hbk hyo];clear s2 c2 c3 c4 hok2 hbk
         (refine wkad (w_16 e3 m200 m201 m202 e13 e14 e15 e30 e31 e32 e6 m6 e7 m28 hqm hgk) (w_1 c1) w_t (w_s ?_);intros)
         all_goals exact gL
       | true =>
         rw [hyo] at c1;have hok3:=hok2 hyo;clear hbk hok2;obtain⟨n1,n2,n3,n4⟩:=nn
         (refine wkad (w_17 e3 m200 m201 m202 e13 e14 e15 e30 e31 e32 e6 m6 e7 m28 hqm hgk hnl) (w_4 c1 c2 c3 c4) (w_1 (w_d 15 [(2,ratQ (ns:Rat)),(3,ratQ w1)] [4] [])) (w_s ?_);intros)
         exact⟨k+1,⟨zo,hok3,⟨gW e3,gW m201,gW m200,gW m202⟩,⟨gW e13,gW e14,gW e15⟩,⟨gW e30,gW e31,gS⟩,⟨gW e6,by rw [hW1];exact gC⟩,_,gC,by rw [s2];exact gC⟩,zo⟩
      ·have hkl:k=q.length:=zo;subst hkl;rw [ZDu] at hak m6 m28 hwz;have hok3:=hok (hqk hak);clear hgq hbq hqk hok;have cz:=Ze1 _ hwz zo;generalize hW:x*((sgP q:Int):Rat)=w at *;have cz:Pure prog 42 [.agg [.v (.bool (decide (w.num < 0))),lim (toL w.num.natAbs),lim (toL w.den)]] (iv w.num.sign):=cz;by_cases hw:w=0
       ·have hnn:=hnn hw;have hz2:w.num.sign=0:=by rw [Zd8];exact hw
        rw [hz2] at cz;clear hny hz2;rw [←hnn] at m201 m202;generalize toL w.num.natAbs=wn at *;generalize toL w.den=wd at *;generalize decide (w.num < 0)=ws at *
        (refine wkad (w_15 e3 m200 m201 m202 e13 e14 e15 e30 e31 e32 e6 m6 e7 m28 hqm) (w_1 cz) w_t (w_s ?_);intros)
        exact⟨i+1,⟨zo,hok3,gW e3,gW m201,⟨sv,gW m200,gW m202⟩,gW e13,gW e14,gS⟩,zo⟩
       ·have hny:=hny hw;have hz2:¬w.num.sign=0:=by rw [Zd8];exact hw
        have hsg:sgP q≠0:=λe=>hw (by rw [←hW,e];exact ZGu x);have hsr:=Zxs hsg;have hpl:=Zki q;have hbb:=Zy6 hak;have hSl:=hacc.2.2;have hSq:=λt ht=>(hacc.1 t ht).1;have hSb:=hacc.2.1;have hMq:=Zii;have ci:=fun(m:Mem) h=>qSort m 28 s7 (nsP q) h (by unfold nsP;rw [ZCj];exact(show q.length≤maxQ by omega));rw [hsr] at ci;clear hnn hsg hak hacc;have cad:=fun(m:Mem) a b c d=>exAddO m 200 201 202 28 g h sv s7 S w (putP q) a b c d zo zo zo zo zo zo zo zo hSb hbb hSq hwz zo zo;rw [←hny] at cad;have cad:∀(m:Mem),m 200=some (.box g 167 [.mp 201 h,.own 202 sv] false)→m 201=some (.map h (mpE S))→m 202=some (.row sv 57 4 (S.map qtA) 0)→m 28=some (.row s7 39 4 ((putP q).map Qt.av) 0)→ACall prog 89 [.pbox 200 g 0,.agg [.v (.bool (decide (w.num < 0))),lim (toL w.num.natAbs),lim (toL w.den)],.own 28 s7] m _:=cad
        generalize w.num.sign=z at *;generalize toL w.num.natAbs=wn at *;generalize toL w.den=wd at *;generalize decide (w.num < 0)=ws at *
        (refine wkad (w_16 e3 m200 m201 m202 e13 e14 e15 e30 e31 e32 e6 m6 e7 m28 hqm hz2) (w_1 cz) w_t (w_s ?_);intros)
        refine Zg6 (ci _ (gW m28)) ?_
        (refine wkad (w_11 e3 m200 m201 m202 e13 e14 e15 e6 m6 e7 hqm) w_t w_t (w_s ?_);intros)
        refine Zdp (cad _ (gW m200) (gW m201) (gW m202) (gC)) ?_
        rintro _ _ ⟨sv2,eP,rfl,rfl⟩
        (refine wkad (w_4 e3 e13 e14 e15) w_t w_t (w_s ?_);intros)
        exact⟨i+1,⟨zo,hok3,gW e3,gC,⟨sv2,gC,gC⟩,gW e13,gW e14,gS⟩,zo⟩
     ·exact⟨ZCr _,rfl,⟨gW e3,gW m201,gW m200,gW m202⟩,⟨gW e13,gW e14,gW e15⟩,⟨gC,gW hqm,gC⟩,⟨gC,by rw [hw0];exact gC⟩,_,gC,gC⟩
  ·have hil:i=l.length:=zo;subst hil;have hacc:=hA l.length (ZCi _) ha;rw [ZDu] at ha hacc m201 m202;have hfin:nrmR l=.sl 4 ((srtQ ordT (nzT (accS (nzT (l.map RE.t))))).map qtA):=by unfold nrmR;rw [ZCh ha,acc_fin]
   have hlen:=hacc.2.2;have hMq:=Zii;have ce:=fun(m:Mem) a b=>exExpr m 200 201 202 300 g h sv (accS (nzT (l.map RE.t))) a b zo (Zft _ [] .nil) hacc.1 zo zo;rw [hfin];clear hg hr hq ha hacc hfin;generalize accS (nzT (l.map RE.t))=S at *;generalize (srtQ ordT (nzT S)).map qtA=R at *
   (refine wkad (w_8 e3 m200 m201 m202 e13 e14 e15 hlm) w_t w_t (w_s ?_);intros)
   refine Zzs (ce _ (gW m200) (gW m202)) ?_;intro sv3
   (refine wkad w_t w_t w_t (w_s ?_);intros)
   all_goals exact gL
 ·refine⟨ZCr _,rfl,gC,gC,⟨_,gC,gC⟩,gC,gW hlm,gC⟩
theorem ZB9 (l:List RE) {J:Nat} (hr:∀t∈l,t.r.lm J) (hq:∀t∈l,t.q.length≤12):∀i,i≤l.length→(l.take i).all RE.ok=true→AccOk (accS (nzT ((l.take i).map RE.t))) i (J+1) 12
 | 0,_,_=>AccOk.nil _ _
 | i+1,hi,ha=>by
   have hlt:i < l.length:=hi;have hta:l.take (i+1)=l.take i++[l[i]]:=by rw [ZEs hlt]
   rw [hta,List.all_append,ZC2] at ha;have ih:=ZB9 l hr hq i zo ha.1;have hok:RE.ok l[i]=true:=by have:=ha.2;simpa using this
   have hri:=hr _ (ZCt hlt);have hqi:=hq _ (ZCt hlt);rw [hta,ZDd];unfold nzT at *;rw [ZFe];unfold RE.ok at hok;rw [ZC2] at hok;by_cases h0:(RE.t l[i]).1=0
   ·rw [ZDq,ZE3,ZF3 (by simpa using h0),List.filter_nil,ZDo];exact ih.mono zo
   ·rw [ZDq,ZE3,ZF4 (by simpa using h0),List.filter_nil,Zl3];exact ih.add (((RQ.ok_av hri hok.1).2).mul (Zl5 (Zmh _))) (ZCk (Zki _) hqi) (Zy6 hok.2)
theorem exNorm (l:List RE) {J:Nat} (hl:l.length≤12) (hr:∀t∈l,t.r.lm J) (hq:∀t∈l,t.q.length≤12) (hJ:J≤1000):Pure prog 78 [.sl 4 (l.map RE.av)] (nrmR l) :=
 Zu0 l (J:=J) (JA:=12*(J+1+2)) (nQ:=12) zo hr hq ZAb zo zo λi hi ha=>by
  have h:=ZB9 l hr hq i hi ha;have h2:i*(J+1+2)≤12*(J+1+2):=ZCw _ zo;exact⟨h.qk.mono h2 (ZCi _),h.b8,by have:=h.len;have:=ZAa;omega⟩
theorem exNormG (l:List RE) {J JA nQ:Nat} (hl:l.length≤1000000) (hr:∀t∈l,t.r.lm J) (hq:∀t∈l,t.q.length≤nQ) (hnQ:nQ≤maxQ) (hJ:J≤900000) (hJA:JA≤1000000)
 (hA:∀i,i≤l.length→(l.take i).all RE.ok=true→QK (accS (nzT ((l.take i).map RE.t))) JA nQ∧B8 (accS (nzT ((l.take i).map RE.t)))∧(accS (nzT ((l.take i).map RE.t))).length≤100000000):Pure prog 78 [.sl 4 (l.map RE.av)] (nrmR l) :=
 Zu0 l hl hr hq hnQ hJ hJA λi hi ha=>by have h:=hA i hi ha;exact⟨h.1,h.2.1,by rw [Zum];exact h.2.2⟩
def okQ (l:List Qt):Prop:=Asc Qt.cmp l∧∀q∈l,q.norm=(q,1)
theorem Zg7 {q:Qt} (h:q.norm=(q,1)):q.ok=true:=by
 cases e:q.ok with
 | true=>rfl
 | false =>
   unfold Qt.norm at h;rw [e,ZCg zs] at h;have:=ZD2 Prod.snd h;simp at this
theorem okQ.b8 {l:List Qt} (h:okQ l):∀q∈l,q.b8:=λq hq=>ok_b8 (Zg7 (h.2 q hq))
theorem rgQ:Go.Pol.RG okQ ordQ muQ [] where
 o:=Zbb
 comm a b:=Ze8 qtO (Zby qtO.cp _) (Zby qtO.cp _) ((Za3 _).trans (List.perm_append_comm.trans (Za3 _).symm))
 assoc a b c:=Ze8 qtO (Zby qtO.cp _) (Zby qtO.cp _) ((Za3 _).trans ((((Za3 _).append_right c).trans (by rw [ZDv])).trans (((Za3 (b++c)).symm.append_left a).trans (Za3 _).symm)))
 one a ha:=Ze8 qtO (Zby qtO.cp _) ha.1 (by show(srtQ Qt.cmp (a++[])).Perm a;rw [ZDo];exact Za3 _)
 cl a b ha hb:=⟨Zby qtO.cp _,λq hq=>by
  rcases List.mem_append.1 ((Za3 _).mem_iff.1 hq) with h | h
  ·exact ha.2 q h
  ·exact hb.2 q h⟩
 de:=⟨.nil,λq hq=>by cases hq⟩
abbrev EX (p:QTs):Prop:=SQ okQ ordQ p
abbrev mulX (p q:QTs):QTs:=mlG ordQ muQ p q
def XB (p:QTs) (k n:Nat):Prop:=EX p∧(∀t∈p,t.2.length≤n)∧∃D B,D≠0∧D < 65536 ^ k∧B < 65536 ^ k∧NB D B p
theorem XB.mono {p:QTs} {k n j m:Nat} (h:XB p k n) (hk:k≤j) (hn:n≤m):XB p j m:=by
 obtain⟨a,b,D,B,c,d,e,f⟩:=h;have hp:65536 ^ k≤65536 ^ j:=ZDl zo hk;exact⟨a,λt ht=>ZCk (b t ht) hn,D,B,c,zo,zo,f⟩
theorem XB.qk {p:QTs} {k n:Nat} (h:XB p k n):QK p (k+k) n:=by
 obtain⟨a,b,D,B,c,d,e,f⟩:=h;exact Zwa f c d e b
theorem XB.nz {p:QTs} {k n:Nat} (h:XB p k n):∀t∈p,t.1≠0:=λt ht=>(h.1.1 t ht).1
theorem mu_len (a b:List Qt):(muQ a b).length=a.length+b.length:=by rw [srtQ_len,ZDa]
theorem Zit {p q:QTs} {m n:Nat} (hp:∀t∈p,t.2.length≤m) (hq:∀t∈q,t.2.length≤n):∀t∈prodL muQ p q,t.2.length≤m+n:=λu hu=>by
 obtain⟨s,hs,t,ht,rfl⟩:=Zf0 hu;show(muQ s.2 t.2).length≤_;rw [mu_len];have:=hp s hs;have:=hq t ht;omega
theorem XB.mul {p q:QTs} {j k m n:Nat} (hp:XB p j m) (hq:XB q k n):XB (mulX p q) (j+k) (m+n):=by
 obtain⟨a,b,D,B,c,d,e,f⟩:=hp;obtain⟨a',b',D',B',c',d',e',f'⟩:=hq;refine⟨Zbh rgQ a a',Zi6 (Zit b b'),D*D',B*B',ZE8 c c',?_,?_,(f.prodL f').sumG⟩
 ·rw [ZDj];exact ZFt d d'
 ·rw [ZDj];exact ZFt e e'
theorem XB.add {p q:QTs} {j k m n:Nat} (hp:XB p j m) (hq:XB q k n):XB (Zav p q) (j+k+1) (max m n):=by
 obtain⟨a,b,D,B,c,d,e,f⟩:=hp;obtain⟨a',b',D',B',c',d',e',f'⟩:=hq;have h1:65536 ^ j≤65536 ^ (j+k):=ZDl zo zo;have h2:65536 ^ k≤65536 ^ (j+k):=ZDl zo zo;have h3:65536 ^ (j+k+1)=65536 ^ (j+k)*65536:=ZDk ..;have h4:D*D' < 65536 ^ (j+k):=by rw [ZDj];exact ZFt d d'
 refine⟨Zgp Zbb a a',λt ht=>?_,D*D',B+B',ZE8 c c',zo,zo,(f.mono (ZF2 ..) (ZCi _)).addP (f'.mono (ZH2 ..) (ZCi _))⟩;rcases Zg8 ht with h | h | ⟨s,hs,u,hu,rfl⟩
 ·exact ZCk (b t h) (Nat.le_max_left ..)
 ·exact ZCk (b' t h) (Nat.le_max_right ..)
 ·exact ZCk (b s hs) (Nat.le_max_left ..)
theorem Zc4 (p q:QTs):(mulX p q).length≤p.length*q.length:=by
 have:∀l:QTs,(gatM l).length≤l.length:=λl=>by
  obtain⟨j,hj⟩:∃j,QK l j ((l.map λt=>t.2.length).sum):=by
   induction l with
   | nil=>exact⟨0,λt ht=>by cases ht⟩
   | cons a l ih =>
     obtain⟨j,hj⟩:=ih;refine⟨max j (max (toL a.1.num.natAbs).length (toL a.1.den).length),λt ht=>?_⟩;rw [ZDq,List.sum_cons];rcases List.mem_cons.1 ht with rfl | ht
     ·exact⟨⟨zo,zo⟩,zo⟩
     ·exact⟨(hj t ht).1.mono zo,by have:=(hj t ht).2;omega⟩
  exact(Zmv _ l rfl hj).2
 have h:=this (prodL muQ p q)
 rwa [Ziu] at h
theorem Znp {mu:List Qt→List Qt→List Qt} {q:QTs}:∀{p:QTs} {i j:Nat} (hi:i < p.length) (hj:j < q.length),(prodL mu p q)[i*q.length+j]?=some (p[i].1*q[j].1,mu p[i].2 q[j].2)
 | a :: p,0,j,_,hj=>by
   rw [Zf1,ZD9 (by rw [ZCj];omega),ZE6,ZC9,ZDn,ZCs hj];rfl
 | a :: p,i+1,j,hi,hj=>by
   rw [Zf1,ZEa (by rw [ZCj,ZD8];omega),ZCj,show(i+1)*q.length+j - q.length=i*q.length+j by rw [ZD8];omega];exact Znp (by simpa using hi) hj
theorem Zkv {α:Type} {l:List α} {c:Nat} {x:α} (h:l[c]?=some x):l.take (c+1)=l.take c++[x]:=by
 rw [ZFp,h];rfl
theorem acc_nb {D:Nat} (L:QTs):∀{B C:Nat} (acc:QTs),NB D B acc→NB D C L→NB D (B+C) (L.foldl addC acc):=by
 induction L with
 | nil=>intro B C acc h _;exact h.mono (ZEv _) (ZHq _ _)
 | cons t L ih =>
   intro B C acc h k;have h1:=h.addC (C:=cl t.1) (k.1 t (.head _)) (ZCi _);have h2:NB D (C - cl t.1) L:=⟨λu hu=>k.1 u (.tail _ hu),by have:=k.2;rw [Zbd] at this;omega⟩;have h3:cl t.1≤C:=by have:=k.2;rw [Zbd] at this;omega
   exact(ih _ h1 h2).mono (ZEv _) zo
theorem Zjp {P:List Qt→Prop} (L:QTs):∀(acc:QTs),(∀t∈acc,P t.2)→(∀t∈L,P t.2)→∀t∈L.foldl addC acc,P t.2:=by
 induction L with
 | nil=>intro acc h _;exact h
 | cons s L ih =>
   intro acc h k;refine ih _ (λt ht=>?_) λt ht=>k t (.tail _ ht);rcases Zov ht with h1 | rfl | ⟨v,hv,rfl⟩
   ·exact h t h1
   ·exact k _ (.head _)
   ·exact h v hv
theorem ZCa (L:QTs):∀(acc:QTs),(L.foldl addC acc).length≤acc.length+L.length:=by
 induction L with
 | nil=>intro acc;exact ZCi _
 | cons s L ih =>
   intro acc;refine ZCk (ih _) ?_;have:=Zve acc s;rw [ZCu];omega
theorem Zr7 (L:QTs):srtQ ordT (nzT (accS L))=gatM L:=Znc Zbb L
theorem exMulT (p q:QTs) {j k m n:Nat} (hp:XB p j m) (hq:XB q k n) (hmn:m+n≤maxQ) (hl:p.length*q.length≤maxT) (hpl:p.length≤100000000) (hql:q.length≤100000000) (hj:j≤100000) (hk:k≤100000):Pure prog 40 [qpA p,qpA q] (qpA (mulX p q)):=by
 have hMT:=Zn0;have hM:=Zii;have hpm:(p.map qtA).length=p.length:=ZCj ..;have hqm:(q.map qtA).length=q.length:=ZCj ..;have gp:∀i (h:i < p.length),(p.map qtA).getD i .u=qtA p[i]:=λi h=>Zak qtA h;have gq:∀i (h:i < q.length),(q.map qtA).getD i .u=qtA q[i]:=λi h=>Zak qtA h;have kp:=hp.qk;have kq:=hq.qk;have hop:∀t∈p,okQ t.2:=hp.1.dom;have hoq:∀t∈q,okQ t.2:=hq.1.dom
 have hacc:∀c,c≤p.length*q.length→QK (accS ((prodL muQ p q).take c)) (j+k+(j+k)) (m+n)∧B8 (accS ((prodL muQ p q).take c))∧(accS ((prodL muQ p q).take c)).length≤maxT:=by
  intro c hc;obtain⟨a,b,D,B,c1,d,e,f⟩:=hp;obtain⟨a',b',D',B',c',d',e',f'⟩:=hq;have hn:=acc_nb ((prodL muQ p q).take c) [] (NB.nil _ 0) ((f.prodL f').take c);rw [ZC9] at hn;have hmem:∀t∈(prodL muQ p q).take c,t.2.length≤m+n∧okQ t.2:=λt ht=>by
   have ht:=ZDw ht;refine⟨Zit b b' t ht,?_⟩;obtain⟨s,hs,u,hu,rfl⟩:=Zf0 ht;exact rgQ.cl _ _ (hop s hs) (hoq u hu)
  refine⟨Zwa hn (ZE8 c1 c') (by rw [ZDj];exact ZFt d d') (by rw [ZDj];exact ZFt e e') ?_,?_,?_⟩
  ·exact Zjp (P:=λx=>x.length≤m+n) _ [] (λt ht=>by cases ht) λt ht=>(hmem t ht).1
  ·exact Zjp (P:=λx=>∀q∈x,q.b8) _ [] (λt ht=>by cases ht) λt ht=>(hmem t ht).2.b8
  ·refine ZCk (ZCa _ _) ?_;rw [ZC6,ZCz,Ziu];omega
 have hstep:∀i l (h1:i < p.length) (h2:l < q.length),accS ((prodL muQ p q).take (i*q.length+l+1))=addC (accS ((prodL muQ p q).take (i*q.length+l))) (p[i].1*q[l].1,muQ p[i].2 q[l].2):=λi l h1 h2=>by
  rw [Zkv (Znp h1 h2)];exact Zl3 _ _
 have hfin:mulX p q=srtQ ordT (nzT (accS ((prodL muQ p q).take (p.length*q.length)))):=by
  rw [Zr7,ZEb (by rw [Ziu];exact ZCi _)];rfl
 have hdst:Dst (accS ((prodL muQ p q).take (p.length*q.length))):=Zft _ [] .nil;have hac0:accS ((prodL muQ p q).take 0)=[]:=by rw [ZEy];rfl
 have hq0:∀t∈q,t.2.length≤n:=λt ht=>(kq t ht).2;rw [hfin];clear hfin hp hq;generalize hPR:(λc=>accS ((prodL muQ p q).take c))=PR at *;have hPR:∀c,accS ((prodL muQ p q).take c)=PR c:=λc=>by rw [←hPR]
 simp only [hPR] at hacc hstep hdst hac0 ⊢;clear hPR;show Pure _ _ [.sl 4 (p.map qtA),.sl 4 (q.map qtA)] (.sl 4 ((srtQ ordT (nzT (PR (p.length*q.length)))).map qtA));generalize p.map qtA=A at *;generalize q.map qtA=B at *;refine pI func40 rfl ntmps40 results40 call40 ?_
 (refine wkad w_t w_t w_t (w_s ?_);intros)
 refine Zdp (exNew _ 200 201 zo) ?_
 rintro _ _ ⟨g,h,rfl,rfl⟩
 (refine wkad (w_1 hpm) w_t w_t (w_s ?_);intros)
 refine Zdj (Frz.nilBox (k:=200) 1 202 4 57 (gC) rfl zo) ?_;refine Zad (ι:=Nat) (λi e M=>i≤p.length∧e 1=.sl 4 B∧e 5=.pbox 200 g 0∧M 201=some (.map h (mpE (PR (i*q.length))))∧(∃sv,M 200=some (.box g 167 [.mp 201 h,.own 202 sv] false)∧M 202=some (.row sv 57 4 ((PR (i*q.length)).map qtA) 0))∧e 11=.sl 4 A∧e 12=iv p.length∧e 13=iv i) (λi=>p.length - i) 0 zr ?_ ?_
 ·rintro i e M ⟨hi,e1,e5,m201,⟨sv,m200,m202⟩,e11,e12,e13⟩
  by_cases hlt:i < p.length
  ·have gpi:=gp i hlt;have kpi:=kp _ (ZCt hlt);have hsti:=λl h2=>hstep i l hlt h2;have hopi:=hop _ (ZCt hlt);have hci:∀l,l≤q.length→i*q.length+l≤p.length*q.length:=λl h=>by
    have:=ZCw q.length (show i+1≤p.length from hlt);rw [ZD8] at this;omega
   have hsucc:(i+1)*q.length=i*q.length+q.length:=ZD8 ..;clear gp kp hstep hop;generalize p[i]=u at *;generalize i*q.length=ci at *;obtain⟨u1,u2⟩:=u;simp only at kpi hsti hopi;have gpi:A.getD i .u=.agg [.v (.bool (decide (u1.num < 0))),lim (toL u1.num.natAbs),lim (toL u1.den),.sl 4 (u2.map Qt.av)]:=gpi;have cm0:=fun(v:Rat) (hv:Sz v (k+k))=>ratMul u1 v kpi.1 hv zo zo;have cm0:∀v:Rat,Sz v (k+k)→Pure prog 90 [.agg [.v (.bool (decide (u1.num < 0))),lim (toL u1.num.natAbs),lim (toL u1.den)],ratQ v] (ratQ (u1*v)):=cm0;have ct0:=fun(v:List Qt) (hv:v.length≤n)=>exTimes u2 v (by have:=kpi.2;omega)
   have ct0:∀v:List Qt,v.length≤n→Pure prog 91 [.sl 4 (u2.map Qt.av),qsA v] (qsA (muQ u2 v)):=ct0;have hmq:∀v:List Qt,v.length≤n→(muQ u2 v).length≤1000:=λv hv=>by rw [mu_len];have:=kpi.2;omega
   have hmo:∀v:List Qt,okQ v→∀q∈muQ u2 v,q.b8:=λv hv=>(rgQ.cl _ _ hopi hv).b8;have hsu:∀v:Rat,Sz v (k+k)→Sz (u1*v) (j+j+(k+k)):=λv hv=>kpi.1.mul hv;clear kpi hopi;generalize toL u1.num.natAbs=un at *;generalize toL u1.den=ud at *;generalize decide (u1.num < 0)=us at *;generalize u2.map Qt.av=UQ at *
   (refine wkad (w_11 e1 e5 m200 m201 m202 e11 e12 e13 hpm hqm gpi) w_t w_t (w_s ?_);intros)
   rename_i g7;refine Zad (ι:=Nat) (λl e M=>l≤q.length∧(e 1=.sl 4 B∧e 5=.pbox 200 g 0∧e 11=.sl 4 A∧e 12=iv p.length∧e 13=iv i)∧(M 201=some (.map h (mpE (PR (ci+l))))∧∃sv,M 200=some (.box g 167 [.mp 201 h,.own 202 sv] false)∧M 202=some (.row sv 57 4 ((PR (ci+l)).map qtA) 0))∧(e 7=.pbox 7 g7 0∧M 7=some (.box g7 57 [.v (.bool us),lim un,lim ud,.sl 4 UQ] false))∧e 17=.sl 4 B∧e 18=iv q.length∧e 19=iv l) (λl=>q.length - l) 0 zr ?_ ?_
   ·rintro l e M ⟨hl2,⟨e1,e5,e11,e12,e13⟩,⟨m201,sv,m200,m202⟩,⟨e7,m7⟩,e17,e18,e19⟩
    by_cases hlq:l < q.length
    ·have gql:=gq l hlq;have kql:=kq _ (ZCt hlq);have hst:=hsti l hlq;have hoql:=hoq _ (ZCt hlq);obtain⟨a1,a2,a3⟩:=hacc (ci+l) (by have:=hci (l+1) zo;omega);clear gq kq hsti hoq hacc hac0 hdst;generalize q[l]=v at *;obtain⟨v1,v2⟩:=v;simp only at kql hst hoql;have gql:B.getD l .u=.agg [.v (.bool (decide (v1.num < 0))),lim (toL v1.num.natAbs),lim (toL v1.den),.sl 4 (v2.map Qt.av)]:=gql;have cm:=cm0 v1 kql.1;have ct:=ct0 v2 kql.2;have hb:=hmo v2 hoql;have hsz:=hsu v1 kql.1;have hml:=hmq v2 kql.2;have cad:=fun(m:Mem) a b c=>exAdd m 200 201 202 g h sv (PR (ci+l)) (u1*v1) (muQ u2 v2) a b c zo zo zo (ZCk a3 Zn0) hml a2 hb (λt ht=>(a1 t ht).1) hsz zo zo
     rw [←hst] at cad;have cm:Pure prog 90 [.agg [.v (.bool us),lim un,lim ud],.agg [.v (.bool (decide (v1.num < 0))),lim (toL v1.num.natAbs),lim (toL v1.den)]] (ratQ (u1*v1)):=cm;have ct:Pure prog 91 [.sl 4 UQ,.sl 4 (v2.map Qt.av)] (.sl 4 ((muQ u2 v2).map Qt.av)):=ct;have cad:∀m:Mem,m 200=some (.box g 167 [.mp 201 h,.own 202 sv] false)→m 201=some (.map h (mpE (PR (ci+l))))→m 202=some (.row sv 57 4 ((PR (ci+l)).map qtA) 0)→ACall prog 89 [.pbox 200 g 0,ratQ (u1*v1),.sl 4 ((muQ u2 v2).map Qt.av)] m _:=cad;clear cm0 ct0 hmo hmq hsu a1 a2 a3 hst hb hml hsz kql;generalize u1*v1=w at *
     generalize (muQ u2 v2).map Qt.av=MQ at *;generalize toL v1.num.natAbs=vn at *;generalize toL v1.den=vd at *;generalize decide (v1.num < 0)=vs at *;generalize v2.map Qt.av=VQ at *
     (refine wkad (w_15 e1 e5 m200 m201 m202 e11 e12 e13 e7 m7 e17 e18 e19 hqm gql) (w_2 cm ct) (w_1 (w_d 8 [(5,ratQ w),(10,.sl 4 MQ)] [11] [])) (w_s ?_);intros)
     refine Zdp (cad _ (gW m200) (gW m201) (gW m202)) ?_
     rintro _ _ ⟨sv2,rfl,rfl⟩
     (refine wkad (w_9 e1 e5 e11 e12 e13 e7 e17 e18 e19) w_t w_t (w_s ?_);intros)
     exact⟨l+1,⟨zo,⟨gW e1,gW e5,gW e11,gW e12,gW e13⟩,⟨gC,sv2,gC,gC⟩,⟨gW e7,gW m7⟩,gW e17,gW e18,gS⟩,zo⟩
    ·have hle:l=q.length:=zo;subst hle;rw [←hsucc] at m201 m202
     (refine wkad (w_14 e1 e5 m200 m201 m202 e11 e12 e13 e7 m7 e17 e18 e19 hqm) w_t w_t (w_s ?_);intros)
     exact⟨i+1,⟨zo,gW e1,gW e5,gW m201,⟨sv,gW m200,gW m202⟩,gW e11,gW e12,gS⟩,zo⟩
   ·exact⟨ZCr _,⟨gW e1,gW e5,gW e11,gW e12,gW e13⟩,⟨gW m201,sv,gW m200,gW m202⟩,⟨gC,gC⟩,gC,gW hqm,gC⟩
  ·have hil:i=p.length:=zo;subst hil;obtain⟨a1,a2,a3⟩:=hacc (p.length*q.length) (ZCi _);have ce:=fun(m:Mem) a b=>exExpr m 200 201 202 300 g h sv (PR (p.length*q.length)) a b a3 hdst a1 zo zo;clear hacc hstep gp gq kp kq hop hoq;generalize PR (p.length*q.length)=S at *;generalize (srtQ ordT (nzT S)).map qtA=R at *
   (refine wkad (w_9 e1 e5 m200 m201 m202 e11 e12 e13 hpm) w_t w_t (w_s ?_);intros)
   refine Zzs (ce _ (gW m200) (gW m202)) ?_;intro sv3
   (refine wkad w_t w_t w_t (w_s ?_);intros)
   all_goals exact gL
 ·exact⟨ZCr _,gC,gC,by rw [ZE6,hac0];exact gC,⟨_,gC,by rw [ZE6,hac0];exact gC⟩,gC,gW hpm,gC⟩
theorem ZAw (p q:QTs) {j k m n:Nat} (hp:XB p j m) (hq:XB q k n) (hmn:m+n≤maxQ) (hl:p.length*q.length≤100000000) (hpl:p.length≤100000000) (hql:q.length≤100000000) (hj:j≤100000) (hk:k≤100000):Pure prog 40 [qpA p,qpA q] (qpA (mulX p q)) :=
 exMulT p q hp hq hmn (by rw [Zum];exact hl) hpl hql hj hk
section
attribute [local go_sem] underlying3 underlying4 underlying128 underlying50 underlying52 underlying54 underlying39 underlying55 underlying57 underlying26 underlying27 sz3 by3 z3 szB zB Zaw zRat Zay zInt Zax zNat Zah Zap Zai Bool.and_self Zal Za8 zSlQ szQT byQT zQT Zba zSlT szQP zQP underlying81 underlying29 szFr byFr zFr Zb4 Zb6 zSQP
end
attribute [local go_sem] undFnR
def rawQ (a:Rat):RQ:=⟨decide (a.num < 0),toL a.num.natAbs,toL a.den⟩
theorem Zk7 {a:Rat} {k:Nat} (h:Sz a k):(rawQ a).lm k:=⟨Zar _,Zar _,h.1,h.2⟩
theorem Zrq (a:Rat):(rawQ a).ok=true:=by
 unfold rawQ RQ.ok RQ.zok;simp only [ZC2,ZDb,ZEz,ZEk,Zao];refine⟨⟨⟨⟨(Zip (Zar _)).2 (by rw [Zao]),?_⟩,(Zip (Zar _)).2 (by rw [Zao])⟩,a.reduced⟩,Zbc.2 (ZEe a.den_nz)⟩;by_cases h:a.num < 0
 ·have:(toL a.num.natAbs).length≠0:=by have:=Zbc.2 (show 0 < a.num.natAbs by omega);omega
  simp [h,this]
 ·simp [h]
theorem Zyv (a:Rat):(rawQ a).q=a:=by
 unfold rawQ RQ.q;simp only [Zao];rw [show zI (decide (a.num < 0)) a.num.natAbs=a.num from by unfold zI;by_cases h:a.num < 0<;>simp [h]<;>omega];exact ZGj a
def cstE (a:Rat):List RE:=[⟨rawQ a,[]⟩]
def ofE (q:Qt):List RE:=[⟨rawQ 1,[q]⟩]
theorem Zub (l:List RE):(∃G,nrmR l=.sl 4 G)∨nrmR l=.v (.slice none 0 0):=by
 unfold nrmR;split
 ·exact .inl ⟨_,rfl⟩
 ·exact .inr rfl
theorem Zuc {f:Nat} {s:Bool} {x d:List Nat} {NR:AV} (c:Pure prog f [.sl 4 [RE.av ⟨⟨s,x,d⟩,[]⟩]] NR):Pure prog f [.sl 4 [.agg [.v (.bool s),lim x,lim d,.v (.slice none 0 0)]]] NR:=by
 refine Zhr c (.cons (Vk.slL rfl (λe he=>by rw [List.mem_singleton.1 he];rfl) (λe he=>by rw [List.mem_singleton.1 he];rfl) ?_) .nil);exact .cons (.refl _) (.cons (.refl _) (.cons (.refl _) (.cons (.nil 4) .nil)))
theorem Zss (a:Rat) {J:Nat} (ha:Sz a J) (hJ:J≤1000):Pure prog 55 [ratQ a] (nrmR (cstE a)):=by
 have c:=Zuc (exNorm (cstE a) (J:=J) (by simp [cstE]) (λt ht=>by rw [List.mem_singleton.1 ht];exact Zk7 ha) (λt ht=>by rw [List.mem_singleton.1 ht];simp) hJ);show Pure _ _ [.agg [.v (.bool (decide (a.num < 0))),lim (toL a.num.natAbs),lim (toL a.den)]] _;rcases Zub (cstE a) with⟨G,h⟩ | h
 all_goals
  rw [h] at c ⊢;clear h ha;generalize toL a.num.natAbs=x at *;generalize toL a.den=d at *;refine pI func55 rfl ntmps55 results55 call55 ?_
  (refine wkax w_t w_t w_t (w_1 c) w_t w_t w_y (w_r 0) (w_s ?_);intros)
  all_goals exact gL
theorem Zx6 (a:Rat) {J:Nat} (ha:Sz a J) (hJ:J≤800):Pure prog 66 [ratQ a] (nrmR (cstE a)):=by
 have c:=Zuc (rxNorm (cstE a) (J:=J) (by simp [cstE]) (λt ht=>by rw [List.mem_singleton.1 ht];exact Zk7 ha) (λt ht=>by rw [List.mem_singleton.1 ht];simp) hJ);show Pure _ _ [.agg [.v (.bool (decide (a.num < 0))),lim (toL a.num.natAbs),lim (toL a.den)]] _;rcases Zub (cstE a) with⟨G,h⟩ | h
 all_goals
  rw [h] at c ⊢;clear h ha;generalize toL a.num.natAbs=x at *;generalize toL a.den=d at *;refine pI func66 rfl ntmps66 results66 call66 ?_
  (refine wkax w_t w_t w_t (w_1 c) w_t w_t w_y (w_r 0) (w_s ?_);intros)
  all_goals exact gL
theorem exOf (q:Qt):Pure prog 35 [q.av] (nrmR (ofE q)):=by
 have c:Pure prog 78 [.sl 4 [.agg [.v (.bool (decide ((1:Rat).num < 0))),lim (toL (1:Rat).num.natAbs),lim (toL (1:Rat).den),.sl 4 [.agg [iv q.k,iv q.a,iv q.b,iv q.c]]]]] (nrmR (ofE q)):=exNorm (ofE q) (J:=1) (by simp [ofE]) (λt ht=>by rw [List.mem_singleton.1 ht];exact Zk7 (Zl5 (.inr (.inr rfl)))) (λt ht=>by rw [List.mem_singleton.1 ht];simp) zo;have c1:Pure prog 56 [iv 1] (.agg [.v (.bool (decide ((1:Rat).num < 0))),lim (toL (1:Rat).num.natAbs),lim (toL (1:Rat).den)]):=Zvw 1 zo;generalize decide ((1:Rat).num < 0)=s1 at *;generalize toL (1:Rat).num.natAbs=x1 at *;generalize toL (1:Rat).den=d1 at *
 obtain⟨k,a,b,cc⟩:=q;simp only at *;rcases Zub (ofE ⟨k,a,b,cc⟩) with⟨G,h⟩ | h
 ·rw [h] at c ⊢;clear h;refine pI func35 rfl ntmps35 results35 call35 ?_
  (refine wkad w_t (w_2 c1 c) (w_1 (w_d 1 [(0,.agg [.v (.bool s1),lim x1,lim d1]),(2,.sl 4 [.agg [iv k,iv a,iv b,iv cc]]),(4,.sl 4 [.agg [.v (.bool s1),lim x1,lim d1,.sl 4 [.agg [iv k,iv a,iv b,iv cc]]]]),(5,.sl 4 G)] [] [])) (w_s ?_);intros)
  all_goals exact gL
 ·rw [h] at c ⊢;clear h;refine pI func35 rfl ntmps35 results35 call35 ?_
  (refine wkad w_t (w_2 c1 c) (w_1 (w_d 1 [(0,.agg [.v (.bool s1),lim x1,lim d1]),(2,.sl 4 [.agg [iv k,iv a,iv b,iv cc]]),(4,.sl 4 [.agg [.v (.bool s1),lim x1,lim d1,.sl 4 [.agg [iv k,iv a,iv b,iv cc]]]]),(5,.v (.slice none 0 0))] [] [])) (w_s ?_);intros)
  all_goals exact gL
theorem rxOf (q:Qt):Pure prog 58 [q.av] (nrmR (ofE q)):=by
 have c:Pure prog 119 [.sl 4 [.agg [.v (.bool (decide ((1:Rat).num < 0))),lim (toL (1:Rat).num.natAbs),lim (toL (1:Rat).den),.sl 4 [.agg [iv q.k,iv q.a,iv q.b,iv q.c]]]]] (nrmR (ofE q)):=rxNorm (ofE q) (J:=1) (by simp [ofE]) (λt ht=>by rw [List.mem_singleton.1 ht];exact Zk7 (Zl5 (.inr (.inr rfl)))) (λt ht=>by rw [List.mem_singleton.1 ht];simp) zo;have c1:Pure prog 65 [iv 1] (.agg [.v (.bool (decide ((1:Rat).num < 0))),lim (toL (1:Rat).num.natAbs),lim (toL (1:Rat).den)]):=qOf 1 zo;generalize decide ((1:Rat).num < 0)=s1 at *;generalize toL (1:Rat).num.natAbs=x1 at *;generalize toL (1:Rat).den=d1 at *
 obtain⟨k,a,b,cc⟩:=q;simp only at *;rcases Zub (ofE ⟨k,a,b,cc⟩) with⟨G,h⟩ | h
 ·rw [h] at c ⊢;clear h;refine pI func58 rfl ntmps58 results58 call58 ?_
  (refine wkad w_t (w_2 c1 c) (w_1 (w_d 1 [(0,.agg [.v (.bool s1),lim x1,lim d1]),(2,.sl 4 [.agg [iv k,iv a,iv b,iv cc]]),(4,.sl 4 [.agg [.v (.bool s1),lim x1,lim d1,.sl 4 [.agg [iv k,iv a,iv b,iv cc]]]]),(5,.sl 4 G)] [] [])) (w_s ?_);intros)
  all_goals exact gL
 ·rw [h] at c ⊢;clear h;refine pI func58 rfl ntmps58 results58 call58 ?_
  (refine wkad w_t (w_2 c1 c) (w_1 (w_d 1 [(0,.agg [.v (.bool s1),lim x1,lim d1]),(2,.sl 4 [.agg [iv k,iv a,iv b,iv cc]]),(4,.sl 4 [.agg [.v (.bool s1),lim x1,lim d1,.sl 4 [.agg [iv k,iv a,iv b,iv cc]]]]),(5,.v (.slice none 0 0))] [] [])) (w_s ?_);intros)
  all_goals exact gL
theorem Zti (q:QTs):sclT 1 q=q:=by
 unfold sclT;have:(λt:Rat × List Qt=>((1*t.1,t.2):Rat × List Qt))=id:=by funext t;show(1*t.1,t.2)=t;rw [ZGl]
 rw [this,List.map_id]
theorem exPlus (p q:QTs) {j k n:Nat} (hp:QK p j n) (hq:QK q k n) (np:∀t∈p,t.1≠0) (nq:∀t∈q,t.1≠0) (lp:p.length≤100000000) (lq:q.length≤100000000) (hj:j≤900000) (hk:k≤900000) (hn:n≤1000000):Pure prog 82 [qpA p,qpA q] (qpA (Zav p q)):=by
 have c:=ZAx _ _ opAdd p q hp hq np nq lp lq hj hk hn;rw [Zti] at c;have c:Pure prog 138 [.agg [.fn 139 []],.sl 4 (p.map qtA),.sl 4 (q.map qtA)] (.sl 4 ((Zav p q).map qtA)):=c;show Pure _ _ [.sl 4 (p.map qtA),.sl 4 (q.map qtA)] (.sl 4 ((Zav p q).map qtA));generalize (Zav p q).map qtA=R at *;generalize p.map qtA=A at *;generalize q.map qtA=B at *;refine pI func82 rfl ntmps82 results82 call82 ?_
 (refine wkap w_t (w_1 c) (w_r 0) (w_s ?_);intros)
 all_goals exact gL
theorem exMinus (p q:QTs) {j k n:Nat} (hp:QK p j n) (hq:QK q k n) (np:∀t∈p,t.1≠0) (nq:∀t∈q,t.1≠0) (lp:p.length≤100000000) (lq:q.length≤100000000) (hj:j≤900000) (hk:k≤900000) (hn:n≤1000000):Pure prog 80 [qpA p,qpA q] (qpA (Zav p (sclT (-1) q))):=by
 have c:=ZAx _ _ opSub p q hp hq np nq lp lq hj hk hn;have c:Pure prog 138 [.agg [.fn 137 []],.sl 4 (p.map qtA),.sl 4 (q.map qtA)] (.sl 4 ((Zav p (sclT (-1) q)).map qtA)):=c;show Pure _ _ [.sl 4 (p.map qtA),.sl 4 (q.map qtA)] (.sl 4 ((Zav p (sclT (-1) q)).map qtA));generalize (Zav p (sclT (-1) q)).map qtA=R at *;generalize p.map qtA=A at *;generalize q.map qtA=B at *;refine pI func80 rfl ntmps80 results80 call80 ?_
 (refine wkap w_t (w_1 c) (w_r 0) (w_s ?_);intros)
 all_goals exact gL
attribute [go_sem] underlying81 underlying29 szFr byFr zFr zSQP
attribute [local go_sem] Zb4 Zb6
theorem xbC (p:QTs) (n:Nat) (h:(∀t∈p,t.1≠0∧(t.2.Pairwise λa b=>Qt.cmp a b≤0)∧(∀q∈t.2,q.norm=(q,1))∧t.2.length≤n∧t.1.den ∣ 1)∧(p.Pairwise λs t=>ordQ s.2 t.2 < 0)∧n1 p≤65535):XB p 1 n :=
 ⟨⟨λt ht=>⟨(h.1 t ht).1,(h.1 t ht).2.1,(h.1 t ht).2.2.1⟩,h.2.1⟩,λt ht=>(h.1 t ht).2.2.2.1,1,65535,by decide,by decide,by decide,⟨λt ht=>(h.1 t ht).2.2.2.2,h.2.2⟩⟩
theorem Zzu {l:List RE} (h:l.all RE.ok=true):nrmR l=qpA (gatM (l.map RE.t)):=by unfold nrmR;rw [ZCh h]
theorem gat_C {l m:QTs} (h:Go.Pol.sumC ordQ l=m):gatM l=m:=by rw [←h];exact(Znc Zbb l).symm
theorem Zp7 {p q r:QTs} (h:Go.Pol.sumC ordQ (prodL muQ p q)=r):mulX p q=r:=gat_C h
theorem Zw1 {p q r:QTs} (hp:EX p) (hq:EX q) (h:Go.Pol.sumC ordQ (p++q)=r):Zav p q=r:=by
 rw [←h,Znc Zbb];exact Zhb (D:=okQ) Zbb (Zgp Zbb hp hq) (Zgy Zbb λt ht=>(List.mem_append.1 ht).elim (hp.dom t) (hq.dom t)) λφ=>by rw [Zil Zbb,Zu1 Zbb,ZA2]
theorem Ze2 (l:List Qt):qtA ((1:Rat),l)=.agg [.v (.bool false),lim [1],lim [1],qsA l]:=by
 show AV.agg [.v (.bool (decide ((1:Rat).num < 0))),lim (toL (1:Rat).num.natAbs),lim (toL (1:Rat).den),qsA l]=_;rw [show(1:Rat).num=1 from rfl,show(1:Rat).den=1 from rfl,show(1:Int).natAbs=1 from rfl,Zq2];rfl
theorem Zh7:Sz (1:Rat) 1:=Zl5 (.inr (.inr rfl))
theorem Zkg:ratQ (1:Rat)=.agg [.v (.bool false),lim [1],lim [1]]:=by
 show AV.agg [.v (.bool (decide ((1:Rat).num < 0))),lim (toL (1:Rat).num.natAbs),lim (toL (1:Rat).den)]=_;rw [show(1:Rat).num=1 from rfl,show(1:Rat).den=1 from rfl,show(1:Int).natAbs=1 from rfl,Zq2];rfl
abbrev oneE (q:List Qt):RE:=⟨rawQ 1,q⟩
theorem oneE_t {q:List Qt} (h1:sgP q=1) (h2:putP q=q):RE.t (oneE q)=(1,q):=by
 show((rawQ 1).q*(sgP q:Rat),putP q)=_;rw [Zyv,h1,h2,show((1:Int):Rat)=1 from rfl,ZGt]
theorem awConst1:Pure prog 55 [.agg [.v (.bool false),lim [1],lim [1]]] (.sl 4 [.agg [.v (.bool false),lim [1],lim [1],.sl 4 []]]):=by
 have c:=Zss 1 Zh7 zo;rw [Zzu (by show(RE.ok (oneE []) && true)=true;rw [ZG1];show((rawQ 1).ok && true)=true;rw [Zrq];rfl)] at c
 have e:gatM ((cstE 1).map RE.t)=[((1:Rat),[])]:=by
  show gatM [RE.t (oneE [])]=_;rw [oneE_t rfl rfl,Zlo,ZCg zd]
 rw [e,Zkg] at c;simp only [qpA,ZDq,ZE3,Ze2] at c;exact c
def Zkc (q:List Qt) (i:Nat):Bool:=decide ((q.getD i Qt.zero).norm=(q.getD i Qt.zero,1)) && (decide (i=0) || decide (Qt.cmp (q.getD (i - 1) Qt.zero) (q.getD i Qt.zero)≤0))
def Zl7 (q:List Qt):Bool:=(List.range q.length).all (Zkc q)
def RE.zero:RE:=⟨⟨false,[],[]⟩,[]⟩
def Zgt (l:List RE) (i:Nat):Bool:=(l.getD i RE.zero).r.ok && (!decide ((l.getD i RE.zero).r.q=0) && (Zl7 (l.getD i RE.zero).q && (decide (i=0) || decide (ordQ (l.getD (i - 1) RE.zero).q (l.getD i RE.zero).q < 0))))
def rgtB (l:List RE):Bool:=(List.range l.length).all (Zgt l)
theorem Zpl {n i:Nat} {p:Nat→Bool} (h:i < n) (hp:p i=false):(List.range n).all p=false:=by
 rw [List.all_eq_false];exact⟨i,List.mem_range.2 h,by simp [hp]⟩
theorem Zmk {n:Nat} {p:Nat→Bool} (h:∀i,i < n→p i=true):(List.range n).all p=true:=by
 rw [ZFk];exact λi hi=>h i (List.mem_range.1 hi)
theorem qt_atD {l:List Qt} {i:Nat} (h:i < l.length):(l.map Qt.av).getD i .u=Qt.av (l.getD i Qt.zero):=qt_at h
theorem rxProd (q:List Qt) (hl:q.length≤1000000):Pure prog 103 [qsA q] (.v (.bool (Zl7 q))):=by
 have hlm:(q.map Qt.av).length=q.length:=ZCj ..;have hg:∀j,j < q.length→(q.map Qt.av).getD j .u=Qt.av (q.getD j Qt.zero):=λj h=>qt_atD h;have hbad:∀i,i < q.length→Zkc q i=false→Zl7 q=false:=λi h hp=>Zpl h hp;have hgood:(∀i,i < q.length→Zkc q i=true)→Zl7 q=true:=Zmk;show Pure _ _ [.sl 4 (q.map Qt.av)] _;generalize q.map Qt.av=A at *;generalize hB:Zl7 q=B at *;refine pI func103 rfl ntmps103 results103 call103 ?_
 (refine wkad w_t w_t w_t (w_s ?_);intros)
 refine Zad (ι:=Nat) (λi e _=>i≤q.length∧(∀j,j < i→Zkc q j=true)∧e 0=.sl 4 A∧e 3=iv i) (λi=>q.length - i) 0 zr ?_ ?_
 ·rintro i e m ⟨hi,hj,e0,e3⟩
  by_cases hlt:i < q.length
  ·have g1:=hg i hlt;have hb:=hbad i hlt;have hnx:Zkc q i=true→∀j,j < i+1→Zkc q j=true:=λh j hji=>by
    by_cases e:j=i
    ·rw [e];exact h
    ·exact hj j zo
   clear hgood hbad hj;have c1:=Ztm (q.getD i Qt.zero).k (q.getD i Qt.zero).a (q.getD i Qt.zero).b (q.getD i Qt.zero).c;have c2:=Zpg (q.getD i Qt.zero).norm.1.k (q.getD i Qt.zero).norm.1.a (q.getD i Qt.zero).norm.1.b (q.getD i Qt.zero).norm.1.c (q.getD i Qt.zero).k (q.getD i Qt.zero).a (q.getD i Qt.zero).b (q.getD i Qt.zero).c
   cases i with
   | zero =>
     have hv:Zkc q 0=decide ((q.getD 0 Qt.zero).norm=(q.getD 0 Qt.zero,1)):=by unfold Zkc;simp
     rw [hv] at hb hnx;clear hv hg;generalize q.getD 0 Qt.zero=y at *;generalize hn:y.norm=nn at *;obtain⟨nn,ns⟩:=nn;obtain⟨y1,y2,y3,y4⟩:=y;obtain⟨n1,n2,n3,n4⟩:=nn;simp only at *;by_cases h1:ns=1
     ·by_cases h2:(⟨n1,n2,n3,n4⟩:Qt)=⟨y1,y2,y3,y4⟩
      ·rw [h2,qtO.refl] at c2;have hny:=hnx (by rw [h1,h2];exact ZCp rfl);rw [h2] at c1;clear hb h2 hn;subst h1
       (refine wkad (w_4 e0 e3 hlm g1) (w_2 c1 c2) (w_1 (w_d 5 [(8,iv 0)] [] [])) (w_s ?_);intros)
       exact⟨1,⟨zo,hny,gW e0,gC⟩,zo⟩
      ·have hz:Qt.cmp ⟨n1,n2,n3,n4⟩ ⟨y1,y2,y3,y4⟩≠0:=λh=>h2 (qtO.eqz _ _ h);have hb:=hb (by rw [h1];exact ZCq λh=>h2 (ZD2 Prod.fst h));subst hb;clear hnx h2 hn;subst h1;generalize Qt.cmp _ _=z at *
       (refine wkad (w_5 e0 e3 hlm g1 hz) (w_2 c1 c2) (w_1 (w_d 5 [(8,iv z)] [] [])) (w_s ?_);intros)
       all_goals exact gL
     ·have hb:=hb (ZCq λh=>h1 (ZD2 Prod.snd h));subst hb;clear hnx hn c2
      (refine wkad (w_5 e0 e3 hlm g1 h1) (w_1 c1) w_t (w_s ?_);intros)
      all_goals exact gL
   | succ i =>
     have g2:=hg i zo;have hv:Zkc q (i+1)=(decide ((q.getD (i+1) Qt.zero).norm=(q.getD (i+1) Qt.zero,1)) && decide (Qt.cmp (q.getD i Qt.zero) (q.getD (i+1) Qt.zero)≤0)):=by unfold Zkc;simp
     rw [hv] at hb hnx;have c3:=Zpg (q.getD i Qt.zero).k (q.getD i Qt.zero).a (q.getD i Qt.zero).b (q.getD i Qt.zero).c (q.getD (i+1) Qt.zero).k (q.getD (i+1) Qt.zero).a (q.getD (i+1) Qt.zero).b (q.getD (i+1) Qt.zero).c;clear hv hg;have ei:(i:Int)+1 - 1=(i:Int):=zo;have en:((i+1:Nat):Int) - 1=(i:Int):=zo;have ek:i+1 - 1=i:=rfl;generalize q.getD (i+1) Qt.zero=y at *;generalize q.getD i Qt.zero=x at *;generalize hn:y.norm=nn at *;obtain⟨nn,ns⟩:=nn;obtain⟨y1,y2,y3,y4⟩:=y;obtain⟨x1,x2,x3,x4⟩:=x;obtain⟨n1,n2,n3,n4⟩:=nn;simp only at *;by_cases h1:ns=1
     ·by_cases h2:(⟨n1,n2,n3,n4⟩:Qt)=⟨y1,y2,y3,y4⟩
      ·rw [h2,qtO.refl] at c2;by_cases h3:Qt.cmp ⟨x1,x2,x3,x4⟩ ⟨y1,y2,y3,y4⟩≤0
       ·have hny:=hnx (by rw [h1,h2,ZCp rfl,ZCp h3];rfl);rw [h2] at c1;clear hb h2 hn;subst h1;generalize Qt.cmp _ _=z at *;have h4:¬0 < z:=zo
        (refine wkad (w_10 e0 e3 hlm g1 g2 h3 h4 ei en ek) (w_3 c1 c2 c3) (w_1 (w_d 5 [(8,iv 0),(24,iv z)] [] [])) (w_s ?_);intros)
        exact⟨i+1+1,⟨zo,hny,gW e0,gS⟩,zo⟩
       ·have hb:=hb (by rw [ZCq h3,ZGk]);subst hb;rw [h2] at c1;clear hnx h2 hn;subst h1;generalize Qt.cmp _ _=z at *;have h4:0 < z:=zo
        (refine wkad (w_9 e0 e3 hlm g1 g2 h4 ei en ek) (w_3 c1 c2 c3) (w_1 (w_d 5 [(8,iv 0),(24,iv z)] [] [])) (w_s ?_);intros)
        all_goals exact gL
      ·have hz:Qt.cmp ⟨n1,n2,n3,n4⟩ ⟨y1,y2,y3,y4⟩≠0:=λh=>h2 (qtO.eqz _ _ h);have hb:=hb (by rw [h1,ZCq λh=>h2 (ZD2 Prod.fst h)];rfl);subst hb;clear hnx h2 hn c3;subst h1;generalize Qt.cmp ⟨n1,n2,n3,n4⟩ _=z at *
       (refine wkad (w_5 e0 e3 hlm g1 hz) (w_2 c1 c2) (w_1 (w_d 5 [(8,iv z)] [] [])) (w_s ?_);intros)
       all_goals exact gL
     ·have hb:=hb (by rw [ZCq λh=>h1 (ZD2 Prod.snd h)];rfl);subst hb;clear hnx hn c2 c3
      (refine wkad (w_5 e0 e3 hlm g1 h1) (w_1 c1) w_t (w_s ?_);intros)
      all_goals exact gL
  ·have hil:i=q.length:=zo;subst hil;have hb:=hgood hj;subst hb;clear hgood hbad hj hg
   (refine wkad (w_3 e0 e3 hlm) w_t w_t (w_s ?_);intros)
   all_goals exact gL
 ·exact⟨ZCr _,λj h=>zo,gC,gC⟩
theorem re_atD {l:List RE} {i:Nat} (h:i < l.length):(l.map RE.av).getD i .u=RE.av (l.getD i RE.zero):=by
 rw [ZCx,ZCx,ZCs (by rw [ZCj];exact h),ZCs h,ZG6];rfl
theorem Zyu {l:List RE} {i:Nat} (h:i < l.length):l.getD i RE.zero∈l:=by
 rw [ZCx,ZCs h];exact ZCt h
theorem tOk_r {l:List RE} {i:Nat} (h:(l.getD i RE.zero).r.ok=false):Zgt l i=false:=by unfold Zgt;rw [h];rfl
theorem tOk_z {l:List RE} {i:Nat} (h:(l.getD i RE.zero).r.q=0):Zgt l i=false:=by unfold Zgt;rw [ZCp h];simp
theorem tOk_p {l:List RE} {i:Nat} (h:Zl7 (l.getD i RE.zero).q=false):Zgt l i=false:=by unfold Zgt;rw [h];simp
theorem tOk_o {l:List RE} {i:Nat} (h:¬ordQ (l.getD i RE.zero).q (l.getD (i+1) RE.zero).q < 0):Zgt l (i+1)=false:=by
 unfold Zgt;rw [show i+1 - 1=i from rfl,ZCq h];simp
theorem tOk_y {l:List RE} {i:Nat} (h1:(l.getD i RE.zero).r.ok=true) (h2:(l.getD i RE.zero).r.q≠0) (h3:Zl7 (l.getD i RE.zero).q=true) (h4:i=0∨ordQ (l.getD (i - 1) RE.zero).q (l.getD i RE.zero).q < 0):Zgt l i=true:=by
 unfold Zgt;rw [h1,h3,ZCq h2];simpa using h4
theorem rxRight (l:List RE) {J:Nat} (hl:l.length≤1000000) (hr:∀t∈l,t.r.lm J) (hq:∀t∈l,t.q.length≤1000000) (hJ:J≤100000):Pure prog 46 [.sl 4 (l.map RE.av)] (.v (.bool (rgtB l))):=by
 have hlm:(l.map RE.av).length=l.length:=ZCj ..;have hg:∀j,j < l.length→(l.map RE.av).getD j .u=RE.av (l.getD j RE.zero):=λj h=>re_atD h;have hr:∀j,j < l.length→(l.getD j RE.zero).r.lm J:=λj h=>hr _ (Zyu h);have hq:∀j,j < l.length→(l.getD j RE.zero).q.length≤1000000:=λj h=>hq _ (Zyu h);have hbad:∀i,i < l.length→Zgt l i=false→rgtB l=false:=λi h hp=>Zpl h hp;have hgood:(∀i,i < l.length→Zgt l i=true)→rgtB l=true:=Zmk;generalize l.map RE.av=A at *;generalize hB:rgtB l=B at *;refine pI func46 rfl ntmps46 results46 call46 ?_
 (refine wkad w_t w_t w_t (w_s ?_);intros)
 refine Zad (ι:=Nat) (λi e _=>i≤l.length∧(∀j,j < i→Zgt l j=true)∧e 0=.sl 4 A∧e 3=iv i) (λi=>l.length - i) 0 zr ?_ ?_
 ·rintro i e m ⟨hi,hj,e0,e3⟩
  by_cases hlt:i < l.length
  ·have g1:=hg i hlt;have hri:=hr i hlt;have hqi:=hq i hlt;have hb:=hbad i hlt;have hnx:Zgt l i=true→∀j,j < i+1→Zgt l j=true:=λh j hji=>by
    by_cases e:j=i
    ·rw [e];exact h
    ·exact hj j zo
   clear hgood hbad hj;have g1:A.getD i .u=.agg [.v (.bool (l.getD i RE.zero).r.s),lim (l.getD i RE.zero).r.l,lim (l.getD i RE.zero).r.d,.sl 4 ((l.getD i RE.zero).q.map Qt.av)]:=g1;have crq:=Zpm (l.getD i RE.zero).r.s (l.getD i RE.zero).r.l (l.getD i RE.zero).r.d hri.1 hri.2.1 (by have:=hri.2.2.1;omega) (by have:=hri.2.2.2;omega)
   cases hro:(l.getD i RE.zero).r.ok with
   | false =>
     have crq:Pure prog 101 [.agg [.v (.bool (l.getD i RE.zero).r.s),lim (l.getD i RE.zero).r.l,lim (l.getD i RE.zero).r.d]] (.v (.bool (l.getD i RE.zero).r.ok)):=crq;rw [hro] at crq;have hb:=hb (tOk_r hro);subst hb;clear hnx hg hr hq hro hri hqi;generalize l.getD i RE.zero=t at *;obtain⟨⟨s,x,d⟩,q⟩:=t;simp only at *;generalize q.map Qt.av=Q at *
     (refine wkad (w_4 e0 e3 hlm g1) (w_1 crq) (w_1 (w_d 4 [(5,.v (.bool false))] [] [])) (w_s ?_);intros)
     all_goals exact gL
   | true =>
     have crq:Pure prog 101 [.agg [.v (.bool (l.getD i RE.zero).r.s),lim (l.getD i RE.zero).r.l,lim (l.getD i RE.zero).r.d]] (.v (.bool (l.getD i RE.zero).r.ok)):=crq;rw [hro] at crq;have hz:=(RQ.ok_av hri hro).2;have cz:=qSign _ hz zo;have hre:=RQ.ok_eq hri hro;have cz:Pure prog 102 [.agg [.v (.bool (decide ((l.getD i RE.zero).r.q.num < 0))),lim (toL (l.getD i RE.zero).r.q.num.natAbs),lim (toL (l.getD i RE.zero).r.q.den)]] (iv (l.getD i RE.zero).r.q.num.sign):=cz;have e1:(l.getD i RE.zero).r.s=decide ((l.getD i RE.zero).r.q.num < 0):=ZD2 RQ.s hre;have e2:(l.getD i RE.zero).r.l=toL (l.getD i RE.zero).r.q.num.natAbs:=ZD2 RQ.l hre
     have e4:(l.getD i RE.zero).r.d=toL (l.getD i RE.zero).r.q.den:=ZD2 RQ.d hre;rw [←e1,←e2,←e4] at cz;clear e1 e2 e4 hre hz;have cp:=rxProd (l.getD i RE.zero).q hqi;have cp:Pure prog 103 [.sl 4 ((l.getD i RE.zero).q.map Qt.av)] (.v (.bool (Zl7 (l.getD i RE.zero).q))):=cp;by_cases hx:(l.getD i RE.zero).r.q=0
     ·have hz2:(l.getD i RE.zero).r.q.num.sign=0:=by rw [Zd8];exact hx
      rw [hz2] at cz;have hb:=hb (tOk_z hx);subst hb;clear hnx hg hr hq hro hri hqi hx hz2 cp;generalize l.getD i RE.zero=t at *;obtain⟨⟨s,x,d⟩,q⟩:=t;simp only at *;generalize q.map Qt.av=Q at *
      (refine wkad (w_4 e0 e3 hlm g1) (w_2 crq cz) (w_1 (w_d 4 [(5,.v (.bool true)),(13,iv 0)] [] [])) (w_s ?_);intros)
      all_goals exact gL
     ·have hz2:¬(l.getD i RE.zero).r.q.num.sign=0:=by rw [Zd8];exact hx
      cases hpb:Zl7 (l.getD i RE.zero).q with
      | false =>
        rw [hpb] at cp;have hb:=hb (tOk_p hpb);subst hb;clear hnx hg hr hq hro hri hqi hx hpb;generalize (l.getD i RE.zero).r.q.num.sign=z at *;generalize l.getD i RE.zero=t at *;obtain⟨⟨s,x,d⟩,q⟩:=t;simp only at *;generalize q.map Qt.av=Q at *
        (refine wkad (w_5 e0 e3 hlm g1 hz2) (w_3 crq cz cp) (w_1 (w_d 4 [(5,.v (.bool true)),(13,iv z),(22,.v (.bool false))] [] [])) (w_s ?_);intros)
        all_goals exact gL
      | true =>
        rw [hpb] at cp
        cases i with
        | zero =>
          have hnx:=hnx (tOk_y hro hx hpb (.inl rfl));clear hb hg hr hq hro hri hqi hx hpb;generalize (l.getD 0 RE.zero).r.q.num.sign=z at *;generalize l.getD 0 RE.zero=t at *;obtain⟨⟨s,x,d⟩,q⟩:=t;simp only at *;generalize q.map Qt.av=Q at *
          (refine wkad (w_5 e0 e3 hlm g1 hz2) (w_3 crq cz cp) (w_1 (w_d 4 [(5,.v (.bool true)),(13,iv z),(22,.v (.bool true))] [] [])) (w_s ?_);intros)
          exact⟨1,⟨zo,hnx,gW e0,gC⟩,zo⟩
        | succ i =>
          have g2:=hg i zo;have g2:A.getD i .u=.agg [.v (.bool (l.getD i RE.zero).r.s),lim (l.getD i RE.zero).r.l,lim (l.getD i RE.zero).r.d,.sl 4 ((l.getD i RE.zero).q.map Qt.av)]:=g2;have co:=Zrk (l.getD i RE.zero).q (l.getD (i+1) RE.zero).q (hq i zo) hqi;have co:Pure prog 73 [.sl 4 ((l.getD i RE.zero).q.map Qt.av),.sl 4 ((l.getD (i+1) RE.zero).q.map Qt.av)] (iv (ordQ (l.getD i RE.zero).q (l.getD (i+1) RE.zero).q)):=co;have en:((i+1:Nat):Int) - 1=(i:Int):=zo;by_cases ho:ordQ (l.getD i RE.zero).q (l.getD (i+1) RE.zero).q < 0
          ·have hnx:=hnx (tOk_y hro hx hpb (.inr ho));clear hb hg hr hq hro hri hqi hx hpb;have ho2:¬0≤ordQ (l.getD i RE.zero).q (l.getD (i+1) RE.zero).q:=zo;generalize (l.getD (i+1) RE.zero).r.q.num.sign=z at *;generalize ordQ (l.getD i RE.zero).q (l.getD (i+1) RE.zero).q=w at *;generalize l.getD (i+1) RE.zero=t at *;generalize l.getD i RE.zero=u at *;obtain⟨⟨s,x,d⟩,q⟩:=t;obtain⟨⟨s',x',d'⟩,q'⟩:=u;simp only at *;generalize q.map Qt.av=Q at *;generalize q'.map Qt.av=Q' at *
           (refine wkad (w_9 e0 e3 hlm g1 g2 hz2 ho ho2 en) (w_4 crq cz cp co) (w_1 (w_d 4 [(5,.v (.bool true)),(13,iv z),(22,.v (.bool true)),(40,iv w)] [] [])) (w_s ?_);intros)
           exact⟨i+1+1,⟨zo,hnx,gW e0,gS⟩,zo⟩
          ·have hb:=hb (tOk_o ho);subst hb;clear hnx hg hr hq hro hri hqi hx hpb;have ho2:0≤ordQ (l.getD i RE.zero).q (l.getD (i+1) RE.zero).q:=zo;generalize (l.getD (i+1) RE.zero).r.q.num.sign=z at *;generalize ordQ (l.getD i RE.zero).q (l.getD (i+1) RE.zero).q=w at *;generalize l.getD (i+1) RE.zero=t at *;generalize l.getD i RE.zero=u at *;obtain⟨⟨s,x,d⟩,q⟩:=t;obtain⟨⟨s',x',d'⟩,q'⟩:=u;simp only at *;generalize q.map Qt.av=Q at *;generalize q'.map Qt.av=Q' at *
           (refine wkad (w_9 e0 e3 hlm g1 g2 hz2 ho ho2 en) (w_4 crq cz cp co) (w_1 (w_d 4 [(5,.v (.bool true)),(13,iv z),(22,.v (.bool true)),(40,iv w)] [] [])) (w_s ?_);intros)
           all_goals exact gL
  ·have hil:i=l.length:=zo;subst hil;have hb:=hgood hj;subst hb;clear hgood hbad hj hg hr hq
   (refine wkad (w_3 e0 e3 hlm) w_t w_t (w_s ?_);intros)
   all_goals exact gL
 ·exact⟨ZCr _,λj h=>zo,gC,gC⟩
section
attribute [local go_sem] underlying3 underlying4 underlying128 underlying50 underlying52 underlying54 underlying39 underlying55 underlying57 underlying26 underlying27 sz3 by3 z3 szB zB Zaw zRat Zay zInt Zax zNat Zah Zap Zai Bool.and_self Zal Za8 zSlQ szQT byQT zQT Zba zSlT szQP zQP
end
def mrgQ:List Qt→List Qt→List Qt
 | a,[]=>a
 | [],y :: b=>y :: b
 | x :: a,y :: b=>if Qt.cmp x y≤0 then x :: mrgQ a (y :: b) else y :: mrgQ (x :: a) b
termination_by a b=>a.length+b.length
theorem Zny (a b:List Qt):(mrgQ a b).Perm (a++b):=by
 fun_induction mrgQ a b with
 | case1 a=>rw [ZDo]
 | case2 y b=>exact .refl _
 | case3 x a y b h ih=>exact ih.cons x
 | case4 x a y b h ih=>exact(ih.cons y).trans List.perm_middle.symm
theorem mrg_asc {a b:List Qt} (ha:Asc Qt.cmp a) (hb:Asc Qt.cmp b):Asc Qt.cmp (mrgQ a b):=by
 fun_induction mrgQ a b with
 | case1 a=>exact ha
 | case2 y b=>exact hb
 | case3 x a y b h ih =>
   have ha':=List.pairwise_cons.1 ha;refine List.pairwise_cons.2 ⟨λz hz=>?_,ih ha'.2 hb⟩;rcases List.mem_append.1 ((Zny _ _).mem_iff.1 hz) with h1 | h1
   ·exact ha'.1 z h1
   ·rcases List.mem_cons.1 h1 with rfl | h1
    ·exact h
    ·exact qtO.le_tr h ((List.pairwise_cons.1 hb).1 z h1)
 | case4 x a y b h ih =>
   have hb':=List.pairwise_cons.1 hb;have hyx:=qtO.le_total x y zo;refine List.pairwise_cons.2 ⟨λz hz=>?_,ih ha hb'.2⟩;rcases List.mem_append.1 ((Zny _ _).mem_iff.1 hz) with h1 | h1
   ·rcases List.mem_cons.1 h1 with rfl | h1
    ·exact hyx
    ·exact qtO.le_tr hyx ((List.pairwise_cons.1 ha).1 z h1)
   ·exact hb'.1 z h1
theorem mrg_eq {a b:List Qt} (ha:Asc Qt.cmp a) (hb:Asc Qt.cmp b):mrgQ a b=muQ a b :=
 Ze8 qtO (mrg_asc ha hb) (Zby qtO.cp _) ((Zny a b).trans (Za3 _).symm)
theorem mrg_l {a b:List Qt} {i k:Nat} (hi:i < a.length) (hk:k < b.length) (h:Qt.cmp a[i] b[k]≤0):mrgQ (a.drop i) (b.drop k)=a[i] :: mrgQ (a.drop (i+1)) (b.drop k):=by
 rw [ZEg hi,ZEg hk,mrgQ,ZCh h]
theorem mrg_r {a b:List Qt} {i k:Nat} (hk:k < b.length) (h:∀hi:i < a.length,¬Qt.cmp a[i] b[k]≤0):mrgQ (a.drop i) (b.drop k)=b[k] :: mrgQ (a.drop i) (b.drop (k+1)):=by
 rw [ZEg hk];by_cases hi:i < a.length
 ·rw [ZEg hi,mrgQ,ZCg (h hi)]
 ·rw [ZD7 zo,mrgQ];cases b.drop (k+1)<;>simp [mrgQ]
theorem rxBoth (a b:List Qt) (ha:Asc Qt.cmp a) (hb:Asc Qt.cmp b) (la:a.length≤1000000) (lb:b.length≤1000000):Pure prog 70 [qsA a,qsA b] (qsA (muQ a b)):=by
 have ham:(a.map Qt.av).length=a.length:=ZCj ..;have hbm:(b.map Qt.av).length=b.length:=ZCj ..;have ga:∀i (h:i < a.length),(a.map Qt.av).getD i .u=Qt.av a[i]:=λi h=>Zak Qt.av h;have gb:∀i (h:i < b.length),(b.map Qt.av).getD i .u=Qt.av b[i]:=λi h=>Zak Qt.av h;have hda:∀i,(a.map Qt.av).drop i=(a.drop i).map Qt.av:=λi=>List.map_drop.symm;rw [←mrg_eq ha hb];clear ha hb;show Pure _ _ [.sl 4 (a.map Qt.av),.sl 4 (b.map Qt.av)] (.sl 4 ((mrgQ a b).map Qt.av));generalize a.map Qt.av=A at *;generalize b.map Qt.av=B at *;refine pI func70 rfl ntmps70 results70 call70 ?_
 (refine wkad (w_2 ham hbm) w_t w_t (w_s ?_);intros)
 refine Zad (ι:=Nat × Nat) (λx e m=>(x.1≤b.length∧x.2≤a.length)∧(e 0=.sl 4 A∧e 1=.sl 4 B)∧e 7=iv x.1∧e 6=iv x.2∧∃sv out,e 5=.own 13 sv∧m 13=some (.row sv 39 4 (out.map Qt.av) 0)∧out.length≤x.1+x.2∧mrgQ a b=out++mrgQ (a.drop x.2) (b.drop x.1)) (λx=>b.length - x.1) (0,0) zr ?_ ?_
 ·rintro ⟨k,i0⟩ e m ⟨⟨hk,hi0⟩,⟨e0,e1⟩,e7,e6,sv,out,e5,m13,ho,hs⟩
  simp only at hk hi0 e7 e6 ho hs;by_cases hkl:k < b.length
  ·have gbk:=gb k hkl
   (refine wkad (w_4 e0 e1 e7 hbm) w_t w_t (w_s ?_);intros)
   refine r_loopX (λe m=>(e 0=.sl 4 A∧e 1=.sl 4 B)∧e 7=iv k∧∃i sv out,i≤a.length∧e 6=iv i∧e 5=.own 13 sv∧m 13=some (.row sv 39 4 (out.map Qt.av) 0)∧out.length≤k+i∧mrgQ a b=out++b[k] :: mrgQ (a.drop i) (b.drop (k+1))) 2 ?_ ?_
   ·refine Zad (ι:=Nat) (λi e m=>i≤a.length∧(e 0=.sl 4 A∧e 1=.sl 4 B)∧e 7=iv k∧e 6=iv i∧∃sv out,e 5=.own 13 sv∧m 13=some (.row sv 39 4 (out.map Qt.av) 0)∧out.length≤k+i∧mrgQ a b=out++mrgQ (a.drop i) (b.drop k)) (λi=>a.length - i) i0 zr ?_ ?_
    ·rintro i e m ⟨hi,⟨e0,e1⟩,e7,e6,sv,out,e5,m13,ho,hs⟩
     have hol:(out.map Qt.av).length=out.length:=ZCj ..;by_cases hil:i < a.length
     ·have gai:=ga i hil;have cc:=Zpg a[i].k a[i].a a[i].b a[i].c b[k].k b[k].a b[k].b b[k].c;by_cases hz:Qt.cmp a[i] b[k]≤0
      ·rw [mrg_l hil hkl hz] at hs;have hmp:(out++[a[i]]).map Qt.av=out.map Qt.av++[Qt.av a[i]]:=by rw [ZDd];rfl
       have hs2:mrgQ a b=(out++[a[i]])++mrgQ (a.drop (i+1)) (b.drop k):=by rw [hs,ZDv];rfl
       clear hs;have hlo:(out++[a[i]]).length≤k+(i+1):=by rw [ZDa,ZCu,ZC6];omega
       generalize out++[a[i]]=out' at *;clear ga gb hda;generalize a[i]=x at *;generalize b[k]=y at *;generalize hz1:Qt.cmp x y=z at *;clear hz1;generalize out.map Qt.av=O at *;obtain⟨x1,x2,x3,x4⟩:=x;obtain⟨y1,y2,y3,y4⟩:=y;simp only at *
       (refine wkad (w_12 e0 e1 e7 e6 e5 m13 ham hbm gai gbk hz hol) (w_1 cc) (w_1 (w_d 6 [(13,iv z)] [] [])) (w_s ?_);intros)
       exact⟨i+1,⟨zo,⟨gW e0,gW e1⟩,gW e7,gS,_,out',gC,by rw [hmp];exact gC,hlo,hs2⟩,zo⟩
      ·rw [mrg_r hkl (λ_=>hz)] at hs;clear ga gb hda;generalize a[i]=x at *;generalize b[k]=y at *;generalize hz1:Qt.cmp x y=z at *;clear hz1;generalize hO:out.map Qt.av=O at *;obtain⟨x1,x2,x3,x4⟩:=x;obtain⟨y1,y2,y3,y4⟩:=y;simp only at *
       (refine wkad (w_12 e0 e1 e7 e6 e5 m13 ham hbm gai gbk hz hol) (w_1 cc) (w_1 (w_d 6 [(13,iv z)] [] [])) (w_s ?_);intros)
       exact⟨rfl,⟨gW e0,gW e1⟩,gW e7,i,sv,out,hi,gW e6,gW e5,by rw [hO];exact gW m13,ho,hs⟩
     ·rw [mrg_r hkl (λh=>absurd h hil)] at hs;have hil':¬(i:Int) < (a.length:Int):=zo
      (refine wkad (w_8 e0 e1 e7 e6 e5 m13 ham hil') w_t (w_1 (w_d 6 [] [] [])) (w_s ?_);intros)
      exact⟨rfl,⟨gW e0,gW e1⟩,gW e7,i,sv,out,hi,gW e6,gW e5,gW m13,ho,hs⟩
    ·exact⟨hi0,⟨gW e0,gW e1⟩,gW e7,gW e6,sv,out,gW e5,gW m13,ho,hs⟩
   ·clear e5 m13 hs ho e0 e1 e7 e6
    rintro e m ⟨⟨e0,e1⟩,e7,i,sv,out,hi,e6,e5,m13,ho,hs⟩
    have hol:(out.map Qt.av).length=out.length:=ZCj ..;have hmp:(out++[b[k]]).map Qt.av=out.map Qt.av++[Qt.av b[k]]:=by rw [ZDd];rfl
    have hs2:mrgQ a b=(out++[b[k]])++mrgQ (a.drop i) (b.drop (k+1)):=by rw [hs,ZDv];rfl
    clear hs;have hlo:(out++[b[k]]).length≤k+1+i:=by rw [ZDa,ZCu,ZC6];omega
    generalize out++[b[k]]=out' at *;clear ga gb hda;generalize b[k]=y at *;generalize out.map Qt.av=O at *;obtain⟨y1,y2,y3,y4⟩:=y
    (refine wkad (w_9 e0 e1 e7 e6 e5 m13 hbm gbk hol) w_t w_t (w_s ?_);intros)
    exact⟨(k+1,i),⟨⟨by show k+1≤b.length;omega,hi⟩,⟨gW e0,gW e1⟩,gS,gW e6,_,out',gC,by rw [hmp];exact gC,hlo,hs2⟩,by show b.length - (k+1) < b.length - k;omega⟩
  ·have hkb:k=b.length:=zo;subst hkb;have hol:(out.map Qt.av).length=out.length:=ZCj ..;rw [ZD7 (ZCi b.length),mrgQ] at hs;have hmp:(mrgQ a b).map Qt.av=out.map Qt.av++A.drop i0:=by rw [hs,ZDd,hda]
   rw [hmp];have hdl:(A.drop i0).length=a.length - i0:=by rw [ZEj,ham]
   have htk:A.take a.length=A:=ZEb zo;generalize out.map Qt.av=O at *
   (refine wkad (w_11 e0 e1 e7 e6 e5 m13 ham hbm hol hdl htk) w_t w_t (w_s ?_);intros)
   all_goals exact gL
 ·exact⟨⟨ZCr _,ZCr _⟩,⟨gC,gC⟩,gC,gC,_,[],gC,gC,ZCr _,rfl⟩
end Go.Proofs.YtpkcophcldjboaaGreatDoor
