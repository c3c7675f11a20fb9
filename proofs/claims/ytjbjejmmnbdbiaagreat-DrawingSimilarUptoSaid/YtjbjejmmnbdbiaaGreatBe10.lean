/- Contracts of the functions that the law reaches, and the rules by which they are walked. They say what a call hands back for every input within the bounds that each names; no other condition. -/
import Derived.Test.YtjbjejmmnbdbiaaGreatBe9
set_option linter.unusedSimpArgs false
set_option linter.unusedVariables false
set_option maxRecDepth 20000
set_option maxHeartbeats 16000000
namespace Go.Proofs.YtjbjejmmnbdbiaaGreat
open Go Go.RowKit Go.Pg Go.Pol Go.Proofs.Tryz
attribute [-bool_to_prop] Bool.and_eq_decide Bool.or_eq_decide Bool.decide_beq_decide decide_eq_decide
attribute [go_sem] underlying243 szA4C zA4C
attribute [local go_sem] Zbw Zbp Zbu Za8 Zba Za9 Za6 Za7 Zcd Zcf Zby Zce Zfq Zfz Zel Zb7 Zcc Zdc Zem Zbq Zcp Zcr Zcw Zek Zcq Zej Zlf Zb2 Zb4 Zdh Zdi
theorem rhFirst (cs:List Pt) (vs:List Vt) (i:Int) (w:Nat) (hv:vs.length≤900) (hf:fstN vs i vs.length=some w):Pure prog 199 [frmA cs vs,iv i] (iv w):=by
 have hlm:(vs.map Vt.av).length=vs.length:=Zyn ..;have hg:∀j (h:j < vs.length),(vs.map Vt.av).getD j .u=Vt.av (vs.getD j (0,0,0)):=λj h=>by rw [Zad Vt.av h,Zyu,Zym h];rfl
 show Pure _ _ [.agg [.sl 2 (cs.map coA),.sl 3 (vs.map Vt.av)],iv i] _;generalize cs.map coA=C at *;generalize vs.map Vt.av=V at *;refine pI func199 rfl ntmps199 results199 call199 ?_;(focus (refine wkap (w_1 hlm) w_t (w_r 0) ?_;(repeat' first|exact w_t|apply w_l);all_goals intros));rename_i g2;refine Zab (ι:=Nat) (λy e m=>y≤vs.length∧e 1=iv i∧e 2=.pbox 2 g2 0∧m 2=some (.box g2 62 [.sl 2 C,.sl 3 V] false)∧e 5=iv y∧∀j,j < y→(vs.getD j (0,0,0)).2.1≠i) (λy=>vs.length - y) 0 zr ?_ ?_
 ·rintro y e m ⟨hy,e1,e2,m2,e5,hj⟩
  by_cases hlt:y < vs.length
  ·have hgy:=hg y hlt;by_cases hx:(vs.getD y (0,0,0)).2.1=i
   ·rw [Zxp hj hx hlt] at hf;obtain rfl:y=w:=by simpa using hf
    clear hj hg hf;generalize vs.getD y (0,0,0)=v at *;obtain⟨v1,v2,v3⟩:=v;simp only at hx;subst hx;(focus (refine wklp (w_6 e1 e2 m2 e5 hlm hgy) w_t w_t (w_r 0) ?_;(repeat' first|exact w_t|apply w_l);all_goals intros))
   ·have hnx:∀j,j < y+1→(vs.getD j (0,0,0)).2.1≠i:=λj hjj=>by
     by_cases e:j=y
     ·rw [e];exact hx
     ·exact hj j zo
    clear hj hg hf;generalize vs.getD y (0,0,0)=v at *;obtain⟨v1,v2,v3⟩:=v;simp only at hx;(focus (refine wkap (w_7 e1 e2 m2 e5 hlm hgy hx) w_t (w_r 0) ?_;(repeat' first|exact w_t|apply w_l);all_goals intros));exact⟨y+1,⟨zo,gW e1,gW e2,gW m2,gS,hnx⟩,zo⟩
  ·rw [Zky λj h=>hj j zo] at hf;cases hf
 ·exact⟨Zyv _,gC,gC,gC,gC,λj h=>zo⟩
theorem Zrp {p:Po} {n j e:Nat} (h:PB p n j e) (hn:n≤1000000) (hj:j≤900000) (he:e≤100):Pure prog 239 [poA p] (poA (dblM p)):=by
 have c:Pure prog 200 [poA p,poA p] (poA (dblM p)):=(Zxj h h zo zo zo zo zo zo).2;clear h;generalize dblM p=r at *;refine pI func239 rfl ntmps239 results239 call239 ?_;(focus (refine wklp w_t (w_1 c) w_t (w_r 0) ?_;(repeat' first|exact w_t|apply w_l);all_goals intros))
theorem Zvq (cs:List Pt) (vs:List Vt) (i:Int) (w:Nat) (hv:vs.length≤900) (hw:w < 900) (hf:fstN vs i vs.length=some w):Pure prog 147 [frmA cs vs,iv i] (.tup [poA (Zd7 (varM w)),poA (varM w)]):=by
 have c1:Pure prog 199 [.agg [.sl 2 (cs.map coA),.sl 3 (vs.map Vt.av)],iv i] (iv w):=rhFirst cs vs i w hv hf;have c2:=rpVar w zo;have o1:Pure prog 47 [iv 1] (ratQ 1):=qOf 1 zo;have k1:=Zvn 1 (Zkm 1 zo) zo;rw [Zyj zd] at k1;have hv1:=Zur w;have m:=(Zlj hv1 hv1 zo zo zo zo zo zo zo zo zo).2;have a:Pure prog 200 [poA oneM,poA (mlM (varM w) (varM w))] (poA (Zd7 (varM w))):=(Zxj one_pb (hv1.mul hv1) zo zo zo zo zo zo).2;have k1:Pure prog 190 [ratQ 1] (poA oneM):=k1;show Pure _ _ [.agg [.sl 2 (cs.map coA),.sl 3 (vs.map Vt.av)],iv i] _;clear hv1;generalize cs.map coA=C at *
 generalize vs.map Vt.av=V at *;generalize Zd7 (varM w)=sl at *;generalize mlM (varM w) (varM w)=sq at *;generalize varM w=t at *;generalize oneM=one at *;generalize (1:Rat)=q at *;refine pI func147 rfl ntmps147 results147 call147 ?_;(focus (refine wkld w_t (w_6 c1 c2 o1 k1 m a) w_t w_t ?_;(repeat' first|exact w_t|apply w_l);all_goals intros))
theorem rhCirc (cs:List Pt) (vs:List Vt) (i:Int) (w:Nat) (hv:vs.length≤900) (hw:w < 900) (hf:fstN vs i vs.length=some w) {o a x:Pt} (ho:CB o) (ha:CB a) (hx:CB x):Pure prog 223 [frmA cs vs,iv i,coA o,coA a,coA x] (.sl 1 ((Zuc o a x (varM w)).map poA)):=by
 have c0:Pure prog 147 [.agg [.sl 2 (cs.map coA),.sl 3 (vs.map Vt.av)],iv i] (.tup [poA (Zd7 (varM w)),poA (varM w)]):=Zvq cs vs i w hv hw hf;have ht:=Zur w;generalize varM w=t at *;obtain⟨⟨-,s1⟩,-,s2⟩:=ha.subs ho;obtain⟨⟨-,s3⟩,-,s4⟩:=ha.subs hx;obtain⟨x1,y1⟩:=ha.df ho;obtain⟨x2,y2⟩:=ha.df hx;have zt:PB (mlM t (subM o.2 a.2)) 16 3600 9:=(ht.mul y1).mono zo zo zo;have m1:=(Zlj ht y1 zo zo zo zo zo zo zo zo zo).2;have a1:=(Zxj x1 zt zo zo zo zo zo zo).2;have zd:PB (addM (subM o.1 a.1) (mlM t (subM o.2 a.2))) 32 3822 9:=(x1.add zt).mono zo zo zo;have db:=Zrp zd zo zo zo;have zs:PB (dblM (addM (subM o.1 a.1) (mlM t (subM o.2 a.2)))) 64 7645 9:=zd.dbl.mono zo zo zo
 have zl:PB (Zd7 t) 2 5 2:=(one_pb.add (ht.mul ht)).mono zo zo zo;have p1:=(Zlj zl x2 zo zo zo zo zo zo zo zo zo).2;have p2:=(Zlj zl y2 zo zo zo zo zo zo zo zo zo).2;have q2:=(Zlj ht zs zo zo zo zo zo zo zo zo zo).2;have r1:=(Zo8 (zl.mul x2) zs zo zo zo zo zo zo).2;have r2:=(Zo8 (zl.mul y2) (ht.mul zs) zo zo zo zo zo zo).2;show Pure _ _ [.agg [.sl 2 (cs.map coA),.sl 3 (vs.map Vt.av)],iv i,coA o,coA a,coA x] (.sl 1 [poA (subM (mlM (Zd7 t) (subM x.1 a.1)) (dblM (addM (subM o.1 a.1) (mlM t (subM o.2 a.2))))),poA (subM (mlM (Zd7 t) (subM x.2 a.2)) (mlM t (dblM (addM (subM o.1 a.1) (mlM t (subM o.2 a.2))))))])
 clear x1 y1 x2 y2 zt zd zs zl ho ha hx ht hf;generalize cs.map coA=C at *;generalize vs.map Vt.av=V at *;generalize hr1:subM (mlM (Zd7 t) (subM x.1 a.1)) (dblM (addM (subM o.1 a.1) (mlM t (subM o.2 a.2))))=v1 at *;generalize hr2:subM (mlM (Zd7 t) (subM x.2 a.2)) (mlM t (dblM (addM (subM o.1 a.1) (mlM t (subM o.2 a.2)))))=v2 at *;clear hr1 hr2;generalize dblM (addM (subM o.1 a.1) (mlM t (subM o.2 a.2)))=s at *;generalize addM (subM o.1 a.1) (mlM t (subM o.2 a.2))=d at *;generalize mlM t (subM o.2 a.2)=tw at *;generalize mlM (Zd7 t) (subM x.1 a.1)=u1 at *;generalize mlM (Zd7 t) (subM x.2 a.2)=u2 at *
 generalize mlM t s=ts at *;generalize Zd7 t=sl at *;generalize subM o.1 a.1=w1 at *;generalize subM o.2 a.2=w2 at *;generalize subM x.1 a.1=w3 at *;generalize subM x.2 a.2=w4 at *;obtain⟨aa,ab⟩:=a;obtain⟨oa,ob⟩:=o;obtain⟨xa,xb⟩:=x
 try simp only at *
 refine pI func223 rfl ntmps223 results223 call223 ?_
 (repeat' (first|(with_reducible first|refine stp ?_|apply gx1|apply gx2|apply gx3|apply gx4|apply gx5|apply gx6|apply gx7|apply gy8|apply gz2|apply gz3|refine gw0 (c0) ?_ ?_|refine gw3 (c0) ?_ ?_ ?_|refine gw0 (s1) ?_ ?_|refine gw3 (s1) ?_ ?_ ?_|refine gw0 (s2) ?_ ?_|refine gw3 (s2) ?_ ?_ ?_|refine gw0 (s3) ?_ ?_|refine gw3 (s3) ?_ ?_ ?_|refine gw0 (s4) ?_ ?_|refine gw3 (s4) ?_ ?_ ?_|refine gw0 (m1) ?_ ?_|refine gw3 (m1) ?_ ?_ ?_|refine gw0 (a1) ?_ ?_|refine gw3 (a1) ?_ ?_ ?_|refine gw0 (db) ?_ ?_|refine gw3 (db) ?_ ?_ ?_|refine gw0 (p1) ?_ ?_|refine gw3 (p1) ?_ ?_ ?_|refine gw0 (p2) ?_ ?_|refine gw3 (p2) ?_ ?_ ?_|refine gw0 (q2) ?_ ?_|refine gw3 (q2) ?_ ?_ ?_|refine gw0 (r1) ?_ ?_|refine gw3 (r1) ?_ ?_ ?_|refine gw0 (r2) ?_ ?_|refine gw3 (r2) ?_ ?_ ?_)|(with_reducible refine Zcg ?_;intro _)|((with_reducible refine gE ?_);(try simp (disch:=omega) only [go_sem,Zyo,Zyl,Zyk,Zyj,Int.reduceAdd,Int.reduceSub,Int.reduceToNat,Zyw])<;>first|rfl|omega)|with_reducible refine Zai zd ?_|((with_reducible apply gy1);iterate 3 focus rfl)|((with_reducible apply gy2);iterate 3 focus rfl)|((with_reducible apply gy3);iterate 2 focus rfl)|((with_reducible apply gy4);iterate 1 focus rfl)|((with_reducible apply gy5);iterate 4 focus rfl)|((with_reducible apply gy5c);iterate 4 focus rfl)|((with_reducible apply gy6);iterate 4 focus rfl)|((with_reducible apply Zfy);iterate 3 focus rfl)|((with_reducible apply Zfr);iterate 1 focus rfl)|((with_reducible apply gy7);iterate 1 focus rfl)|((with_reducible apply gy9);(focus ((with_reducible refine gE ?_);(try simp (disch:=omega) only [go_sem,Zyo,Zyl,Zyk,Zyj,Int.reduceAdd,Int.reduceSub,Int.reduceToNat,Zyw])<;>rfl)))|((with_reducible apply gz1);(focus first|rfl|(simp (disch:=omega) only [go_sem,Zyo,Zyl,Zyk,Zyj,Int.reduceAdd,Int.reduceSub,Int.reduceToNat,Zyw];done)))|((with_reducible apply Zas (id:=2) (Zbr [(4,poA w1),(10,poA w2),(11,poA tw),(12,poA d),(13,poA s)]) [] []);(focus kernel_rfl);(focus rfl);(focus kernel_rfl);(focus (simp only [Zyx,Zy0,Nat.reduceAdd];rfl)))|((with_reducible apply Zas (id:=3) (Zbr [(5,poA w3),(6,poA u1),(8,poA v1),(14,poA w4),(15,poA u2),(18,poA ts),(19,poA v2)]) [] []);(focus kernel_rfl);(focus rfl);(focus kernel_rfl);(focus (simp only [Zyx,Zy0,Nat.reduceAdd];rfl)))|((with_reducible first|apply Zcs|apply Zc8|apply Zcv);all_goals (intro hc;(try simp only [bool_to_prop] at hc);try (exfalso;omega)))))
 (all_goals (try simp (disch:=omega) only [go_sem,Zyo,Zyl,Zyk,Zyj,Int.reduceAdd,Int.reduceSub,Int.reduceToNat,Zyw]));(all_goals first|done|rfl|(congr 2;first|done|omega|(rw [Zzg];simp only [bool_to_prop,Zyy,Zzn,Zzo,Zzp,Zzq];omega))|skip)
theorem rhOther {a b c x:Pt} (ha:CB a) (hb:CB b) (hc:CB c) (hx:CB x):Pure prog 224 [coA a,coA b,coA c,coA x] (.sl 1 ((Zok a b c x).map poA)):=by
 have n1:=Zeh ha hb;have d1:=rhDot ha hc ha hb;have zn:=ha.dot hb ha hb;have zd:=ha.dot hc ha hb;have db:=Zrp zd zo zo zo;obtain⟨⟨-,s1⟩,-,s2⟩:=ha.subs hx;obtain⟨⟨-,s3⟩,-,s4⟩:=ha.subs hb;obtain⟨w1,w2⟩:=ha.df hx;obtain⟨u1,u2⟩:=ha.df hb;have zs:=zd.dbl;have zp1:PB (mlM (dotM a b a b) (subM x.1 a.1)) 8192 230384 24:=(zn.mul w1).mono zo zo zo;have zp2:PB (mlM (dotM a b a b) (subM x.2 a.2)) 8192 230384 24:=(zn.mul w2).mono zo zo zo;have zq1:PB (mlM (dblM (dotM a c a b)) (subM b.1 a.1)) 16384 457232 24:=(zs.mul u1).mono zo zo zo;have zq2:PB (mlM (dblM (dotM a c a b)) (subM b.2 a.2)) 16384 457232 24:=(zs.mul u2).mono zo zo zo
 have p1:=(Zlj zn w1 zo zo zo zo zo zo zo zo zo).2;have p2:=(Zlj zn w2 zo zo zo zo zo zo zo zo zo).2;have q1:=(Zlj zs u1 zo zo zo zo zo zo zo zo zo).2;have q2:=(Zlj zs u2 zo zo zo zo zo zo zo zo zo).2;have r1:=(Zo8 zp1 zq1 zo zo zo zo zo zo).2;have r2:=(Zo8 zp2 zq2 zo zo zo zo zo zo).2;show Pure _ _ _ (.sl 1 [poA (subM (mlM (dotM a b a b) (subM x.1 a.1)) (mlM (dblM (dotM a c a b)) (subM b.1 a.1))),poA (subM (mlM (dotM a b a b) (subM x.2 a.2)) (mlM (dblM (dotM a c a b)) (subM b.2 a.2)))]);clear zp1 zp2 zq1 zq2 zs zd zn w1 w2 u1 u2 ha hb hc hx;generalize hv1:subM (mlM (dotM a b a b) (subM x.1 a.1)) (mlM (dblM (dotM a c a b)) (subM b.1 a.1))=v1 at *
 generalize hv2:subM (mlM (dotM a b a b) (subM x.2 a.2)) (mlM (dblM (dotM a c a b)) (subM b.2 a.2))=v2 at *;clear hv1 hv2;generalize mlM (dotM a b a b) (subM x.1 a.1)=y1 at *;generalize mlM (dotM a b a b) (subM x.2 a.2)=y2 at *;generalize mlM (dblM (dotM a c a b)) (subM b.1 a.1)=z1 at *;generalize mlM (dblM (dotM a c a b)) (subM b.2 a.2)=z2 at *;generalize dblM (dotM a c a b)=tm at *;generalize dotM a c a b=dm at *;generalize dotM a b a b=nm at *;generalize subM b.1 a.1=f1 at *;generalize subM b.2 a.2=f2 at *;generalize subM x.1 a.1=g1 at *;generalize subM x.2 a.2=g2 at *;obtain⟨aa,ab⟩:=a;obtain⟨ba,bb⟩:=b
 obtain⟨ca,cb⟩:=c;obtain⟨xa,xb⟩:=x
 try simp only at *
 refine pI func224 rfl ntmps224 results224 call224 ?_
 (repeat' (first|(with_reducible first|refine stp ?_|apply gx1|apply gx2|apply gx3|apply gx4|apply gx5|apply gx6|apply gx7|apply gy8|apply gz2|apply gz3|refine gw0 (n1) ?_ ?_|refine gw3 (n1) ?_ ?_ ?_|refine gw0 (d1) ?_ ?_|refine gw3 (d1) ?_ ?_ ?_|refine gw0 (db) ?_ ?_|refine gw3 (db) ?_ ?_ ?_|refine gw0 (s1) ?_ ?_|refine gw3 (s1) ?_ ?_ ?_|refine gw0 (s2) ?_ ?_|refine gw3 (s2) ?_ ?_ ?_|refine gw0 (s3) ?_ ?_|refine gw3 (s3) ?_ ?_ ?_|refine gw0 (s4) ?_ ?_|refine gw3 (s4) ?_ ?_ ?_|refine gw0 (p1) ?_ ?_|refine gw3 (p1) ?_ ?_ ?_|refine gw0 (p2) ?_ ?_|refine gw3 (p2) ?_ ?_ ?_|refine gw0 (q1) ?_ ?_|refine gw3 (q1) ?_ ?_ ?_|refine gw0 (q2) ?_ ?_|refine gw3 (q2) ?_ ?_ ?_|refine gw0 (r1) ?_ ?_|refine gw3 (r1) ?_ ?_ ?_|refine gw0 (r2) ?_ ?_|refine gw3 (r2) ?_ ?_ ?_)|(with_reducible refine Zcg ?_;intro _)|((with_reducible refine gE ?_);(try simp (disch:=omega) only [go_sem,Zyo,Zyl,Zyk,Zyj,Int.reduceAdd,Int.reduceSub,Int.reduceToNat,Zyw])<;>first|rfl|omega)|with_reducible refine Zai zd ?_|((with_reducible apply gy1);iterate 3 focus rfl)|((with_reducible apply gy2);iterate 3 focus rfl)|((with_reducible apply gy3);iterate 2 focus rfl)|((with_reducible apply gy4);iterate 1 focus rfl)|((with_reducible apply gy5);iterate 4 focus rfl)|((with_reducible apply gy5c);iterate 4 focus rfl)|((with_reducible apply gy6);iterate 4 focus rfl)|((with_reducible apply Zfy);iterate 3 focus rfl)|((with_reducible apply Zfr);iterate 1 focus rfl)|((with_reducible apply gy7);iterate 1 focus rfl)|((with_reducible apply gy9);(focus ((with_reducible refine gE ?_);(try simp (disch:=omega) only [go_sem,Zyo,Zyl,Zyk,Zyj,Int.reduceAdd,Int.reduceSub,Int.reduceToNat,Zyw])<;>rfl)))|((with_reducible apply gz1);(focus first|rfl|(simp (disch:=omega) only [go_sem,Zyo,Zyl,Zyk,Zyj,Int.reduceAdd,Int.reduceSub,Int.reduceToNat,Zyw];done)))|((with_reducible apply Zas (id:=1) (Zbr [(2,poA nm),(7,poA dm),(8,poA tm)]) [] []);(focus kernel_rfl);(focus rfl);(focus kernel_rfl);(focus (simp only [Zyx,Zy0,Nat.reduceAdd];rfl)))|((with_reducible apply Zas (id:=2) (Zbr [(5,poA g1),(6,poA y1),(12,poA f1),(13,poA z1),(14,poA v1),(20,poA g2),(21,poA y2),(27,poA f2),(28,poA z2),(29,poA v2)]) [] []);(focus kernel_rfl);(focus rfl);(focus kernel_rfl);(focus (simp only [Zyx,Zy0,Nat.reduceAdd];rfl)))|((with_reducible first|apply Zcs|apply Zc8|apply Zcv);all_goals (intro hc;(try simp only [bool_to_prop] at hc);try (exfalso;omega)))))
 (all_goals (try simp (disch:=omega) only [go_sem,Zyo,Zyl,Zyk,Zyj,Int.reduceAdd,Int.reduceSub,Int.reduceToNat,Zyw]));(all_goals first|done|rfl|(congr 2;first|done|omega|(rw [Zzg];simp only [bool_to_prop,Zyy,Zzn,Zzo,Zzp,Zzq];omega))|skip)
abbrev nilC:AV:=.agg [.v (.slice none 0 0),.v (.slice none 0 0)]
theorem Zi7 {a b c d:Pt} (ha:CB a) (hb:CB b) (hc:CB c) (hd:CB d):Pure prog 196 [poA (dotM a b a b),poA (dotM c d c d)] (poA (Zdr a b c d)):=(Zo8 (ha.dot hb ha hb) (hc.dot hd hc hd) zo zo zo zo zo zo).2
theorem rhE7 (ss:List RS) (gs:List RG) (cs:List Pt) (vs:List Vt) (i:Nat) (s:RS) (hi:i < ss.length) (hs:ss[i]=s) (hk:s.k=7) {a b c x:Pt} (ha:CB a) (hb:CB b) (hc:CB c) (hx:CB x):Pure prog 187 [figA ss gs,frmA cs vs,iv i,coA a,coA b,coA c,nilC,coA x] (.sl 1 [poA (Zb6 b c b x),poA (dotM b c a x)]):=by
 have hgi:(ss.map RS.av).getD i .u=s.av:=by rw [Zad RS.av hi,hs]
 have hls:(ss.map RS.av).length=ss.length:=Zyn ..;have c1:=Zgh hb hc hb hx;have c2:=rhDot hb hc ha hx;show Pure _ _ [.agg [.sl 6 (ss.map RS.av),.sl 5 (gs.map RG.av)],.agg [.sl 2 (cs.map coA),.sl 3 (vs.map Vt.av)],iv i,coA a,coA b,coA c,nilC,coA x] _;generalize Zb6 b c b x=r1 at *;generalize dotM b c a x=r2 at *;clear hs ha hb hc hx;obtain⟨a1,a2⟩:=a;obtain⟨b1,b2⟩:=b;obtain⟨c1,c2⟩:=c;obtain⟨x1,x2⟩:=x;obtain⟨k,nm,ar,⟨rs,rl,rd⟩⟩:=s;simp only at hk;subst hk;generalize ss.map RS.av=M at *;generalize gs.map RG.av=N at *;generalize cs.map coA=C at *;generalize vs.map Vt.av=V at *;refine pI func187 rfl ntmps187 results187 call187 ?_
 (focus (refine wkld (w_2 hls hgi) (w_2 c1 c2) w_t (w_1 (w_d 5 [(4,poA r1),(9,poA r2)] [] [])) ?_;(repeat' first|exact w_t|apply w_l);all_goals intros))
theorem rhE8 (ss:List RS) (gs:List RG) (cs:List Pt) (vs:List Vt) (i:Nat) (s:RS) (hi:i < ss.length) (hs:ss[i]=s) (hk:s.k=8) {a b c x:Pt} (ha:CB a) (hb:CB b) (hc:CB c) (hx:CB x):Pure prog 187 [figA ss gs,frmA cs vs,iv i,coA a,coA b,coA c,nilC,coA x] (.sl 1 [poA (dotM b c a x),poA (addM (Zb6 b c b a) (Zb6 b c b x))]):=by
 have hgi:(ss.map RS.av).getD i .u=s.av:=by rw [Zad RS.av hi,hs]
 have hls:(ss.map RS.av).length=ss.length:=Zyn ..;have c1:=Zgh hb hc hb ha;have c2:=Zgh hb hc hb hx;have ad:=(Zxj (hb.cross hc hb ha) (hb.cross hc hb hx) zo zo zo zo zo zo).2;have c3:=rhDot hb hc ha hx;show Pure _ _ [.agg [.sl 6 (ss.map RS.av),.sl 5 (gs.map RG.av)],.agg [.sl 2 (cs.map coA),.sl 3 (vs.map Vt.av)],iv i,coA a,coA b,coA c,nilC,coA x] _;generalize addM (Zb6 b c b a) (Zb6 b c b x)=w at *;generalize Zb6 b c b a=r1 at *;generalize Zb6 b c b x=r2 at *;generalize dotM b c a x=d at *;clear hs ha hb hc hx;obtain⟨a1,a2⟩:=a;obtain⟨b1,b2⟩:=b;obtain⟨c1,c2⟩:=c;obtain⟨x1,x2⟩:=x
 obtain⟨k,nm,ar,⟨rs,rl,rd⟩⟩:=s;simp only at hk;subst hk;generalize ss.map RS.av=M at *;generalize gs.map RG.av=N at *;generalize cs.map coA=C at *;generalize vs.map Vt.av=V at *;refine pI func187 rfl ntmps187 results187 call187 ?_;(focus (refine wkld (w_2 hls hgi) (w_4 c1 c2 ad c3) w_t (w_1 (w_d 7 [(4,poA d),(9,poA r1),(14,poA r2),(15,poA w)] [] [])) ?_;(repeat' first|exact w_t|apply w_l);all_goals intros))
theorem rhE9 (ss:List RS) (gs:List RG) (cs:List Pt) (vs:List Vt) (i:Nat) (s:RS) (hi:i < ss.length) (hs:ss[i]=s) (hk:s.k=9) {a b c d x:Pt} (ha:CB a) (hb:CB b) (hc:CB c) (hd:CB d) (hx:CB x):Pure prog 187 [figA ss gs,frmA cs vs,iv i,coA a,coA b,coA c,coA d,coA x] (.sl 1 [poA (Zb6 a b a x),poA (Zb6 c d c x)]):=by
 have hgi:(ss.map RS.av).getD i .u=s.av:=by rw [Zad RS.av hi,hs]
 have hls:(ss.map RS.av).length=ss.length:=Zyn ..;have c1:=Zgh ha hb ha hx;have c2:=Zgh hc hd hc hx;show Pure _ _ [.agg [.sl 6 (ss.map RS.av),.sl 5 (gs.map RG.av)],.agg [.sl 2 (cs.map coA),.sl 3 (vs.map Vt.av)],iv i,coA a,coA b,coA c,coA d,coA x] _;generalize Zb6 a b a x=r1 at *;generalize Zb6 c d c x=r2 at *;clear hs ha hb hc hd hx;obtain⟨a1,a2⟩:=a;obtain⟨b1,b2⟩:=b;obtain⟨c1,c2⟩:=c;obtain⟨d1,d2⟩:=d;obtain⟨x1,x2⟩:=x;obtain⟨k,nm,ar,⟨rs,rl,rd⟩⟩:=s;simp only at hk;subst hk;generalize ss.map RS.av=M at *;generalize gs.map RG.av=N at *;generalize cs.map coA=C at *;generalize vs.map Vt.av=V at *
 refine pI func187 rfl ntmps187 results187 call187 ?_;(focus (refine wkld (w_2 hls hgi) (w_2 c1 c2) w_t (w_1 (w_d 9 [(4,poA r1),(9,poA r2)] [] [])) ?_;(repeat' first|exact w_t|apply w_l);all_goals intros))
theorem rhE10 (ss:List RS) (gs:List RG) (cs:List Pt) (vs:List Vt) (i:Nat) (s:RS) (hi:i < ss.length) (hs:ss[i]=s) (hk:s.k=10) {a b c x:Pt} (ha:CB a) (hb:CB b) (hc:CB c) (hx:CB x):Pure prog 187 [figA ss gs,frmA cs vs,iv i,coA a,coA b,coA c,nilC,coA x] (.sl 1 ((Zok a b c x).map poA)):=by
 have hgi:(ss.map RS.av).getD i .u=s.av:=by rw [Zad RS.av hi,hs]
 have hls:(ss.map RS.av).length=ss.length:=Zyn ..;have c1:=rhOther ha hb hc hx;show Pure _ _ [.agg [.sl 6 (ss.map RS.av),.sl 5 (gs.map RG.av)],.agg [.sl 2 (cs.map coA),.sl 3 (vs.map Vt.av)],iv i,coA a,coA b,coA c,nilC,coA x] _;generalize (Zok a b c x).map poA=L at *;clear hs ha hb hc hx;obtain⟨a1,a2⟩:=a;obtain⟨b1,b2⟩:=b;obtain⟨c1,c2⟩:=c;obtain⟨x1,x2⟩:=x;obtain⟨k,nm,ar,⟨rs,rl,rd⟩⟩:=s;simp only at hk;subst hk;generalize ss.map RS.av=M at *;generalize gs.map RG.av=N at *;generalize cs.map coA=C at *;generalize vs.map Vt.av=V at *;refine pI func187 rfl ntmps187 results187 call187 ?_
 (focus (refine wkld (w_2 hls hgi) (w_1 c1) w_t w_t ?_;(repeat' first|exact w_t|apply w_l);all_goals intros))
theorem rhE6 (ss:List RS) (gs:List RG) (cs:List Pt) (vs:List Vt) (i:Nat) (s:RS) (hi:i < ss.length) (hs:ss[i]=s) (hk:s.k=6) (w:Nat) (hv:vs.length≤900) (hw:w < 900) (hf:fstN vs i vs.length=some w) {a b x:Pt} (ha:CB a) (hb:CB b) (hx:CB x):Pure prog 187 [figA ss gs,frmA cs vs,iv i,coA a,coA b,nilC,nilC,coA x] (.sl 1 ((Zuc a b x (varM w)).map poA)):=by
 have hgi:(ss.map RS.av).getD i .u=s.av:=by rw [Zad RS.av hi,hs]
 have hls:(ss.map RS.av).length=ss.length:=Zyn ..;have c1:Pure prog 223 [.agg [.sl 2 (cs.map coA),.sl 3 (vs.map Vt.av)],iv i,coA a,coA b,coA x] (.sl 1 ((Zuc a b x (varM w)).map poA)):=rhCirc cs vs i w hv hw hf ha hb hx;show Pure _ _ [.agg [.sl 6 (ss.map RS.av),.sl 5 (gs.map RG.av)],.agg [.sl 2 (cs.map coA),.sl 3 (vs.map Vt.av)],iv i,coA a,coA b,nilC,nilC,coA x] _;generalize (Zuc a b x (varM w)).map poA=L at *;clear hf hv hw;clear hs ha hb hx;obtain⟨a1,a2⟩:=a;obtain⟨b1,b2⟩:=b;obtain⟨x1,x2⟩:=x;obtain⟨k,nm,ar,⟨rs,rl,rd⟩⟩:=s;simp only at hk;subst hk;generalize ss.map RS.av=M at *
 generalize gs.map RG.av=N at *;generalize cs.map coA=C at *;generalize vs.map Vt.av=V at *;refine pI func187 rfl ntmps187 results187 call187 ?_;(focus (refine wkld (w_2 hls hgi) (w_1 c1) w_t w_t ?_;(repeat' first|exact w_t|apply w_l);all_goals intros))
theorem rhE11 (ss:List RS) (gs:List RG) (cs:List Pt) (vs:List Vt) (i:Nat) (s:RS) (hi:i < ss.length) (hs:ss[i]=s) (hk:s.k=11) {a b c x:Pt} (ha:CB a) (hb:CB b) (hc:CB c) (hx:CB x):Pure prog 187 [figA ss gs,frmA cs vs,iv i,coA a,coA b,coA c,nilC,coA x] (.sl 1 [poA (Zdr a x b x),poA (Zdr a x c x)]):=by
 have hgi:(ss.map RS.av).getD i .u=s.av:=by rw [Zad RS.av hi,hs]
 have hls:(ss.map RS.av).length=ss.length:=Zyn ..;have n1:=Zeh ha hx;have n2:=Zeh hb hx;have n3:=Zeh hc hx;have z1:=Zi7 ha hx hb hx;have z2:=Zi7 ha hx hc hx;show Pure _ _ [.agg [.sl 6 (ss.map RS.av),.sl 5 (gs.map RG.av)],.agg [.sl 2 (cs.map coA),.sl 3 (vs.map Vt.av)],iv i,coA a,coA b,coA c,nilC,coA x] _;generalize Zdr a x b x=r1 at *;generalize Zdr a x c x=r2 at *;generalize dotM a x a x=u1 at *;generalize dotM b x b x=u2 at *;generalize dotM c x c x=u3 at *;clear hs ha hb hc hx;obtain⟨a1,a2⟩:=a;obtain⟨b1,b2⟩:=b;obtain⟨c1,c2⟩:=c;obtain⟨x1,x2⟩:=x;obtain⟨k,nm,ar,⟨rs,rl,rd⟩⟩:=s
 simp only at hk;subst hk;generalize ss.map RS.av=M at *;generalize gs.map RG.av=N at *;generalize cs.map coA=C at *;generalize vs.map Vt.av=V at *;refine pI func187 rfl ntmps187 results187 call187 ?_;(focus (refine wkld (w_2 hls hgi) (w_5 n1 n2 n3 z1 z2) w_t (w_1 (w_d 13 [(2,poA u1),(5,poA u2),(6,poA r1),(9,poA u1),(12,poA u3),(13,poA r2)] [] [])) ?_;(repeat' first|exact w_t|apply w_l);all_goals intros))
theorem rhE12 (ss:List RS) (gs:List RG) (cs:List Pt) (vs:List Vt) (i:Nat) (s:RS) (hi:i < ss.length) (hs:ss[i]=s) (hk:s.k=12) {a b c d x:Pt} (ha:CB a) (hb:CB b) (hc:CB c) (hd:CB d) (hx:CB x):Pure prog 187 [figA ss gs,frmA cs vs,iv i,coA a,coA b,coA c,coA d,coA x] (.sl 1 [poA (Zb6 a b a x),poA (Zdr c x c d)]):=by
 have hgi:(ss.map RS.av).getD i .u=s.av:=by rw [Zad RS.av hi,hs]
 have hls:(ss.map RS.av).length=ss.length:=Zyn ..;have c1:=Zgh ha hb ha hx;have n1:=Zeh hc hx;have n2:=Zeh hc hd;have z1:=Zi7 hc hx hc hd;show Pure _ _ [.agg [.sl 6 (ss.map RS.av),.sl 5 (gs.map RG.av)],.agg [.sl 2 (cs.map coA),.sl 3 (vs.map Vt.av)],iv i,coA a,coA b,coA c,coA d,coA x] _;generalize Zb6 a b a x=r1 at *;generalize Zdr c x c d=r2 at *;generalize dotM c x c x=u1 at *;generalize dotM c d c d=u2 at *;clear hs ha hb hc hd hx;obtain⟨a1,a2⟩:=a;obtain⟨b1,b2⟩:=b;obtain⟨c1,c2⟩:=c;obtain⟨d1,d2⟩:=d;obtain⟨x1,x2⟩:=x;obtain⟨k,nm,ar,⟨rs,rl,rd⟩⟩:=s;simp only at hk;subst hk
 generalize ss.map RS.av=M at *;generalize gs.map RG.av=N at *;generalize cs.map coA=C at *;generalize vs.map Vt.av=V at *;refine pI func187 rfl ntmps187 results187 call187 ?_;(focus (refine wkld (w_2 hls hgi) (w_4 c1 n1 n2 z1) w_t (w_1 (w_d 15 [(4,poA r1),(7,poA u1),(10,poA u2),(11,poA r2)] [] [])) ?_;(repeat' first|exact w_t|apply w_l);all_goals intros))
theorem rhE13 (ss:List RS) (gs:List RG) (cs:List Pt) (vs:List Vt) (i:Nat) (s:RS) (hi:i < ss.length) (hs:ss[i]=s) (hk:s.k=13) {a b c d x:Pt} (ha:CB a) (hb:CB b) (hc:CB c) (hd:CB d) (hx:CB x):Pure prog 187 [figA ss gs,frmA cs vs,iv i,coA a,coA b,coA c,coA d,coA x] (.sl 1 [poA (Zdr a x a b),poA (Zdr c x c d)]):=by
 have hgi:(ss.map RS.av).getD i .u=s.av:=by rw [Zad RS.av hi,hs]
 have hls:(ss.map RS.av).length=ss.length:=Zyn ..;have n1:=Zeh ha hx;have n2:=Zeh ha hb;have n3:=Zeh hc hx;have n4:=Zeh hc hd;have z1:=Zi7 ha hx ha hb;have z2:=Zi7 hc hx hc hd;show Pure _ _ [.agg [.sl 6 (ss.map RS.av),.sl 5 (gs.map RG.av)],.agg [.sl 2 (cs.map coA),.sl 3 (vs.map Vt.av)],iv i,coA a,coA b,coA c,coA d,coA x] _;generalize Zdr a x a b=r1 at *;generalize Zdr c x c d=r2 at *;generalize dotM a x a x=u1 at *;generalize dotM a b a b=u2 at *;generalize dotM c x c x=u3 at *;generalize dotM c d c d=u4 at *;clear hs ha hb hc hd hx;obtain⟨a1,a2⟩:=a;obtain⟨b1,b2⟩:=b
 obtain⟨c1,c2⟩:=c;obtain⟨d1,d2⟩:=d;obtain⟨x1,x2⟩:=x;obtain⟨k,nm,ar,⟨rs,rl,rd⟩⟩:=s;simp only at hk;subst hk;generalize ss.map RS.av=M at *;generalize gs.map RG.av=N at *;generalize cs.map coA=C at *;generalize vs.map Vt.av=V at *;refine pI func187 rfl ntmps187 results187 call187 ?_;(focus (refine wkld (w_2 hls hgi) (w_6 n1 n2 n3 n4 z1 z2) w_t (w_1 (w_d 17 [(2,poA u1),(5,poA u2),(6,poA r1),(9,poA u3),(12,poA u4),(13,poA r2)] [] [])) ?_;(repeat' first|exact w_t|apply w_l);all_goals intros))
theorem rhE14 (ss:List RS) (gs:List RG) (cs:List Pt) (vs:List Vt) (i:Nat) (s:RS) (hi:i < ss.length) (hs:ss[i]=s) (hk:s.k=14) {a b x:Pt} (ha:CB a) (hb:CB b) (hx:CB x):Pure prog 187 [figA ss gs,frmA cs vs,iv i,coA a,coA b,nilC,nilC,coA x] (.sl 1 [poA (Zdr a x a b),poA (Zdr b x a b)]):=by
 have hgi:(ss.map RS.av).getD i .u=s.av:=by rw [Zad RS.av hi,hs]
 have hls:(ss.map RS.av).length=ss.length:=Zyn ..;have n1:=Zeh ha hx;have n2:=Zeh ha hb;have n3:=Zeh hb hx;have z1:=Zi7 ha hx ha hb;have z2:=Zi7 hb hx ha hb;show Pure _ _ [.agg [.sl 6 (ss.map RS.av),.sl 5 (gs.map RG.av)],.agg [.sl 2 (cs.map coA),.sl 3 (vs.map Vt.av)],iv i,coA a,coA b,nilC,nilC,coA x] _;generalize Zdr a x a b=r1 at *;generalize Zdr b x a b=r2 at *;generalize dotM a x a x=u1 at *;generalize dotM a b a b=u2 at *;generalize dotM b x b x=u3 at *;clear hs ha hb hx;obtain⟨a1,a2⟩:=a;obtain⟨b1,b2⟩:=b;obtain⟨x1,x2⟩:=x;obtain⟨k,nm,ar,⟨rs,rl,rd⟩⟩:=s;simp only at hk
 subst hk;generalize ss.map RS.av=M at *;generalize gs.map RG.av=N at *;generalize cs.map coA=C at *;generalize vs.map Vt.av=V at *;refine pI func187 rfl ntmps187 results187 call187 ?_;(focus (refine wkld (w_2 hls hgi) (w_5 n1 n2 n3 z1 z2) w_t (w_1 (w_d 19 [(2,poA u1),(5,poA u2),(6,poA r1),(9,poA u3),(12,poA u2),(13,poA r2)] [] [])) ?_;(repeat' first|exact w_t|apply w_l);all_goals intros))
theorem rhE0_0 (ss:List RS) (gs:List RG) (cs:List Pt) (vs:List Vt) (i:Nat) (s:RS) (hi:i < ss.length) (hs:ss[i]=s) (hk:s.k < 6∨14 < s.k) (x:Pt):Pure prog 187 [figA ss gs,frmA cs vs,iv i,nilC,nilC,nilC,nilC,coA x] (.sl 1 []):=by
 refine Zcj (r:=.v (.slice none 0 0)) ?_ (.nil 1);have hgi:(ss.map RS.av).getD i .u=s.av:=by rw [Zad RS.av hi,hs]
 have hls:(ss.map RS.av).length=ss.length:=Zyn ..;show Pure _ _ [.agg [.sl 6 (ss.map RS.av),.sl 5 (gs.map RG.av)],.agg [.sl 2 (cs.map coA),.sl 3 (vs.map Vt.av)],iv i,nilC,nilC,nilC,nilC,coA x] _;clear hs;obtain⟨k,nm,ar,⟨rs,rl,rd⟩⟩:=s;obtain⟨x1,x2⟩:=x;simp only at hk;have k6:¬k=6:=zo;have k7:¬k=7:=zo;have k8:¬k=8:=zo;have k9:¬k=9:=zo;have k10:¬k=10:=zo;have k11:¬k=11:=zo;have k12:¬k=12:=zo;have k13:¬k=13:=zo;have k14:¬k=14:=zo;generalize ss.map RS.av=M at *;generalize gs.map RG.av=N at *;generalize cs.map coA=C at *;generalize vs.map Vt.av=V at *;refine pI func187 rfl ntmps187 results187 call187 ?_
 (focus (refine wkld (w_11 hls hgi k6 k7 k8 k9 k10 k11 k12 k13 k14) w_t w_t w_t ?_;(repeat' first|exact w_t|apply w_l);all_goals intros))
theorem rhE0_2 (ss:List RS) (gs:List RG) (cs:List Pt) (vs:List Vt) (i:Nat) (s:RS) (hi:i < ss.length) (hs:ss[i]=s) (hk:s.k < 6∨14 < s.k) (a:Pt) (b:Pt) (x:Pt):Pure prog 187 [figA ss gs,frmA cs vs,iv i,coA a,coA b,nilC,nilC,coA x] (.sl 1 []):=by
 refine Zcj (r:=.v (.slice none 0 0)) ?_ (.nil 1);have hgi:(ss.map RS.av).getD i .u=s.av:=by rw [Zad RS.av hi,hs]
 have hls:(ss.map RS.av).length=ss.length:=Zyn ..;show Pure _ _ [.agg [.sl 6 (ss.map RS.av),.sl 5 (gs.map RG.av)],.agg [.sl 2 (cs.map coA),.sl 3 (vs.map Vt.av)],iv i,coA a,coA b,nilC,nilC,coA x] _;clear hs;obtain⟨k,nm,ar,⟨rs,rl,rd⟩⟩:=s;obtain⟨a1,a2⟩:=a;obtain⟨b1,b2⟩:=b;obtain⟨x1,x2⟩:=x;simp only at hk;have k6:¬k=6:=zo;have k7:¬k=7:=zo;have k8:¬k=8:=zo;have k9:¬k=9:=zo;have k10:¬k=10:=zo;have k11:¬k=11:=zo;have k12:¬k=12:=zo;have k13:¬k=13:=zo;have k14:¬k=14:=zo;generalize ss.map RS.av=M at *;generalize gs.map RG.av=N at *;generalize cs.map coA=C at *;generalize vs.map Vt.av=V at *;refine pI func187 rfl ntmps187 results187 call187 ?_
 (focus (refine wkld (w_11 hls hgi k6 k7 k8 k9 k10 k11 k12 k13 k14) w_t w_t w_t ?_;(repeat' first|exact w_t|apply w_l);all_goals intros))
theorem rhE0_3 (ss:List RS) (gs:List RG) (cs:List Pt) (vs:List Vt) (i:Nat) (s:RS) (hi:i < ss.length) (hs:ss[i]=s) (hk:s.k < 6∨14 < s.k) (a:Pt) (b:Pt) (c:Pt) (x:Pt):Pure prog 187 [figA ss gs,frmA cs vs,iv i,coA a,coA b,coA c,nilC,coA x] (.sl 1 []):=by
 refine Zcj (r:=.v (.slice none 0 0)) ?_ (.nil 1);have hgi:(ss.map RS.av).getD i .u=s.av:=by rw [Zad RS.av hi,hs]
 have hls:(ss.map RS.av).length=ss.length:=Zyn ..;show Pure _ _ [.agg [.sl 6 (ss.map RS.av),.sl 5 (gs.map RG.av)],.agg [.sl 2 (cs.map coA),.sl 3 (vs.map Vt.av)],iv i,coA a,coA b,coA c,nilC,coA x] _;clear hs;obtain⟨k,nm,ar,⟨rs,rl,rd⟩⟩:=s;obtain⟨a1,a2⟩:=a;obtain⟨b1,b2⟩:=b;obtain⟨c1,c2⟩:=c;obtain⟨x1,x2⟩:=x;simp only at hk;have k6:¬k=6:=zo;have k7:¬k=7:=zo;have k8:¬k=8:=zo;have k9:¬k=9:=zo;have k10:¬k=10:=zo;have k11:¬k=11:=zo;have k12:¬k=12:=zo;have k13:¬k=13:=zo;have k14:¬k=14:=zo;generalize ss.map RS.av=M at *;generalize gs.map RG.av=N at *;generalize cs.map coA=C at *;generalize vs.map Vt.av=V at *
 refine pI func187 rfl ntmps187 results187 call187 ?_;(focus (refine wkld (w_11 hls hgi k6 k7 k8 k9 k10 k11 k12 k13 k14) w_t w_t w_t ?_;(repeat' first|exact w_t|apply w_l);all_goals intros))
theorem rhStep0 (ss:List RS) (gs:List RG) (cs:List Pt) (vs:List Vt) (i:Nat) (s:RS) (x:Pt) (L:List Po) (hi:i < ss.length) (hs:ss[i]=s) (hcl:cs.length=ss.length) (hx:cs.getD i ([],[])=x) (har:s.ar=[])
 (ce:Pure prog 187 [figA ss gs,frmA cs vs,iv i,nilC,nilC,nilC,nilC,coA x] (.sl 1 (L.map poA))) :
 Pure prog 141 [figA ss gs,frmA cs vs,iv i] (.tup [.sl 1 (L.map poA),iv 0]):=by
 have ce:Pure prog 187 [.agg [.sl 6 (ss.map RS.av),.sl 5 (gs.map RG.av)],.agg [.sl 2 (cs.map coA),.sl 3 (vs.map Vt.av)],iv i,nilC,nilC,nilC,nilC,coA x] (.sl 1 (L.map poA)):=ce;have hgi:(ss.map RS.av).getD i .u=s.av:=by rw [Zad RS.av hi,hs]
 have hgx:(cs.map coA).getD i .u=coA x:=by rw [←hx,Zad coA zo,Zyu,Zym zo];rfl
 have hls:(ss.map RS.av).length=ss.length:=Zyn ..;have hlC:(cs.map coA).length=ss.length:=by rw [Zyn,hcl]
 show Pure _ _ [.agg [.sl 6 (ss.map RS.av),.sl 5 (gs.map RG.av)],.agg [.sl 2 (cs.map coA),.sl 3 (vs.map Vt.av)],iv i] _;clear hs hx;obtain⟨k,nm,ar,⟨rs,rl,rd⟩⟩:=s;simp only at har;subst har;obtain⟨x1,x2⟩:=x;generalize ss.map RS.av=M at *;generalize gs.map RG.av=N at *;generalize cs.map coA=C at *;generalize vs.map Vt.av=V at *;generalize L.map poA=LA at *;refine pI func141 rfl ntmps141 results141 call141 ?_;(focus (refine wkax (w_4 hls hlC hgi hgx) (w_1 ce) (w_2 (w_d 7 [] [15] []) (w_d 8 [(16,.sl 1 LA)] [] [])) w_t w_t w_t w_y (w_r 6) ?_;(repeat' first|exact w_t|apply w_l);all_goals intros))
 (all_goals (try simp (disch:=omega) only [go_sem,Zyo,Zyl,Zyk,Zyj,Int.reduceAdd,Int.reduceSub,Int.reduceToNat,Zyw]));(all_goals first|done|rfl|(congr 2;first|done|omega|(rw [Zzg];simp only [bool_to_prop,Zyy,Zzn,Zzo,Zzp,Zzq];omega))|skip)
theorem Zmn (ss:List RS) (gs:List RG) (cs:List Pt) (vs:List Vt) (i:Nat) (s:RS) (x:Pt) (L:List Po) (hi:i < ss.length) (hs:ss[i]=s) (hcl:cs.length=ss.length) (hx:cs.getD i ([],[])=x) {a b:Nat} {pa pb:Pt} (har:s.ar=[((a:Nat):Int),((b:Nat):Int)]) (ha:a < cs.length) (ea:cs.getD a ([],[])=pa) (hb:b < cs.length) (eb:cs.getD b ([],[])=pb)
 (ce:Pure prog 187 [figA ss gs,frmA cs vs,iv i,coA pa,coA pb,nilC,nilC,coA x] (.sl 1 (L.map poA))) :
 Pure prog 141 [figA ss gs,frmA cs vs,iv i] (.tup [.sl 1 (L.map poA),iv 0]):=by
 have ce:Pure prog 187 [.agg [.sl 6 (ss.map RS.av),.sl 5 (gs.map RG.av)],.agg [.sl 2 (cs.map coA),.sl 3 (vs.map Vt.av)],iv i,coA pa,coA pb,nilC,nilC,coA x] (.sl 1 (L.map poA)):=ce;have hgi:(ss.map RS.av).getD i .u=s.av:=by rw [Zad RS.av hi,hs]
 have hgx:(cs.map coA).getD i .u=coA x:=by rw [←hx,Zad coA zo,Zyu,Zym zo];rfl
 have hls:(ss.map RS.av).length=ss.length:=Zyn ..;have hlC:(cs.map coA).length=ss.length:=by rw [Zyn,hcl]
 have ga:(cs.map coA).getD a .u=coA pa:=by rw [←ea,Zad coA ha,Zyu,Zym ha];rfl
 have gb:(cs.map coA).getD b .u=coA pb:=by rw [←eb,Zad coA hb,Zyu,Zym hb];rfl
 have ka:a < ss.length:=zo;have kb:b < ss.length:=zo;show Pure _ _ [.agg [.sl 6 (ss.map RS.av),.sl 5 (gs.map RG.av)],.agg [.sl 2 (cs.map coA),.sl 3 (vs.map Vt.av)],iv i] _;clear hs hx ha ea hb eb;obtain⟨k,nm,ar,⟨rs,rl,rd⟩⟩:=s;simp only at har;subst har;obtain⟨pa1,pa2⟩:=pa;obtain⟨pb1,pb2⟩:=pb;obtain⟨x1,x2⟩:=x;generalize ss.map RS.av=M at *;generalize gs.map RG.av=N at *;generalize cs.map coA=C at *;generalize vs.map Vt.av=V at *;generalize L.map poA=LA at *;refine pI func141 rfl ntmps141 results141 call141 ?_;(focus (refine wkax (w_6 hls hlC hgi hgx ga gb) (w_1 ce) (w_2 (w_d 7 [] [15] []) (w_d 8 [(16,.sl 1 LA)] [] [])) w_t w_t w_t w_y (w_r 6) ?_;(repeat' first|exact w_t|apply w_l);all_goals intros))
 (all_goals (try simp (disch:=omega) only [go_sem,Zyo,Zyl,Zyk,Zyj,Int.reduceAdd,Int.reduceSub,Int.reduceToNat,Zyw]));(all_goals first|done|rfl|(congr 2;first|done|omega|(rw [Zzg];simp only [bool_to_prop,Zyy,Zzn,Zzo,Zzp,Zzq];omega))|skip)
theorem Zis (ss:List RS) (gs:List RG) (cs:List Pt) (vs:List Vt) (i:Nat) (s:RS) (x:Pt) (L:List Po) (hi:i < ss.length) (hs:ss[i]=s) (hcl:cs.length=ss.length) (hx:cs.getD i ([],[])=x) {a b c:Nat} {pa pb pc:Pt} (har:s.ar=[((a:Nat):Int),((b:Nat):Int),((c:Nat):Int)]) (ha:a < cs.length) (ea:cs.getD a ([],[])=pa) (hb:b < cs.length) (eb:cs.getD b ([],[])=pb) (hc:c < cs.length) (ec:cs.getD c ([],[])=pc)
 (ce:Pure prog 187 [figA ss gs,frmA cs vs,iv i,coA pa,coA pb,coA pc,nilC,coA x] (.sl 1 (L.map poA))) :
 Pure prog 141 [figA ss gs,frmA cs vs,iv i] (.tup [.sl 1 (L.map poA),iv 0]):=by
 have ce:Pure prog 187 [.agg [.sl 6 (ss.map RS.av),.sl 5 (gs.map RG.av)],.agg [.sl 2 (cs.map coA),.sl 3 (vs.map Vt.av)],iv i,coA pa,coA pb,coA pc,nilC,coA x] (.sl 1 (L.map poA)):=ce;have hgi:(ss.map RS.av).getD i .u=s.av:=by rw [Zad RS.av hi,hs]
 have hgx:(cs.map coA).getD i .u=coA x:=by rw [←hx,Zad coA zo,Zyu,Zym zo];rfl
 have hls:(ss.map RS.av).length=ss.length:=Zyn ..;have hlC:(cs.map coA).length=ss.length:=by rw [Zyn,hcl]
 have ga:(cs.map coA).getD a .u=coA pa:=by rw [←ea,Zad coA ha,Zyu,Zym ha];rfl
 have gb:(cs.map coA).getD b .u=coA pb:=by rw [←eb,Zad coA hb,Zyu,Zym hb];rfl
 have gc:(cs.map coA).getD c .u=coA pc:=by rw [←ec,Zad coA hc,Zyu,Zym hc];rfl
 have ka:a < ss.length:=zo;have kb:b < ss.length:=zo;have kc:c < ss.length:=zo;show Pure _ _ [.agg [.sl 6 (ss.map RS.av),.sl 5 (gs.map RG.av)],.agg [.sl 2 (cs.map coA),.sl 3 (vs.map Vt.av)],iv i] _;clear hs hx ha ea hb eb hc ec;obtain⟨k,nm,ar,⟨rs,rl,rd⟩⟩:=s;simp only at har;subst har;obtain⟨pa1,pa2⟩:=pa;obtain⟨pb1,pb2⟩:=pb;obtain⟨pc1,pc2⟩:=pc;obtain⟨x1,x2⟩:=x;generalize ss.map RS.av=M at *;generalize gs.map RG.av=N at *;generalize cs.map coA=C at *;generalize vs.map Vt.av=V at *;generalize L.map poA=LA at *;refine pI func141 rfl ntmps141 results141 call141 ?_;(focus (refine wkax (w_7 hls hlC hgi hgx ga gb gc) (w_1 ce) (w_2 (w_d 7 [] [15] []) (w_d 8 [(16,.sl 1 LA)] [] [])) w_t w_t w_t w_y (w_r 6) ?_;(repeat' first|exact w_t|apply w_l);all_goals intros))
 (all_goals (try simp (disch:=omega) only [go_sem,Zyo,Zyl,Zyk,Zyj,Int.reduceAdd,Int.reduceSub,Int.reduceToNat,Zyw]));(all_goals first|done|rfl|(congr 2;first|done|omega|(rw [Zzg];simp only [bool_to_prop,Zyy,Zzn,Zzo,Zzp,Zzq];omega))|skip)
theorem Zp6 (ss:List RS) (gs:List RG) (cs:List Pt) (vs:List Vt) (i:Nat) (s:RS) (x:Pt) (L:List Po) (hi:i < ss.length) (hs:ss[i]=s) (hcl:cs.length=ss.length) (hx:cs.getD i ([],[])=x) {a b c d:Nat} {pa pb pc pd:Pt} (har:s.ar=[((a:Nat):Int),((b:Nat):Int),((c:Nat):Int),((d:Nat):Int)]) (ha:a < cs.length) (ea:cs.getD a ([],[])=pa) (hb:b < cs.length) (eb:cs.getD b ([],[])=pb) (hc:c < cs.length) (ec:cs.getD c ([],[])=pc) (hd:d < cs.length) (ed:cs.getD d ([],[])=pd)
 (ce:Pure prog 187 [figA ss gs,frmA cs vs,iv i,coA pa,coA pb,coA pc,coA pd,coA x] (.sl 1 (L.map poA))) :
 Pure prog 141 [figA ss gs,frmA cs vs,iv i] (.tup [.sl 1 (L.map poA),iv 0]):=by
 have ce:Pure prog 187 [.agg [.sl 6 (ss.map RS.av),.sl 5 (gs.map RG.av)],.agg [.sl 2 (cs.map coA),.sl 3 (vs.map Vt.av)],iv i,coA pa,coA pb,coA pc,coA pd,coA x] (.sl 1 (L.map poA)):=ce;have hgi:(ss.map RS.av).getD i .u=s.av:=by rw [Zad RS.av hi,hs]
 have hgx:(cs.map coA).getD i .u=coA x:=by rw [←hx,Zad coA zo,Zyu,Zym zo];rfl
 have hls:(ss.map RS.av).length=ss.length:=Zyn ..;have hlC:(cs.map coA).length=ss.length:=by rw [Zyn,hcl]
 have ga:(cs.map coA).getD a .u=coA pa:=by rw [←ea,Zad coA ha,Zyu,Zym ha];rfl
 have gb:(cs.map coA).getD b .u=coA pb:=by rw [←eb,Zad coA hb,Zyu,Zym hb];rfl
 have gc:(cs.map coA).getD c .u=coA pc:=by rw [←ec,Zad coA hc,Zyu,Zym hc];rfl
 have gd:(cs.map coA).getD d .u=coA pd:=by rw [←ed,Zad coA hd,Zyu,Zym hd];rfl
 have ka:a < ss.length:=zo;have kb:b < ss.length:=zo;have kc:c < ss.length:=zo;have kd:d < ss.length:=zo;show Pure _ _ [.agg [.sl 6 (ss.map RS.av),.sl 5 (gs.map RG.av)],.agg [.sl 2 (cs.map coA),.sl 3 (vs.map Vt.av)],iv i] _;clear hs hx ha ea hb eb hc ec hd ed;obtain⟨k,nm,ar,⟨rs,rl,rd⟩⟩:=s;simp only at har;subst har;obtain⟨pa1,pa2⟩:=pa;obtain⟨pb1,pb2⟩:=pb;obtain⟨pc1,pc2⟩:=pc;obtain⟨pd1,pd2⟩:=pd;obtain⟨x1,x2⟩:=x;generalize ss.map RS.av=M at *;generalize gs.map RG.av=N at *;generalize cs.map coA=C at *;generalize vs.map Vt.av=V at *;generalize L.map poA=LA at *;refine pI func141 rfl ntmps141 results141 call141 ?_
 (focus (refine wkax (w_8 hls hlC hgi hgx ga gb gc gd) (w_1 ce) (w_2 (w_d 7 [] [15] []) (w_d 8 [(16,.sl 1 LA)] [] [])) w_t w_t w_t w_y (w_r 6) ?_;(repeat' first|exact w_t|apply w_l);all_goals intros))
 (all_goals (try simp (disch:=omega) only [go_sem,Zyo,Zyl,Zyk,Zyj,Int.reduceAdd,Int.reduceSub,Int.reduceToNat,Zyw]));(all_goals first|done|rfl|(congr 2;first|done|omega|(rw [Zzg];simp only [bool_to_prop,Zyy,Zzn,Zzo,Zzp,Zzq];omega))|skip)
theorem few_in {ss:List RS} {gs:List RG} (hs:∀s∈ss,s.sm) (h:fewB ss gs=true):ss.length≤8∧figE ss gs=0∧FigOk ss∧Zs7 ss gs=true:=by
 unfold fewB at h;simp only [Zy7,Zzi,ZA3] at h;obtain⟨h1,h2,h3,h4,h5,h6⟩:=h;refine⟨h1,h3,⟨zo,Zt8 h3,λs hm=>?_,?_⟩,h4⟩
 ·have:=h5 s hm;unfold rat2 at this;simp only [Zy7,Zzi] at this;obtain⟨k1,k2,k3,k4⟩:=(hs s hm).1;exact⟨k1,k2,this.1,this.2⟩
 ·have:=nfN_le ss ss.length;omega
theorem Zup (ss:List RS) {i j:Nat} (h:j < i):∀d,gI (wts ss (i+d)) j=gI (wts ss i) j
 | 0=>rfl
 | d+1=>by
   show gI (wts ss (i+d)++[_]) j=_;rw [gI_app,Zpl,Zyk zo];exact Zup ss h d
theorem few_cb {ss:List RS} {gs:List RG} (hl:ss.length≤8) (ok:FigOk ss) (ht:Zs7 ss gs=true):(∀j,j < ss.length→bigN ss j=false)∧∀j,CB ((frN ss ss.length).cs.getD j ([],[])):=by
 have hw:∀j,gI (wts ss ss.length) j≤8:=λj=>by
  by_cases h:j < (wts ss ss.length).length
  ·unfold Zs7 at ht;simp only [Zy7,ZA3,Zzi] at ht;rw [Zf8 h];exact ht.1 _ (Zy6 h)
  ·rw [Zc2 zo];omega
 have big:∀j,j < ss.length→bigN ss j=false:=λj hj=>by
  rw [Zyb hj];have hv:=vs_le ss (j+1);rw [Zik hj] at hv;have h1:=frN_w ss (j+1) j;have h2:=Zup ss (show j < j+1 by omega) (ss.length - (j+1));rw [show j+1+(ss.length - (j+1))=ss.length by omega] at h2;have h3:=hw j;rw [Zik hj,Zyu,Zzv (by rw [Zhy];omega),Zhy,ZCp] at h1;simp only [ZB6,Zz9] at h1;simp only [ZBw,ZBe];simp only at hv;omega
 refine⟨big,λj=>?_⟩;obtain⟨D,hD,hn⟩:=ok.fi (Zyp _) big;have h1:=frN_w ss ss.length j;have h3:=hw j;by_cases hj:j < (frN ss ss.length).cs.length
 ·obtain⟨c1,c2⟩:=hD.co hn _ (Zcu (d:=(([],[]):Pt)) hj);exact⟨⟨c1.st,c1.pk.mono (Zyp _) zo,zo⟩,⟨c2.st,c2.pk.mono (Zyp _) zo,zo⟩⟩
 ·rw [Zyu,Zz1 zo];exact⟨.nil,.nil⟩
theorem Zxo {vs:List Vt} {i:Int} {w:Nat}:∀{n:Nat},fstN vs i n=some w→w < n
 | 0,h=>by cases h
 | n+1,h=>by
   unfold fstN at h;split at h
   ·rename_i v hv;have:=Zxo hv;injection h with h
    omega
   ·split at h
    ·injection h with h;omega
    ·cases h
theorem Zxn {vs:List Vt} {i:Int}:∀{n:Nat},fstN vs i n=none→∀j,j < n→(vs.getD j (0,0,0)).2.1≠i
 | 0,_,j,hj=>zo
 | n+1,h,j,hj=>by
   unfold fstN at h;split at h
   ·cases h
   ·rename_i hn;split at h
    ·cases h
    ·rename_i hx;by_cases e:j=n
     ·rw [e];exact hx
     ·exact Zxn hn j zo
theorem vs_pre (ss:List RS) (i:Nat):∀d,∃l,(frN ss (i+d)).vs=(frN ss i).vs++l
 | 0=>⟨[],by rw [Zzz];rfl⟩
 | d+1=>by
   obtain⟨l,hl⟩:=vs_pre ss i d;refine⟨l++((frN ss (i+d)).nxt (i+d) (ss.getD (i+d) RS.zero)).1,?_⟩;show(frN ss (i+d)).vs++_=_;rw [hl,Zzt];rfl
theorem circ_var {ss:List RS} {i:Nat} (hi:i < ss.length) (hk:ss[i].k=6):∃w,fstN (frN ss ss.length).vs i (frN ss ss.length).vs.length=some w∧w < (frN ss ss.length).vs.length:=by
 cases h:fstN (frN ss ss.length).vs i (frN ss ss.length).vs.length with
 | some w=>exact⟨w,rfl,Zxo h⟩
 | none =>
   exfalso;obtain⟨l,hl⟩:=vs_pre ss (i+1) (ss.length - (i+1));rw [show i+1+(ss.length - (i+1))=ss.length by omega,Zik hi] at hl
   have hn:((frN ss i).nxt i ss[i]).1=[(1,(i:Int),0),(2,(i:Int),1),(2,(i:Int),2)]:=by
    unfold FS.nxt;simp [hk]
   simp only at hl;rw [hn] at hl;have hm:((1,(i:Int),0):Vt)∈(frN ss ss.length).vs:=by rw [hl];simp
   obtain⟨j,hj,e⟩:=List.mem_iff_getElem.1 hm;have:=Zxn h j hj;rw [Zyu,Zym hj,e] at this;exact this rfl
def eqE (ss:List RS) (i:Nat):List Po :=
 let f:=frN ss ss.length
 let s:=ss.getD i RS.zero
 let p:=λk=>f.cs.getD (gI s.ar k).toNat ([],[])
 eqsM s.k (p 0) (p 1) (p 2) (p 3) (f.cs.getD i ([],[])) (parM f.vs i)
theorem eqE_at {ss:List RS} {i:Nat} {s:RS} (hi:i < ss.length) (hs:ss[i]=s):eqE ss i=eqsM s.k ((frN ss ss.length).cs.getD (gI s.ar 0).toNat ([],[])) ((frN ss ss.length).cs.getD (gI s.ar 1).toNat ([],[])) ((frN ss ss.length).cs.getD (gI s.ar 2).toNat ([],[])) ((frN ss ss.length).cs.getD (gI s.ar 3).toNat ([],[])) ((frN ss ss.length).cs.getD i ([],[])) (parM (frN ss ss.length).vs i):=by
 unfold eqE;rw [show ss.getD i RS.zero=s from by rw [Zyu,Zym hi,hs];rfl]
theorem Zoh {vs:List Vt} {i:Int} {w:Nat} (h:fstN vs i vs.length=some w):parM vs i=varM w:=by unfold parM;rw [h]
theorem eqs_len (k:Int) (a b c d x:Pt) (t:Po):(eqsM k a b c d x t).length≤2:=by
 unfold eqsM Zuc Zok
 repeat' split
 all_goals simp
theorem rhSt {ss:List RS} {gs:List RG} (hl:ss.length≤8) (ok:FigOk ss) (ht:Zs7 ss gs=true) {i:Nat} (hi:i < ss.length):Pure prog 141 [figA ss gs,frmA (frN ss ss.length).cs (frN ss ss.length).vs,iv i] (.tup [.sl 1 ((eqE ss i).map poA),iv 0]):=by
 have hcb:=(few_cb hl ok ht).2;have hvl:=vs_le ss ss.length;have hcl:=Zhy ss ss.length;have hcv:=λhk=>circ_var (ss:=ss) hi hk;obtain⟨h0,hal,hai,-⟩:=Zk2 hi (ok.er i hi);have hai:∀k,k < ss[i].ar.length→0≤gI ss[i].ar k∧gI ss[i].ar k < (ss.length:Int):=λk hk=>by have:=hai k hk;omega
 generalize hs:ss[i]=s at *;rw [eqE_at hi hs]
 have kk:s.k=1∨s.k=2∨s.k=3∨s.k=4∨s.k=5∨s.k=6∨s.k=7∨s.k=8∨s.k=9∨s.k=10∨s.k=11∨s.k=12∨s.k=13∨s.k=14:=by
  unfold arS at h0
  repeat' split at h0
  all_goals omega
 generalize hf:frN ss ss.length=f at *;obtain⟨k,nm,ar,r⟩:=s;simp only at *;rcases kk with rfl | rfl | rfl | rfl | rfl | rfl | rfl | rfl | rfl | rfl | rfl | rfl | rfl | rfl
 ·obtain rfl:ar=[]:=List.length_eq_zero_iff.1 (by rw [show arS 1=0 from rfl] at hal;omega);refine rhStep0 ss gs f.cs f.vs i _ _ _ hi hs hcl rfl zr  ?_;exact rhE0_0 ss gs f.cs f.vs i _ hi hs (.inl (by show(1:Int) < 6;omega))  _
 ·obtain⟨a,b,rfl,la,lb⟩:=ar2 (n:=ss.length) (by rw [hal];rfl) hai;refine Zmn ss gs f.cs f.vs i _ _ _ hi hs hcl rfl zr (show a < f.cs.length by omega) rfl (show b < f.cs.length by omega) rfl ?_;simp only [gI,ZAa,ZAb,Zz5,List.getD_nil];exact rhE0_2 ss gs f.cs f.vs i _ hi hs (.inl (by show(2:Int) < 6;omega)) _ _ _
 ·obtain⟨a,b,c,rfl,la,lb,lc⟩:=ar3 (n:=ss.length) (by rw [hal];rfl) hai;refine Zis ss gs f.cs f.vs i _ _ _ hi hs hcl rfl zr (show a < f.cs.length by omega) rfl (show b < f.cs.length by omega) rfl (show c < f.cs.length by omega) rfl ?_;simp only [gI,ZAa,ZAb,Zz5,List.getD_nil];exact rhE0_3 ss gs f.cs f.vs i _ hi hs (.inl (by show(3:Int) < 6;omega)) _ _ _ _
 ·obtain⟨a,b,c,rfl,la,lb,lc⟩:=ar3 (n:=ss.length) (by rw [hal];rfl) hai;refine Zis ss gs f.cs f.vs i _ _ _ hi hs hcl rfl zr (show a < f.cs.length by omega) rfl (show b < f.cs.length by omega) rfl (show c < f.cs.length by omega) rfl ?_;simp only [gI,ZAa,ZAb,Zz5,List.getD_nil];exact rhE0_3 ss gs f.cs f.vs i _ hi hs (.inl (by show(4:Int) < 6;omega)) _ _ _ _
 ·obtain⟨a,b,rfl,la,lb⟩:=ar2 (n:=ss.length) (by rw [hal];rfl) hai;refine Zmn ss gs f.cs f.vs i _ _ _ hi hs hcl rfl zr (show a < f.cs.length by omega) rfl (show b < f.cs.length by omega) rfl ?_;simp only [gI,ZAa,ZAb,Zz5,List.getD_nil];exact rhE0_2 ss gs f.cs f.vs i _ hi hs (.inl (by show(5:Int) < 6;omega)) _ _ _
 ·obtain⟨a,b,rfl,la,lb⟩:=ar2 (n:=ss.length) (by rw [hal];rfl) hai;refine Zmn ss gs f.cs f.vs i _ _ _ hi hs hcl rfl zr (show a < f.cs.length by omega) rfl (show b < f.cs.length by omega) rfl ?_;simp only [gI,ZAa,ZAb,Zz5,List.getD_nil];obtain⟨w,hw,hw2⟩:=hcv rfl;rw [Zoh hw];exact rhE6 ss gs f.cs f.vs i _ hi hs rfl w zo zo hw (hcb a) (hcb b) (hcb i)
 ·obtain⟨a,b,c,rfl,la,lb,lc⟩:=ar3 (n:=ss.length) (by rw [hal];rfl) hai;refine Zis ss gs f.cs f.vs i _ _ _ hi hs hcl rfl zr (show a < f.cs.length by omega) rfl (show b < f.cs.length by omega) rfl (show c < f.cs.length by omega) rfl ?_;simp only [gI,ZAa,ZAb,Zz5,List.getD_nil];exact rhE7 ss gs f.cs f.vs i _ hi hs rfl (hcb a) (hcb b) (hcb c) (hcb i)
 ·obtain⟨a,b,c,rfl,la,lb,lc⟩:=ar3 (n:=ss.length) (by rw [hal];rfl) hai;refine Zis ss gs f.cs f.vs i _ _ _ hi hs hcl rfl zr (show a < f.cs.length by omega) rfl (show b < f.cs.length by omega) rfl (show c < f.cs.length by omega) rfl ?_;simp only [gI,ZAa,ZAb,Zz5,List.getD_nil];exact rhE8 ss gs f.cs f.vs i _ hi hs rfl (hcb a) (hcb b) (hcb c) (hcb i)
 ·obtain⟨a,b,c,d,rfl,la,lb,lc,ld⟩:=ar4 (n:=ss.length) (by rw [hal];rfl) hai;refine Zp6 ss gs f.cs f.vs i _ _ _ hi hs hcl rfl zr (show a < f.cs.length by omega) rfl (show b < f.cs.length by omega) rfl (show c < f.cs.length by omega) rfl (show d < f.cs.length by omega) rfl ?_;simp only [gI,ZAa,ZAb,Zz5,List.getD_nil];exact rhE9 ss gs f.cs f.vs i _ hi hs rfl (hcb a) (hcb b) (hcb c) (hcb d) (hcb i)
 ·obtain⟨a,b,c,rfl,la,lb,lc⟩:=ar3 (n:=ss.length) (by rw [hal];rfl) hai;refine Zis ss gs f.cs f.vs i _ _ _ hi hs hcl rfl zr (show a < f.cs.length by omega) rfl (show b < f.cs.length by omega) rfl (show c < f.cs.length by omega) rfl ?_;simp only [gI,ZAa,ZAb,Zz5,List.getD_nil];exact rhE10 ss gs f.cs f.vs i _ hi hs rfl (hcb a) (hcb b) (hcb c) (hcb i)
 ·obtain⟨a,b,c,rfl,la,lb,lc⟩:=ar3 (n:=ss.length) (by rw [hal];rfl) hai;refine Zis ss gs f.cs f.vs i _ _ _ hi hs hcl rfl zr (show a < f.cs.length by omega) rfl (show b < f.cs.length by omega) rfl (show c < f.cs.length by omega) rfl ?_;simp only [gI,ZAa,ZAb,Zz5,List.getD_nil];exact rhE11 ss gs f.cs f.vs i _ hi hs rfl (hcb a) (hcb b) (hcb c) (hcb i)
 ·obtain⟨a,b,c,d,rfl,la,lb,lc,ld⟩:=ar4 (n:=ss.length) (by rw [hal];rfl) hai;refine Zp6 ss gs f.cs f.vs i _ _ _ hi hs hcl rfl zr (show a < f.cs.length by omega) rfl (show b < f.cs.length by omega) rfl (show c < f.cs.length by omega) rfl (show d < f.cs.length by omega) rfl ?_;simp only [gI,ZAa,ZAb,Zz5,List.getD_nil];exact rhE12 ss gs f.cs f.vs i _ hi hs rfl (hcb a) (hcb b) (hcb c) (hcb d) (hcb i)
 ·obtain⟨a,b,c,d,rfl,la,lb,lc,ld⟩:=ar4 (n:=ss.length) (by rw [hal];rfl) hai;refine Zp6 ss gs f.cs f.vs i _ _ _ hi hs hcl rfl zr (show a < f.cs.length by omega) rfl (show b < f.cs.length by omega) rfl (show c < f.cs.length by omega) rfl (show d < f.cs.length by omega) rfl ?_;simp only [gI,ZAa,ZAb,Zz5,List.getD_nil];exact rhE13 ss gs f.cs f.vs i _ hi hs rfl (hcb a) (hcb b) (hcb c) (hcb d) (hcb i)
 ·obtain⟨a,b,rfl,la,lb⟩:=ar2 (n:=ss.length) (by rw [hal];rfl) hai;refine Zmn ss gs f.cs f.vs i _ _ _ hi hs hcl rfl zr (show a < f.cs.length by omega) rfl (show b < f.cs.length by omega) rfl ?_;simp only [gI,ZAa,ZAb,Zz5,List.getD_nil];exact rhE14 ss gs f.cs f.vs i _ hi hs rfl (hcb a) (hcb b) (hcb i)
attribute [local go_sem] Zj2 Zk8 Zpj Zlo Zs3
def cPol (c:RC) (cs:List Pt) (vs:List Vt):Po :=
 if c.k=1 then dotM (cs.getD (gI c.ar 0).toNat ([],[])) (cs.getD (gI c.ar 1).toNat ([],[])) (cs.getD (gI c.ar 0).toNat ([],[])) (cs.getD (gI c.ar 1).toNat ([],[]))
 else if c.k=2 then Zb6 (cs.getD (gI c.ar 0).toNat ([],[])) (cs.getD (gI c.ar 1).toNat ([],[])) (cs.getD (gI c.ar 0).toNat ([],[])) (cs.getD (gI c.ar 2).toNat ([],[]))
 else if c.k=3 then Zb6 (cs.getD (gI c.ar 0).toNat ([],[])) (cs.getD (gI c.ar 1).toNat ([],[])) (cs.getD (gI c.ar 2).toNat ([],[])) (cs.getD (gI c.ar 3).toNat ([],[]))
 else Zd7 (parM vs c.st)
def CndIs (c:RC) (ss:List RS):Prop :=
 (c.k=1∧∃x y:Nat,c.ar=[(x:Int),(y:Int)]∧x < ss.length∧y < ss.length) ∨
 (c.k=2∧∃x y z:Nat,c.ar=[(x:Int),(y:Int),(z:Int)]∧x < ss.length∧y < ss.length∧z < ss.length) ∨
 (c.k=3∧∃x y z w:Nat,c.ar=[(x:Int),(y:Int),(z:Int),(w:Int)]∧x < ss.length∧y < ss.length∧z < ss.length∧w < ss.length) ∨
 (c.k=4∧c.ar=[]∧∃(i:Nat) (h:i < ss.length),c.st=i∧ss[i].k=6)
section
attribute [local go_sem] underlying3 underlying4 underlying125 underlying9 underlying53 underlying41 underlying28 underlying26 underlying24 underlying78 underlying46 underlying49 underlying275 underlying60 underlying203 underlying59 underlying62 underlying157 underlying280 sz3 by3 z3 szB zB Zbw zErr Zbp Zbu zStr Za8 zRat Zba zInt Za9 zNat Za6 Za7 Zcd Zcf zFig Zby zSlI Zce zSlS Zfq Zfz zVar Zel zSlV Zb7 Zcc Zdc Zem zSlC Zbq Zcp Zcr Zcw Zek Zcq Zej underlying63 Zlf zSlP underlying80 underlying47 szL byL zL Zb2 Zb4 Zdh Zdi zSlF underlying161 underlying153 Zj2 Zk8 Zpj Zlo Zs3
end
theorem rkPoly (c:RC) (ss:List RS) (gs:List RG) (cs:List Pt) (vs:List Vt) (hi:CndIs c ss) (hlc:cs.length=ss.length) (hcb:∀j,CB (cs.getD j ([],[]))) (hv:vs.length≤900) (h6:∀(i:Nat) (h:i < ss.length),ss[i].k=6→∃w,fstN vs i vs.length=some w∧w < 900)
 (cr:Pure prog 144 [c.av,figA ss gs] (.v (.bool true))):Pure prog 93 [c.av,figA ss gs,frmA cs vs] (.tup [poA (cPol c cs vs),iv 0]):=by
 have hcl:(cs.map coA).length=cs.length:=Zyn ..;have hgc:∀j,j < cs.length→(cs.map coA).getD j .u=coA (cs.getD j ([],[])):=λj h=>by rw [Zad coA h,Zyu,Zym h];rfl
 obtain⟨k,ar,st⟩:=c;unfold CndIs at hi;simp only at hi;unfold cPol;rcases hi with⟨rfl,x,y,rfl,hx,hy⟩ | ⟨rfl,x,y,z,rfl,hx,hy,hz⟩ | ⟨rfl,x,y,z,w,rfl,hx,hy,hz,hw⟩ | ⟨rfl,rfl,i,hi,rfl,hk⟩
 ·simp only [gI,ZAa,ZAb,Zz5,Zzb,Zyk,show ¬((2:Int)=1) from by decide,show ¬((3:Int)=1) from by decide,show ¬((3:Int)=2) from by decide,Zy8];have gx:=hgc x zo;have qx:=hcb x;have gy:=hgc y zo;have qy:=hcb y;have cC:=Zeh qx qy;have hl:∀j,j < ss.length→j < cs.length:=λj h=>zo;have lx:=hl x hx;have ly:=hl y hy;clear hcb hgc h6 hl hx hy qx qy;generalize cs.getD x ([],[])=X at *;generalize cs.getD y ([],[])=Y at *;generalize dotM X Y X Y=D at *;obtain⟨x1,x2⟩:=X;obtain⟨y1,y2⟩:=Y;have gx:(cs.map coA).getD x .u=.agg [.sl 4 (x1.map tmA),.sl 4 (x2.map tmA)]:=gx
  have gy:(cs.map coA).getD y .u=.agg [.sl 4 (y1.map tmA),.sl 4 (y2.map tmA)]:=gy;have cC:Pure prog 145 [.agg [.sl 4 (x1.map tmA),.sl 4 (x2.map tmA)],.agg [.sl 4 (y1.map tmA),.sl 4 (y2.map tmA)]] (poA D):=cC;have cr:Pure prog 144 [.agg [iv 1,.sl 1 [iv ((x:Nat):Int),iv ((y:Nat):Int)],iv st],.agg [.sl 6 (ss.map RS.av),.sl 5 (gs.map RG.av)]] (.v (.bool true)):=cr;show Pure _ _ [.agg [iv 1,.sl 1 [iv ((x:Nat):Int),iv ((y:Nat):Int)],iv st],.agg [.sl 6 (ss.map RS.av),.sl 5 (gs.map RG.av)],.agg [.sl 2 (cs.map coA),.sl 3 (vs.map Vt.av)]] _;generalize ss.map RS.av=M at *;generalize gs.map RG.av=N at *
  generalize cs.map coA=C at *;generalize vs.map Vt.av=V at *;generalize x1.map tmA=X1 at *;generalize x2.map tmA=X2 at *;generalize y1.map tmA=Y1 at *;generalize y2.map tmA=Y2 at *;refine pI func93 rfl ntmps93 results93 call93 ?_;(focus (refine wkad (w_5 hcl gx gy lx ly) (w_2 cr cC) (w_1 (w_d 6 [(14,poA D)] [] [])) ?_;(repeat' first|exact w_t|apply w_l);all_goals intros));all_goals exact gL
 ·simp only [gI,ZAa,ZAb,Zz5,Zzb,Zyk,show ¬((2:Int)=1) from by decide,show ¬((3:Int)=1) from by decide,show ¬((3:Int)=2) from by decide,Zy8];have gx:=hgc x zo;have qx:=hcb x;have gy:=hgc y zo;have qy:=hcb y;have gz:=hgc z zo;have qz:=hcb z;have cC:=Zgh qx qy qx qz;have hl:∀j,j < ss.length→j < cs.length:=λj h=>zo;have lx:=hl x hx;have ly:=hl y hy;have lz:=hl z hz;clear hcb hgc h6 hl hx hy hz qx qy qz;generalize cs.getD x ([],[])=X at *;generalize cs.getD y ([],[])=Y at *;generalize cs.getD z ([],[])=Z at *;generalize Zb6 X Y X Z=D at *
  obtain⟨x1,x2⟩:=X;obtain⟨y1,y2⟩:=Y;obtain⟨z1,z2⟩:=Z;have gx:(cs.map coA).getD x .u=.agg [.sl 4 (x1.map tmA),.sl 4 (x2.map tmA)]:=gx;have gy:(cs.map coA).getD y .u=.agg [.sl 4 (y1.map tmA),.sl 4 (y2.map tmA)]:=gy;have gz:(cs.map coA).getD z .u=.agg [.sl 4 (z1.map tmA),.sl 4 (z2.map tmA)]:=gz;have cC:Pure prog 146 [.agg [.sl 4 (x1.map tmA),.sl 4 (x2.map tmA)],.agg [.sl 4 (y1.map tmA),.sl 4 (y2.map tmA)],.agg [.sl 4 (x1.map tmA),.sl 4 (x2.map tmA)],.agg [.sl 4 (z1.map tmA),.sl 4 (z2.map tmA)]] (poA D):=cC;have cr:Pure prog 144 [.agg [iv 2,.sl 1 [iv ((x:Nat):Int),iv ((y:Nat):Int),iv ((z:Nat):Int)],iv st],.agg [.sl 6 (ss.map RS.av),.sl 5 (gs.map RG.av)]] (.v (.bool true)):=cr
  show Pure _ _ [.agg [iv 2,.sl 1 [iv ((x:Nat):Int),iv ((y:Nat):Int),iv ((z:Nat):Int)],iv st],.agg [.sl 6 (ss.map RS.av),.sl 5 (gs.map RG.av)],.agg [.sl 2 (cs.map coA),.sl 3 (vs.map Vt.av)]] _;generalize ss.map RS.av=M at *;generalize gs.map RG.av=N at *;generalize cs.map coA=C at *;generalize vs.map Vt.av=V at *;generalize x1.map tmA=X1 at *;generalize x2.map tmA=X2 at *;generalize y1.map tmA=Y1 at *;generalize y2.map tmA=Y2 at *;generalize z1.map tmA=Z1 at *;generalize z2.map tmA=Z2 at *;refine pI func93 rfl ntmps93 results93 call93 ?_;(focus (refine wkad (w_7 hcl gx gy gz lx ly lz) (w_2 cr cC) (w_1 (w_d 8 [(28,poA D)] [] [])) ?_;(repeat' first|exact w_t|apply w_l);all_goals intros))
  all_goals exact gL
 ·simp only [gI,ZAa,ZAb,Zz5,Zzb,Zyk,show ¬((2:Int)=1) from by decide,show ¬((3:Int)=1) from by decide,show ¬((3:Int)=2) from by decide,Zy8];have gx:=hgc x zo;have qx:=hcb x;have gy:=hgc y zo;have qy:=hcb y;have gz:=hgc z zo;have qz:=hcb z;have gw:=hgc w zo;have qw:=hcb w;have cC:=Zgh qx qy qz qw;have hl:∀j,j < ss.length→j < cs.length:=λj h=>zo;have lx:=hl x hx;have ly:=hl y hy;have lz:=hl z hz;have lw:=hl w hw;clear hcb hgc h6 hl hx hy hz hw qx qy qz qw;generalize cs.getD x ([],[])=X at *;generalize cs.getD y ([],[])=Y at *;generalize cs.getD z ([],[])=Z at *
  generalize cs.getD w ([],[])=Wt at *;generalize Zb6 X Y Z Wt=D at *;obtain⟨x1,x2⟩:=X;obtain⟨y1,y2⟩:=Y;obtain⟨z1,z2⟩:=Z;obtain⟨w1,w2⟩:=Wt;have gx:(cs.map coA).getD x .u=.agg [.sl 4 (x1.map tmA),.sl 4 (x2.map tmA)]:=gx;have gy:(cs.map coA).getD y .u=.agg [.sl 4 (y1.map tmA),.sl 4 (y2.map tmA)]:=gy;have gz:(cs.map coA).getD z .u=.agg [.sl 4 (z1.map tmA),.sl 4 (z2.map tmA)]:=gz;have gw:(cs.map coA).getD w .u=.agg [.sl 4 (w1.map tmA),.sl 4 (w2.map tmA)]:=gw;have cC:Pure prog 146 [.agg [.sl 4 (x1.map tmA),.sl 4 (x2.map tmA)],.agg [.sl 4 (y1.map tmA),.sl 4 (y2.map tmA)],.agg [.sl 4 (z1.map tmA),.sl 4 (z2.map tmA)],.agg [.sl 4 (w1.map tmA),.sl 4 (w2.map tmA)]] (poA D):=cC
  have cr:Pure prog 144 [.agg [iv 3,.sl 1 [iv ((x:Nat):Int),iv ((y:Nat):Int),iv ((z:Nat):Int),iv ((w:Nat):Int)],iv st],.agg [.sl 6 (ss.map RS.av),.sl 5 (gs.map RG.av)]] (.v (.bool true)):=cr;show Pure _ _ [.agg [iv 3,.sl 1 [iv ((x:Nat):Int),iv ((y:Nat):Int),iv ((z:Nat):Int),iv ((w:Nat):Int)],iv st],.agg [.sl 6 (ss.map RS.av),.sl 5 (gs.map RG.av)],.agg [.sl 2 (cs.map coA),.sl 3 (vs.map Vt.av)]] _;generalize ss.map RS.av=M at *;generalize gs.map RG.av=N at *;generalize cs.map coA=C at *;generalize vs.map Vt.av=V at *;generalize x1.map tmA=X1 at *;generalize x2.map tmA=X2 at *;generalize y1.map tmA=Y1 at *
  generalize y2.map tmA=Y2 at *;generalize z1.map tmA=Z1 at *;generalize z2.map tmA=Z2 at *;generalize w1.map tmA=W1 at *;generalize w2.map tmA=W2 at *;refine pI func93 rfl ntmps93 results93 call93 ?_;(focus (refine wkad (w_9 hcl gx gy gz gw lx ly lz lw) (w_2 cr cC) (w_1 (w_d 10 [(28,poA D)] [] [])) ?_;(repeat' first|exact w_t|apply w_l);all_goals intros));all_goals exact gL
 ·obtain⟨w,hf,hw⟩:=h6 i hi hk;rw [Zyj (show ¬((4:Int)=1) from by decide),Zyj (show ¬((4:Int)=2) from by decide),Zyj (show ¬((4:Int)=3) from by decide),Zoh hf];have cS:=Zvq cs vs (i:Int) w hv hw hf;clear hcb hgc h6;have cr:Pure prog 144 [.agg [iv 4,.sl 1 [],iv (i:Int)],.agg [.sl 6 (ss.map RS.av),.sl 5 (gs.map RG.av)]] (.v (.bool true)):=cr;have cS:Pure prog 147 [.agg [.sl 2 (cs.map coA),.sl 3 (vs.map Vt.av)],iv (i:Int)] (.tup [poA (Zd7 (varM w)),poA (varM w)]):=cS;show Pure _ _ [.agg [iv 4,.sl 1 [],iv (i:Int)],.agg [.sl 6 (ss.map RS.av),.sl 5 (gs.map RG.av)],.agg [.sl 2 (cs.map coA),.sl 3 (vs.map Vt.av)]] _
  generalize ss.map RS.av=M at *;generalize gs.map RG.av=N at *;generalize cs.map coA=C at *;generalize vs.map Vt.av=V at *;generalize Zd7 (varM w)=D at *;generalize varM w=E at *;refine pI func93 rfl ntmps93 results93 call93 ?_;(focus (refine wkad (w_1 hcl) (w_2 cr cS) w_t ?_;(repeat' first|exact w_t|apply w_l);all_goals intros));all_goals exact gL
end Go.Proofs.YtjbjejmmnbdbiaaGreat
namespace Go.Proofs.YtjbjejmmnbdbiaaGreat
open Go Go.RowKit Go.Pg Go.Proofs.Tryz
attribute [-bool_to_prop] Bool.and_eq_decide Bool.or_eq_decide Bool.decide_beq_decide decide_eq_decide
theorem szPb:szOf prog 66=some 7:=by kernel_rfl
theorem byPb:Zea prog 66=some 168:=by kernel_rfl
theorem zPb:Zaq prog 66=some (.agg #[.slice none 0 0,.slice none 0 0,.slice none 0 0,.slice none 0 0,.slice none 0 0,.slice none 0 0,.slice none 0 0]):=by kernel_rfl
theorem szSSP:szOf prog 64=some 1:=by kernel_rfl
theorem zSSP:Zaq prog 64=some (.slice none 0 0):=by kernel_rfl
end Go.Proofs.YtjbjejmmnbdbiaaGreat
namespace Go.Proofs.YtjbjejmmnbdbiaaGreat
open Go Go.RowKit Go.Pg Go.Pol Go.Proofs.Tryz
attribute [-bool_to_prop] Bool.and_eq_decide Bool.or_eq_decide Bool.decide_beq_decide decide_eq_decide
attribute [go_sem] szPb bySlP byPb zPb szSSP zSSP underlying66 underlying64
attribute [local go_sem] Zbw Zbp Zbu Za8 Zba Za9 Za6 Za7 Zcd Zcf Zby Zce Zfq Zfz Zel Zb7 Zcc Zdc Zem Zbq Zcp Zcr Zcw Zek Zcq Zej Zlf Zb2 Zb4 Zdh Zdi Zj2 Zk8 Zpj Zlo Zs3 Zj1
theorem rgPolys4 (g:RG) (cs:List Pt) (a b c d:Nat) (hk:g.k=4) (ha:g.ar=[(a:Int),(b:Int),(c:Int),(d:Int)]) (la:a < cs.length) (lb:b < cs.length) (lc:c < cs.length) (ld:d < cs.length) (hcb:∀j,CB (cs.getD j ([],[]))) :
 Pure prog 148 [g.av,.sl 2 (cs.map coA)] (.sl 1 [poA (Zdr (cs.getD a ([],[])) (cs.getD b ([],[])) (cs.getD c ([],[])) (cs.getD d ([],[])))]):=by
 have hcl:(cs.map coA).length=cs.length:=Zyn ..;have hgc:∀j,j < cs.length→(cs.map coA).getD j .u=coA (cs.getD j ([],[])):=λj h=>by rw [Zad coA h,Zyu,Zym h];rfl
 have c1:=Zeh (hcb a) (hcb b);have c2:=Zeh (hcb c) (hcb d);have c3:=Zi7 (hcb a) (hcb b) (hcb c) (hcb d);obtain⟨gk,gar,gr⟩:=g;simp only at hk ha;subst hk ha;have gA:=hgc a la;have gB:=hgc b lb;have gC:=hgc c lc;have gD:=hgc d ld;clear hgc hcb;generalize cs.getD a ([],[])=A at *;generalize cs.getD b ([],[])=B at *;generalize cs.getD c ([],[])=C at *;generalize cs.getD d ([],[])=D at *;generalize cs.map coA=M at *;show Pure _ _ [.agg [iv 4,.sl 1 [iv a,iv b,iv c,iv d],.v (.bool gr.s),lim gr.l,lim gr.d],.sl 2 M] _;refine pI func148 rfl ntmps148 results148 call148 ?_;(focus (refine wkad (w_5 hcl gA gB gC gD) (w_3 c1 c2 c3) (w_1 (w_d 10 [(12,poA (dotM A B A B)),(25,poA (dotM C D C D)),(26,poA (Zdr A B C D)),(27,.sl 1 [poA (Zdr A B C D)])] [] [])) ?_;(repeat' first|exact w_t|apply w_l);all_goals intros))
 all_goals exact gL
theorem rgPolys (k:Int) (s:Bool) (A D E X V:List AV) (P:List AV) (hP:P.length≤4000) (hX:X.length≤100)
 (cR:Pure prog 33 [.agg [iv k,.sl 1 A,.v (.bool s),.sl 1 D,.sl 1 E],iv X.length] (iv 0)) (cP:Pure prog 148 [.agg [iv k,.sl 1 A,.v (.bool s),.sl 1 D,.sl 1 E],.sl 2 X] (.sl 1 [.sl 4 P])) :
 Pure prog 94 [.agg [iv k,.sl 1 A,.v (.bool s),.sl 1 D,.sl 1 E],.agg [.sl 2 X,.sl 3 V]] (.tup [.sl 1 [.sl 4 P],iv 0]):=by
 refine pI func94 rfl ntmps94 results94 call94 ?_;(focus (refine wkax (w_2 hP hX) (w_2 cR cP) w_t w_t w_t w_t w_y (w_r 2) ?_;(repeat' first|exact w_t|apply w_l);all_goals intros));all_goals exact gL
theorem rgMake (M:List AV) (gk:Int) (gs:Bool) (GA GD GE:List AV) (C V H L:List AV) (ck ci:Int) (CA:List AV) (P:List AV) (hP:P.length≤4000)
 (cR:Pure prog 13 [.agg [.sl 6 M,.sl 5 [.agg [iv gk,.sl 1 GA,.v (.bool gs),.sl 1 GD,.sl 1 GE]]]] (iv 0))
 (cH:Pure prog 90 [.agg [.sl 6 M,.sl 5 [.agg [iv gk,.sl 1 GA,.v (.bool gs),.sl 1 GD,.sl 1 GE]]]] (.tup [.sl 1 H,iv 0]))
 (cF:Pure prog 91 [.agg [.sl 6 M,.sl 5 [.agg [iv gk,.sl 1 GA,.v (.bool gs),.sl 1 GD,.sl 1 GE]]]] (.tup [.agg [.sl 2 C,.sl 3 V],iv 0]))
 (cC:Pure prog 92 [.agg [.sl 6 M,.sl 5 [.agg [iv gk,.sl 1 GA,.v (.bool gs),.sl 1 GD,.sl 1 GE]]]] (.tup [.sl 3 [.agg [iv ck,.sl 1 CA,iv ci]],iv 0]))
 (cP:Pure prog 93 [.agg [iv ck,.sl 1 CA,iv ci],.agg [.sl 6 M,.sl 5 [.agg [iv gk,.sl 1 GA,.v (.bool gs),.sl 1 GD,.sl 1 GE]]],.agg [.sl 2 C,.sl 3 V]] (.tup [.sl 4 P,iv 0]))
 (cG:Pure prog 94 [.agg [iv gk,.sl 1 GA,.v (.bool gs),.sl 1 GD,.sl 1 GE],.agg [.sl 2 C,.sl 3 V]] (.tup [.sl 1 L,iv 0])) :
 Pure prog 50 [.agg [.sl 6 M,.sl 5 [.agg [iv gk,.sl 1 GA,.v (.bool gs),.sl 1 GD,.sl 1 GE]]]] (.tup [.agg [.sl 6 M,.sl 5 [.agg [iv gk,.sl 1 GA,.v (.bool gs),.sl 1 GD,.sl 1 GE]],.sl 2 C,.sl 3 V,.sl 1 H,.sl 1 [.sl 4 P],.sl 1 [.sl 1 L]],iv 0]):=by
 refine pI func50 rfl ntmps50 results50 call50 ?_;(focus (refine wkad w_t (w_4 cR cH cF cC) w_t ?_;(repeat' first|exact w_t|apply w_l);all_goals intros));refine Zc4 (Frz.nilBox (k:=9) 5 505 1 157 (gC) rfl zo) ?_;refine Zc4 (Frz.nilBox (k:=9) 6 506 1 63 (gC) rfl zo) ?_;(focus (refine wkax (w_1 hP) (w_2 cP cG) (w_2 (w_d 13 [(6,.tup [.sl 4 P,iv 0])] [] []) (w_d 20 [(6,.tup [.sl 1 L,iv 0])] [] [])) w_t w_t w_t w_y (w_r 2) ?_;(repeat' first|exact w_t|apply w_l);all_goals intros));all_goals exact gL
theorem rgSource (s:ByteArray) (T M G C V H P L:List AV) (c1:Pure prog 48 [strA s] (.tup [.agg [.sl 10 T],iv 0,iv 0])) (c2:Pure prog 49 [.agg [.sl 10 T]] (.tup [.agg [.sl 6 M,.sl 5 G],iv 0,iv 0]))
 (c3:Pure prog 50 [.agg [.sl 6 M,.sl 5 G]] (.tup [.agg [.sl 6 M,.sl 5 G,.sl 2 C,.sl 3 V,.sl 1 H,.sl 1 P,.sl 1 L],iv 0])):Pure prog 20 [strA s] (.tup [.agg [.sl 6 M,.sl 5 G,.sl 2 C,.sl 3 V,.sl 1 H,.sl 1 P,.sl 1 L],iv 0,iv 0]):=by
 refine pI func20 rfl ntmps20 results20 call20 ?_;(focus (refine wkad w_t (w_3 c1 c2 c3) w_t ?_;(repeat' first|exact w_t|apply w_l);all_goals intros));all_goals exact gL
theorem nolm:Lm []:=λx hx=>by cases hx
theorem smX:∀s∈ssX,s.sm:=by
 intro s hs;simp only [ssX,Zz8,List.not_mem_nil,or_false] at hs;rcases hs with rfl | rfl | rfl | rfl
 all_goals exact⟨⟨nolm,nolm,by decide,by decide⟩,by decide,by decide⟩
theorem gmX:∀g∈gsX,g.sm:=by
 intro g hg;simp only [gsX,Zz8,List.not_mem_nil,or_false] at hg;subst hg;exact⟨⟨nolm,nolm,by decide,by decide⟩,by decide⟩
theorem fewX:fewB ssX gsX=true:=by kernel_rfl
theorem inX:ssX.length≤8∧figE ssX gsX=0∧FigOk ssX∧Zs7 ssX gsX=true:=few_in smX fewX
theorem rlX:Pure prog 13 [figA ssX gsX] (iv 0):=by
 have:=rlRight ssX gsX zd zd smX gmX
 rwa [inX.2.1] at this
theorem cbX:(∀j,j < ssX.length→bigN ssX j=false)∧∀j,CB ((frN ssX ssX.length).cs.getD j ([],[])):=few_cb inX.1 inX.2.2.1 inX.2.2.2
theorem bgX:(List.range ssX.length).any (bigN ssX)=false:=by
 rw [List.any_eq_false];intro j hj;rw [cbX.1 j (List.mem_range.1 hj)];simp
abbrev csX:=(frN ssX ssX.length).cs
abbrev vsX:=(frN ssX ssX.length).vs
theorem frX:Pure prog 91 [figA ssX gsX] (.tup [frmA csX vsX,iv 0]):=by
 have:=rcFrame1 ssX gsX rlX inX.2.2.1
 rwa [Zyj (by rw [bgX];decide)] at this
theorem hyX:Pure prog 90 [figA ssX gsX] (.tup [.sl 1 ((hypL (eqE ssX) ssX.length).map poA),iv 0]):=by
 have:=rhOf ssX gsX csX vsX (eqE ssX) (λi=>by unfold eqE;exact Zyz (eqs_len _ _ _ _ _ _ _) zo) zd frX (λi hi=>rhSt inX.1 inX.2.2.1 inX.2.2.2 hi)
 rwa [Zyj (by rw [show(List.range ssX.length).any (bigE (eqE ssX))=false from by kernel_rfl];decide)] at this
theorem cdX:cndN ssX ssX.length=[⟨1,[1,2],3⟩]:=by kernel_rfl
theorem arX:∀i (h:i < ssX.length),(ssX[i].ar.length:Int)=arS ssX[i].k:=by decide
theorem coX:Pure prog 92 [figA ssX gsX] (.tup [.sl 3 [.agg [iv 1,.sl 1 [iv 1,iv 2],iv 3]],iv 0]):=by
 have:=rkOf ssX gsX csX vsX 0 frX zd (λ_=>arX);rw [Zyk rfl,cdX] at this;exact this
theorem crX:Pure prog 144 [(RC.mk 1 [1,2] 3).av,figA ssX gsX] (.v (.bool true)):=by
 have:=rkRight ⟨1,[1,2],3⟩ ssX gsX zd zd arX
 rwa [show cndOk ⟨1,[1,2],3⟩ ssX=true from by kernel_rfl] at this
theorem cpX:Pure prog 93 [(RC.mk 1 [1,2] 3).av,figA ssX gsX,frmA csX vsX] (.tup [poA (cPol ⟨1,[1,2],3⟩ csX vsX),iv 0]):=rkPoly ⟨1,[1,2],3⟩ ssX gsX csX vsX (.inl ⟨rfl,1,2,rfl,by decide,by decide⟩) zk cbX.2 (by decide +kernel) zd crX
theorem goX:Pure prog 94 [.agg [iv 4,.sl 1 [iv 3,iv 1,iv 3,iv 2],.v (.bool false),.sl 1 [],.sl 1 []],frmA csX vsX] (.tup [.sl 1 [poA (Zdr (csX.getD 3 ([],[])) (csX.getD 1 ([],[])) (csX.getD 3 ([],[])) (csX.getD 2 ([],[])))],iv 0]):=by
 have hl:csX.length=4:=by kernel_rfl
 have hlm:(csX.map coA).length=4:=by rw [Zyn];exact hl
 have cP:=rgPolys4 ⟨4,[3,1,3,2],⟨false,[],[]⟩⟩ csX 3 1 3 2 rfl rfl (by rw [hl];decide) (by rw [hl];decide) (by rw [hl];decide) (by rw [hl];decide) cbX.2;have cR:=Zvm ⟨4,[3,1,3,2],⟨false,[],[]⟩⟩ 4 zd (gmX _ (by simp [gsX]));refine rgPolys 4 false [iv 3,iv 1,iv 3,iv 2] [] [] (csX.map coA) (vsX.map Vt.av) _ ?_ zo ?_ cP
 ·rw [Zyn];exact(show(Zdr (csX.getD 3 ([],[])) (csX.getD 1 ([],[])) (csX.getD 3 ([],[])) (csX.getD 2 ([],[]))).length≤4000 from by decide +kernel)
 ·rw [hlm];exact cR
theorem mkX:Pure prog 50 [figA ssX gsX] (.tup [.agg [.sl 6 (ssX.map RS.av),.sl 5 (gsX.map RG.av),.sl 2 (csX.map coA),.sl 3 (vsX.map Vt.av),.sl 1 ((hypL (eqE ssX) ssX.length).map poA),.sl 1 [poA (cPol ⟨1,[1,2],3⟩ csX vsX)],.sl 1 [.sl 1 [poA (Zdr (csX.getD 3 ([],[])) (csX.getD 1 ([],[])) (csX.getD 3 ([],[])) (csX.getD 2 ([],[])))]]],iv 0]) :=
 rgMake _ 4 false [iv 3,iv 1,iv 3,iv 2] [] [] _ _ _ _ 1 3 [iv 1,iv 2] _ (by rw [Zyn];exact(show(cPol ⟨1,[1,2],3⟩ csX vsX).length≤4000 from by decide +kernel)) rlX hyX frX coX cpX goX
theorem srX:∃C V H P L,Pure prog 20 [strA txX] (.tup [.agg [.sl 6 (ssX.map RS.av),.sl 5 (gsX.map RG.av),.sl 2 C,.sl 3 V,.sl 1 H,.sl 1 P,.sl 1 L],iv 0,iv 0]) :=
 ⟨_,_,_,_,_,rgSource txX _ _ _ _ _ _ _ _ progX figX mkX⟩
attribute [local go_sem] Zny eqP2 Zh5 Zme Znx rg2
theorem lwAt (x y:Nat) (hx:x < 1000) (hy:y < 1000):Pure prog 19 [iv x,iv y] (boxQ (x:Rat) (x:Rat) (y:Rat) (y:Rat)):=by
 have c1:=qOf x zo;have c2:=qOf y zo;generalize ((x:Nat):Rat)=q at *;generalize ((y:Nat):Rat)=r at *;refine pI func19 rfl ntmps19 results19 call19 ?_;(focus (refine wkax w_t w_t w_t w_t (w_2 c1 c2) w_t w_y (w_r 0) ?_;(repeat' first|exact w_t|apply w_l);all_goals intros));all_goals exact gL
def bA:BxQ:=⟨(0:Nat),(0:Nat),(0:Nat),(0:Nat)⟩
def bB:BxQ:=⟨(3:Nat),(3:Nat),(0:Nat),(0:Nat)⟩
def bC:BxQ:=⟨(0:Nat),(0:Nat),(1:Nat),(1:Nat)⟩
theorem scX:Pure prog 10 [.sl 12 [bA.av,bB.av,bC.av],iv 100,iv 200] (.tup [.sl 2 ([(20,180),(80,180),(20,160)].map prA),iv 0]):=by
 have hs:∀b∈[bA,bB,bC],b.sz 1:=by
  intro b hb;simp only [Zz8,List.not_mem_nil,or_false] at hb;rcases hb with rfl | rfl | rfl
  all_goals exact⟨Zgl _ zo,Zgl _ zo,Zgl _ zo,Zgl _ zo⟩
 have:=Zxx bA [bB,bC] 100 200 hs zd zo zo zo zo rfl rfl rfl rfl rfl (by unfold Zp4;decide +kernel) zo;rw [show [bA,bB,bC].map (pixA _ _ _ 200)=[(20,180),(80,180),(20,160)].map prA from by kernel_rfl] at this;exact this
theorem liX:Pure prog 14 [figA ssX gsX] (.tup [.sl 2 ([(0,3),(1,2),(1,3),(2,3)].map prA),iv 0]):=by
 have cR:=lwRight ssX gsX zd zd smX gmX;rw [inX.2.1] at cR;have:=drLines1 ssX gsX cR (lnOk inX.2.1);rw [show Zmq (Zdg ssX gsX) ssX.length ssX.length=[(0,3),(1,2),(1,3),(2,3)] from by kernel_rfl] at this;exact this
theorem Zw6:Pure prog 8 [] (.v (.bool true)):=by
 have c1:=lwAt 0 0 zo zo;have c2:=lwAt 3 0 zo zo;have c3:=lwAt 0 1 zo zo;have cS:=scX;have cL:Pure prog 14 [.agg [.sl 6 (ssX.map RS.av),.sl 5 (gsX.map RG.av)]] _:=liX;obtain⟨C,V,H,P,L,cO⟩:=srX;have d1:=Zqv [(20,180),(80,180),(20,160)] zd;have d2:=Zqv [(0,3),(1,2),(1,3),(2,3)] zd;rw [←show(⟨(([112,111,105,110,116,115,32,65,44,32,66,44,32,67,59,32,68,32,58,61,32,102,111,111,116,40,65,44,32,108,105,110,101,40,66]:List UInt8).append [44,32,67,41,41,59,32,112,114,111,118,101,32,99,111,110,103,114,117,101,110,116,40,68,44,32,66,44,32,68,44,32,67,41,59]).toArray⟩:ByteArray)=txX from by kernel_rfl] at cO
 unfold bA bB bC at cS;simp only [BxQ.av] at cS;simp only [Zz2,Zzx,prA] at cS cL d1 d2;generalize ssX.map RS.av=M at *;generalize gsX.map RG.av=N at *;generalize ((0:Nat):Rat)=q0 at *;generalize ((1:Nat):Rat)=q1 at *;generalize ((3:Nat):Rat)=q3 at *;refine pI func8 rfl ntmps8 results8 call8 ?_;(focus (refine wkax w_t (w_2 cO cL) w_t w_t (w_6 c1 c2 c3 cS d1 d2) w_t w_y (w_r 0) ?_;(repeat' first|exact w_t|apply w_l);all_goals intros));all_goals exact gL
attribute [go_sem] underlying30 szCh zCh byBox
theorem Zo1 (a b m v:Rat) {j:Nat} (ha:Sz a j) (hb:Sz b j) (hm:Sz m j) (hv:Sz v j) (hj:j≤1000):Pure prog 9 [Zqf a b,ratQ m,ratQ v] (Zqf (a*m+v) (b*m+v)):=by
 have c1:=qMul a m ha hm zo zo;have c2:=qAdd (a*m) v (ha.mul hm) hv zo zo;have c3:=qMul b m hb hm zo zo;have c4:=qAdd (b*m) v (hb.mul hm) hv zo zo;generalize a*m+v=s at *;generalize b*m+v=t at *;generalize a*m=p at *;generalize b*m=q at *;refine pI func9 rfl ntmps9 results9 call9 ?_;(focus (refine wkad w_t (w_4 c1 c2 c3 c4) (w_1 (w_d 1 [(3,ratQ p),(5,ratQ s),(9,ratQ q),(11,ratQ t)] [] [6])) ?_;(repeat' first|exact w_t|apply w_l);all_goals intros));all_goals exact gL
abbrev chA (x y m:RQ):AV:=.agg [.v (.bool x.s),lim x.l,lim x.d,.v (.bool y.s),lim y.l,lim y.d,.v (.bool m.s),lim m.l,lim m.d]
abbrev chQ (x y m:Rat):AV:=.agg [.v (.bool (decide (x.num < 0))),lim (toL x.num.natAbs),lim (toL x.den),.v (.bool (decide (y.num < 0))),lim (toL y.num.natAbs),lim (toL y.den),.v (.bool (decide (m.num < 0))),lim (toL m.num.natAbs),lim (toL m.den)]
theorem lwSim0 (L:List AV) (x y m:RQ) (b1 b2 b3 b4:Bool) (z:Int) (c1:Pure prog 5 [.sl 12 L] (.v (.bool b1))) (c2:Pure prog 6 [x.av] (.v (.bool b2))) (c3:Pure prog 6 [y.av] (.v (.bool b3))) (c4:Pure prog 6 [m.av] (.v (.bool b4)))
 (cS:b4=true→Pure prog 7 [m.av] (iv z)) (cW:Pure prog 8 [] (.v (.bool true))) (hb:b1=false∨b2=false∨b3=false∨b4=false∨z≤0):Pure prog 3 [.sl 12 L,chA x y m] (.v (.bool true)):=by
 obtain⟨xs,xl,xd⟩:=x;obtain⟨ys,yl,yd⟩:=y;obtain⟨ms,ml,md⟩:=m;simp only [RQ.av] at c2 c3 c4 cS;cases b1
 ·refine pI func3 rfl ntmps3 results3 call3 ?_;(focus (refine wkad w_t (w_2 c1 cW) w_t ?_;(repeat' first|exact w_t|apply w_l);all_goals intros));all_goals exact gL
 cases b2
 ·refine pI func3 rfl ntmps3 results3 call3 ?_;(focus (refine wkax w_t (w_2 c1 cW) w_t w_t (w_1 c2) w_t w_y (w_r 0) ?_;(repeat' first|exact w_t|apply w_l);all_goals intros));all_goals exact gL
 cases b3
 ·refine pI func3 rfl ntmps3 results3 call3 ?_;(focus (refine wkax w_t (w_2 c1 cW) w_t w_t (w_2 c2 c3) w_t w_y (w_r 0) ?_;(repeat' first|exact w_t|apply w_l);all_goals intros));all_goals exact gL
 cases b4
 ·refine pI func3 rfl ntmps3 results3 call3 ?_;(focus (refine wkax w_t (w_2 c1 cW) w_t w_t (w_3 c2 c3 c4) w_t w_y (w_r 0) ?_;(repeat' first|exact w_t|apply w_l);all_goals intros));all_goals exact gL
 have hz:z≤0:=by simpa using hb
 have cS:=cS rfl;refine pI func3 rfl ntmps3 results3 call3 ?_;(focus (refine wkax (w_1 hz) (w_3 c1 cS cW) w_t w_t (w_3 c2 c3 c4) w_t w_y (w_r 0) ?_;(repeat' first|exact w_t|apply w_l);all_goals intros));all_goals exact gL
theorem lwSim1 (bs:List BxQ) (x y m:Rat) (PX:List Pr) (hl:bs.length≤12) (hs:∀b∈bs,b.sz 4) (sx:Sz x 4) (sy:Sz y 4) (sm:Sz m 4) (hz:¬m.num.sign≤0) (c1:Pure prog 5 [.sl 12 (bs.map BxQ.av)] (.v (.bool true))) (c2:Pure prog 6 [ratQ x] (.v (.bool true))) (c3:Pure prog 6 [ratQ y] (.v (.bool true))) (c4:Pure prog 6 [ratQ m] (.v (.bool true)))
 (d1:Pure prog 10 [.sl 12 (bs.map BxQ.av),iv 300,iv 200] (.tup [.sl 2 (PX.map prA),iv 0])) (d2:Pure prog 10 [.sl 12 (bs.map λb=>(chB m x y b).av),iv 300,iv 200] (.tup [.sl 2 (PX.map prA),iv 0])) (hp:PX.length≤100)
 (cW:Pure prog 8 [] (.v (.bool true))):Pure prog 3 [.sl 12 (bs.map BxQ.av),chQ x y m] (.v (.bool true)):=by
 have cS:=Zv8 m sm zo;have c6:=Zqv PX zo;generalize PX.map prA=P at *;refine pI func3 rfl ntmps3 results3 call3 ?_;(focus (refine wkax (w_1 hz) (w_2 c1 cS) w_t w_t (w_3 c2 c3 c4) w_t w_y (w_r 0) ?_;(repeat' first|exact w_t|apply w_l);all_goals intros));refine Zc4 (Frz.nilOwn (d:=5) 500 12 38 (gC)) ?_;(focus (refine wkad w_t w_t w_t ?_;(repeat' first|exact w_t|apply w_l);all_goals intros));rename_i g3;clear c1 c2 c3 c4 cS hz;refine Zab (ι:=Nat) (λk e s=>k≤bs.length∧e 0=.sl 12 (bs.map BxQ.av)∧e 3=.pbox 3 g3 0∧s 3=some (.box g3 30 [.v (.bool (decide (x.num < 0))),lim (toL x.num.natAbs),lim (toL x.den),.v (.bool (decide (y.num < 0))),lim (toL y.num.natAbs),lim (toL y.den),.v (.bool (decide (m.num < 0))),lim (toL m.num.natAbs),lim (toL m.den)] false)∧e 40=.sl 12 (bs.map BxQ.av)∧e 41=iv bs.length∧e 42=iv k∧∃sv,e 5=.own 500 sv∧s 500=some (.row sv 38 12 ((bs.take k).map λb=>(chB m x y b).av) 0)) (λk=>bs.length - k) 0 zr ?_ ?_
 ·rintro k e s ⟨hk,e0,e3,s3,e40,e41,e42,sv,e5,s5⟩
  by_cases hlt:k < bs.length
  ·have hget:(bs.map BxQ.av).getD k .u=boxQ bs[k].a bs[k].b bs[k].c bs[k].d:=Zkp BxQ.av hlt;have hb:=hs bs[k] (Zy6 hlt);have k1:=Zo1 bs[k].a bs[k].b m x hb.1 hb.2.1 sm sx zo;have k2:=Zo1 bs[k].c bs[k].d m y hb.2.2.1 hb.2.2.2 sm sy zo;have t1:(bs.take (k+1)).map (λb=>(chB m x y b).av)=(bs.take k).map (λb=>(chB m x y b).av)++[boxQ (bs[k].a*m+x) (bs[k].b*m+x) (bs[k].c*m+y) (bs[k].d*m+y)]:=by rw [Zev hlt,Zzh];rfl
   have hln:((bs.take k).map λb=>(chB m x y b).av).length≤12:=by rw [Zyn,Zy1];omega
   clear hb d1 d2 c6 cW;generalize ((bs.take k).map λb=>(chB m x y b).av)=Z at *;generalize bs[k].a*m+x=p1 at *;generalize bs[k].b*m+x=p2 at *;generalize bs[k].c*m+y=p3 at *;generalize bs[k].d*m+y=p4 at *;generalize bs[k].a=q1 at *;generalize bs[k].b=q2 at *;generalize bs[k].c=q3 at *;generalize bs[k].d=q4 at *;(focus (refine wkad (w_11 e0 e3 s3 e40 e41 e42 e5 s5 hget hln @Zbm) (w_2 k1 k2) (w_1 (w_d 7 [(7,Zqf p1 p2),(14,Zqf p3 p4),(16,.sl 12 [boxQ p1 p2 p3 p4])] [17] [500])) ?_;(repeat' first|exact w_t|apply w_l);all_goals intros));exact⟨k+1,⟨zo,gW e0,gW e3,gW s3,gW e40,gW e41,gS,_,gC,by rw [t1];exact gC⟩,zo⟩
  ·rw [ZAl zo] at s5;(focus (refine wkax (w_9 e0 e3 s3 e40 e41 e42 e5 s5 @Zbm) (w_2 c6 cW) w_t w_t (w_2 d1 d2) w_t w_y (w_r 0) ?_;(repeat' first|exact w_t|apply w_l);all_goals intros));all_goals exact gL
 ·exact⟨Zyv _,gC,gC,gC,gC,by(simp (disch:=omega) only [go_sem,Zyn]<;>repeat' first|rfl|refine⟨?_,?_⟩),gC,_,gC,gC⟩
theorem chA_eq {x y m:RQ} (hx:x.av=ratQ x.q) (hy:y.av=ratQ y.q) (hm:m.av=ratQ m.q):chA x y m=chQ x.q y.q m.q:=by
 show AV.agg (x.av.cells++(y.av.cells++m.av.cells))=AV.agg ((ratQ x.q).cells++((ratQ y.q).cells++(ratQ m.q).cells));rw [hx,hy,hm]
theorem simScale (bs:List BxQ) (x y m:Rat) (hl:bs.length≤12) (hs:∀b∈bs,b.sz 4) (sx:Sz x 4) (sy:Sz y 4) (sm:Sz m 4) (hm:0 < m):∃PX:List Pr,PX.length≤100∧Pure prog 10 [.sl 12 (bs.map BxQ.av),iv 300,iv 200] (.tup [.sl 2 (PX.map prA),iv 0]) ∧
 Pure prog 10 [.sl 12 (bs.map λb=>(chB m x y b).av),iv 300,iv 200] (.tup [.sl 2 (PX.map prA),iv 0]):=by
 cases bs with
 | nil =>
   have c:=Zcj (Zxw 300 200 zo zo zo zo) (r':=.tup [.sl 2 [],iv 0]) (Vk.tupL (.cons (.nil 2) (.cons (.refl _) .nil)));exact⟨[],Zyv _,c,c⟩
 | cons b0 rest =>
   have hr:rest.length≤11:=by simp only [Zyx] at hl;omega
   have so:=Zrk b0 rest 300 200 zo zo zo zo rfl rfl rfl rfl rfl;have hok:=λb hb=>(⟨Zjq zo (so.2 b hb).1,Zjq zo (so.2 b hb).2⟩:_∧_);have c1:=Zxx b0 rest 300 200 hs zo zo zo zo zo rfl rfl rfl rfl rfl hok zo
   have hs2:∀b∈chB m x y b0 :: rest.map (chB m x y),b.sz 13:=by
    intro b hb;have hb:b∈(b0 :: rest).map (chB m x y):=hb;obtain⟨a,ha,rfl⟩:=List.mem_map.1 hb;exact chB_sz (hs a ha) sm sx sy
   have so2:=Zrk (chB m x y b0) (rest.map (chB m x y)) 300 200 zo zo zo zo rfl rfl rfl rfl rfl;have hok2:=λb hb=>(⟨Zjq zo (so2.2 b hb).1,Zjq zo (so2.2 b hb).2⟩:_∧_);have c2:=Zxx (chB m x y b0) (rest.map (chB m x y)) 300 200 hs2 (by rw [Zyn];omega) zo zo zo zo rfl rfl rfl rfl rfl hok2 zo;rw [pix_all b0 rest 300 200 hm rfl rfl rfl rfl rfl rfl rfl rfl rfl rfl] at c2
   have e2:(chB m x y b0 :: rest.map (chB m x y)).map BxQ.av=(b0 :: rest).map λb=>(chB m x y b).av:=by
    show((b0 :: rest).map (chB m x y)).map BxQ.av=_;rw [List.map_map];rfl
   rw [e2] at c2;clear e2 so2 hok2 hs2 so hok;generalize minF b0.cx (rest.map BxQ.cx)=x0 at *;generalize maxF b0.cx (rest.map BxQ.cx)=x1 at *;generalize minF b0.cy (rest.map BxQ.cy)=y0 at *;generalize maxF b0.cy (rest.map BxQ.cy)=y1 at *;generalize fac 300 200 (x1 - x0) (y1 - y0)=f at *;have ep:(b0 :: rest).map (pixA f x0 y0 200)=((b0 :: rest).map λb=>((rnd (pxR f x0 b):Int),(rnd (pyR f y0 200 b):Int))).map prA:=by rw [List.map_map];rfl
   rw [ep] at c1 c2;exact⟨_,by rw [Zyn];simp only [Zyx];omega,c1,c2⟩
theorem Zt3 (l:List RBox) (x y m:RQ) (hm:∀b∈l,b.lm 1100000) (hl:l.length≤1000000000) (lx:x.lm 1100000) (ly:y.lm 1100000) (lm:m.lm 1100000):Pure prog 3 [.sl 12 (l.map RBox.av),chA x y m] (.v (.bool true)):=by
 have cB:=lBoxes l hm hl;have c2:=Zks x lx;have c3:=Zks y ly;have c4:=Zks m lm;have cS:m.sh=true→Pure prog 7 [m.av] (iv m.q.num.sign):=λh=>by
  obtain⟨e,s⟩:=RQ.sh_av lm.1 lm.2.1 h;rw [e];exact Zv8 _ s zo
 by_cases h:okB l=false∨x.sh=false∨y.sh=false∨m.sh=false∨m.q.num.sign≤0
 ·exact lwSim0 _ x y m _ _ _ _ _ cB c2 c3 c4 cS Zw6 h
 ·simp only [not_or,Bool.not_eq_false] at h;obtain⟨h1,h2,h3,h4,h5⟩:=h;obtain⟨hrow,hsz,h12⟩:=okB_row hm h1;obtain⟨ex,sx⟩:=RQ.sh_av lx.1 lx.2.1 h2;obtain⟨ey,sy⟩:=RQ.sh_av ly.1 ly.2.1 h3;obtain⟨em,sm⟩:=RQ.sh_av lm.1 lm.2.1 h4;rw [h1,hrow] at cB;rw [h2,ex] at c2;rw [h3,ey] at c3;rw [h4,em] at c4;rw [hrow,chA_eq ex ey em]
  have hn:0 < m.q.num:=by
   rcases ZBp m.q.num 0 with h | h | h
   ·rw [ZB0 h] at h5;omega
   ·rw [h] at h5;exact absurd zd h5
   ·exact h
  have hpos:0 < m.q:=by
   have p0:0≤m.q:=Rat.num_nonneg.1 zo;have p1:m.q≠0:=λe=>by rw [e] at hn;exact absurd hn zd
   grind
  have hlen:(l.map RBox.q).length≤12:=by rw [Zyn];exact h12
  obtain⟨PX,hp,d1,d2⟩:=simScale (l.map RBox.q) x.q y.q m.q hlen hsz sx sy sm hpos;exact lwSim1 _ _ _ _ PX hlen hsz sx sy sm h5 cB c2 c3 c4 d1 d2 hp Zw6
section
variable {N n:Nat} {cs:List AV}
theorem shBox (h:Zc5 prog N n 38 cs):∃b:RBox,cs=[.v (.bool b.a.s),lim b.a.l,lim b.a.d,.v (.bool b.b.s),lim b.b.l,lim b.b.d,.v (.bool b.c.s),lim b.c.l,lim b.c.d,.v (.bool b.d.s),lim b.d.l,lim b.d.d]∧b.lm N:=by
 obtain⟨m,rfl,hs⟩:=Zd8 underlying38 zk h;obtain⟨x,y,rfl,h1,hs⟩:=hs.inv;obtain⟨z,y,rfl,h2,hs⟩:=hs.inv;obtain rfl:=hs.inv0;obtain⟨a,b,rfl,h3,h4⟩:=Zlr h1;obtain⟨c,d,rfl,h5,h6⟩:=Zlr h2;exact⟨⟨a,b,c,d⟩,rfl,h3,h4,h5,h6⟩
theorem shBoxes (h:Zc5 prog N n 22 cs):∃l:List RBox,cs=[.sl 12 (l.map RBox.av)]∧(∀b∈l,b.lm N)∧l.length≤N:=by
 obtain⟨bs,rfl,hl,hq⟩:=Zh6 (g:=λb:RBox=>[.v (.bool b.a.s),lim b.a.l,lim b.a.d,.v (.bool b.b.s),lim b.b.l,lim b.b.d,.v (.bool b.c.s),lim b.c.l,lim b.c.d,.v (.bool b.d.s),lim b.d.l,lim b.d.d]) (Q:=λb=>b.lm N) underlying22 h λm x hx=>shBox hx;refine⟨bs,?_,hq,hl⟩;rw [show prog.cellsOf 38=12 from by kernel_rfl];have:(bs.map λb:RBox=>Zdu prog 38 [.v (.bool b.a.s),lim b.a.l,lim b.a.d,.v (.bool b.b.s),lim b.b.l,lim b.b.d,.v (.bool b.c.s),lim b.c.l,lim b.c.d,.v (.bool b.d.s),lim b.d.l,lim b.d.d])=bs.map RBox.av:=ZBn λb _=>Znr underlying38 _;rw [this]
theorem shChange (h:Zc5 prog N n 30 cs):∃x y m:RQ,Zdu prog 30 cs=chA x y m∧x.lm N∧y.lm N∧m.lm N:=by
 obtain⟨m,rfl,hs⟩:=Zd8 underlying30 zk h;obtain⟨x,y,rfl,h1,hs⟩:=hs.inv;obtain⟨z,y,rfl,h2,hs⟩:=hs.inv;obtain⟨w,y,rfl,h3,hs⟩:=hs.inv;obtain rfl:=hs.inv0;obtain⟨a,rfl,k1⟩:=Zu8 h1;obtain⟨b,rfl,k2⟩:=Zu8 h2;obtain⟨c,rfl,k3⟩:=Zu8 h3;exact⟨a,b,c,Znr underlying30 _,k1,k2,k3⟩
end
theorem Zqw {r:RQ} (h:r.lm 1048576):r.lm 1100000:=⟨h.1,h.2.1,Zyz h.2.2.1 zo,Zyz h.2.2.2 zo⟩
theorem aggBoxes:Zgt prog 22=false:=by kernel_rfl
theorem saidSimilar (xs:List AV) (h:ShapeL prog 1048576 9 [22,30] xs):Pure prog 3 xs (.v (.bool true)):=by
 obtain⟨x,bs,rfl,h1,h⟩:=h.inv;obtain⟨y,bs,rfl,h2,h⟩:=h.inv;obtain rfl:=h.inv0;obtain⟨l,rfl,h3,h4⟩:=shBoxes h1;obtain⟨a,b,c,e,k1,k2,k3⟩:=shChange h2;rw [e,Znq aggBoxes];exact Zt3 l a b c (λb hb=>⟨Zqw (h3 b hb).1,Zqw (h3 b hb).2.1,Zqw (h3 b hb).2.2.1,Zqw (h3 b hb).2.2.2⟩) zo (Zqw k1) (Zqw k2) (Zqw k3)
end Go.Proofs.YtjbjejmmnbdbiaaGreat
