/- Contracts of the functions that the law reaches, and the rules by which they are walked. They say what a call hands back for every input within the bounds that each names; no other condition. -/
import Derived.Test.YtpkcophcldjboaaGreatDoorBg11
set_option linter.unusedSimpArgs false
set_option linter.unusedVariables false
set_option maxRecDepth 20000
set_option maxHeartbeats 16000000
namespace Go.Proofs.YtpkcophcldjboaaGreatDoor
open Go Go.RowKit Go.Pg Go.Pol Go.Proofs.Tryz
attribute [-bool_to_prop] Bool.and_eq_decide Bool.or_eq_decide Bool.decide_beq_decide decide_eq_decide
attribute [local go_sem] Zaw Zay Zax Zah Zap Zai Bool.and_self Zal Za8 Zba Zb4 Zb6 Zca Zbg Zcg Zb0 Zb2 Zdc Zdf Zde Zdd Zb8 Zb9 Zdt Zdu Zen Zer Zel Zem Zjw Zox
theorem Zyo (Z:List AV) (h:Z.length≤100000000):Pure prog 28 [.sl 4 Z] (.v (.bool (decide (4000 < Z.length)))):=by
 by_cases g:4000 < Z.length
 ·have g':(Z.length:Int) > 4000:=zo;rw [ZCp g];refine pI func28 rfl ntmps28 results28 call28 ?_
  (refine wkad (w_1 g') w_t w_t (w_s ?_);intros)
  all_goals exact gL
 ·have g':¬(Z.length:Int) > 4000:=zo;rw [ZCq g];refine pI func28 rfl ntmps28 results28 call28 ?_
  (refine wkad (w_1 g') w_t w_t (w_s ?_);intros)
  all_goals exact gL
theorem rlElR (M G N D:List AV) (p:Int) (h:p < 0∨(M.length:Int)≤p):Pure prog 9 [.agg [.sl 6 M,.sl 5 G],iv p,.agg [.sl 4 N,.sl 4 D]] (.tup [.agg [.v (.slice none 0 0),.v (.slice none 0 0)],iv 2]):=by
 have cc:=rlChkR M G p h;refine pI func9 rfl ntmps9 results9 call9 ?_
 (refine wkad w_t (w_1 cc) w_t (w_s ?_);intros)
 all_goals exact gL
structure RRd (q:Qt) (b y:XX) (n1 n2 k1 k2:Nat) (P1 E1 P2 E2 W1 W2:List AV):Prop where
 l1:n1≤1000000
 l2:n2≤1000000
 j1:max 0 ((n2:Int) - (n1:Int))=(k1:Int)
 j2:max 0 ((n1:Int) - (n2:Int))=(k2:Int)
 z1:(elS q b y).1.length≤100000000
 z2:(elS q b y).2.length≤100000000
 m1:Pure prog 24 [qpA y.1,q.av] (iv n1)
 m2:Pure prog 24 [qpA y.2,q.av] (iv n2)
 r1:Pure prog 25 [qpA y.1,q.av,.agg [qpA b.1,qpA b.2]] (.agg [.sl 4 P1,.sl 4 E1])
 r2:Pure prog 25 [qpA y.2,q.av,.agg [qpA b.1,qpA b.2]] (.agg [.sl 4 P2,.sl 4 E2])
 w1:Pure prog 27 [qpA b.2,iv k1] (.sl 4 W1)
 w2:Pure prog 27 [qpA b.2,iv k2] (.sl 4 W2)
 x1:Pure prog 26 [.sl 4 P1,.sl 4 W1] (qpA (elS q b y).1)
 x2:Pure prog 26 [.sl 4 P2,.sl 4 W2] (qpA (elS q b y).2)
set_option maxHeartbeats 32000000 in
theorem rlElV (M G:List AV) (i:Nat) (hi:i < M.length) (l:List Qt) (x0:XX) (lem:Qt→Int × XX) (I:List Qt→XX→Prop) (hll:l.length≤1000000)
 (ch:Pure prog 22 [qpA x0.1,qpA x0.2,iv i] (.sl 4 (l.map Qt.av))) (cn:Pure prog 29 [iv 1] (.sl 4 [.agg [.v (.bool false),lim [1],lim [1],.sl 4 []]])) (h0:I l x0)
 (hb:∀l y,I l y→y.1.length≤1000000∧y.2.length≤1000000)
 (hI:∀q r y,I (q :: r) y→(¬(lem q).1=0∧∃N0:AV,(N0=.sl 4 []∨N0=nilA)∧Pure prog 23 [.agg [.sl 6 M,.sl 5 G],iv i,q.av] (.tup [.agg [N0,nilA],iv (lem q).1]))
  ∨ ((lem q).1=0∧Pure prog 23 [.agg [.sl 6 M,.sl 5 G],iv i,q.av] (.tup [.agg [qpA (lem q).2.1,qpA (lem q).2.2],iv 0])∧(∃n1 n2 k1 k2 P1 E1 P2 E2 W1 W2,RRd q (lem q).2 y n1 n2 k1 k2 P1 E1 P2 E2 W1 W2)∧(¬(4000 < (elS q (lem q).2 y).1.length∨4000 < (elS q (lem q).2 y).2.length)→I r (elS q (lem q).2 y)))) :
 Pure prog 9 [.agg [.sl 6 M,.sl 5 G],iv i,.agg [qpA x0.1,qpA x0.2]] (elR (elT (elF lem l x0)) nilA):=by
 have hg:∀j (h:j < l.length),(l.map Qt.av).getD j .u=Qt.av l[j]:=λj h=>Zak Qt.av h;have hlm:(l.map Qt.av).length=l.length:=ZCj ..;have cc:=Ztq M G i hi;obtain⟨R,hR⟩:∃R,R=elR (elT (elF lem l x0)) nilA:=⟨_,rfl⟩;rw [←hR];show Pure _ _ [_,_,.agg [.sl 4 (x0.1.map qtA),.sl 4 (x0.2.map qtA)]] _
 replace ch:Pure prog 22 [.sl 4 (x0.1.map qtA),.sl 4 (x0.2.map qtA),iv i] (.sl 4 (l.map Qt.av)):=ch
 obtain⟨y1,hy1⟩:∃y,y=x0.1.map qtA:=⟨_,rfl⟩;obtain⟨y2,hy2⟩:∃y,y=x0.2.map qtA:=⟨_,rfl⟩;rw [←hy1,←hy2] at ch ⊢;generalize l.map Qt.av=LA at *;refine pI func9 rfl ntmps9 results9 call9 ?_
 (refine wkad (w_1 hlm) (w_2 cc ch) w_t (w_s ?_);intros)
 rename_i g3 g5 g6;clear cc;refine Zad (ι:=Nat × XX) (λs e m=>s.1≤l.length∧(e 1=iv i∧(e 3=.pbox 3 g3 0∧m 3=some (.box g3 25 [.sl 6 M,.sl 5 G] false))∧(e 6=.pbox 6 g6 0∧m 6=some (.box g6 29 [.v (.slice none 0 0),.v (.slice none 0 0)] false)))∧(e 9=.sl 4 LA∧e 12=iv s.1∧e 10=.sl 4 (s.2.1.map qtA)∧e 11=.sl 4 (s.2.2.map qtA))∧I (l.drop s.1) s.2∧elF lem (l.drop s.1) s.2=elF lem l x0) (λs=>l.length - s.1) (0,x0) zr ?_ ?_
 ·rintro ⟨j,y⟩ e m ⟨hj,⟨e1,⟨e3,m3⟩,⟨e6,m6⟩⟩,⟨e9,e12,e10,e11⟩,hIy,hF⟩
  simp only at hj e12 e10 e11 hIy hF;by_cases hlt:j < l.length
  ·have hgj:=hg j hlt;have hdr:l.drop j=l[j] :: l.drop (j+1):=ZEg hlt;rw [hdr] at hIy hF;have h2:=hI _ _ _ hIy;clear hI hg ch cn h0 hb hdr hIy;generalize l[j]=q at *;rcases h2 with⟨hz,N0,hN,cL⟩ | ⟨hz,cL,⟨n1,n2,k1,k2,P1,E1,P2,E2,W1,W2,d⟩,hn⟩
   ·have hres:R=.tup [.agg [.v (.slice none 0 0),.v (.slice none 0 0)],iv (lem q).1]:=by rw [hR,←hF,elF_l hz,elT_e hz];exact Zwo _ rfl hz
    subst hres;clear hF hR hy1 hy2;generalize (lem q).1=z at *;generalize y.1.map qtA=Y1 at *;generalize y.2.map qtA=Y2 at *;obtain⟨q1,q2,q3,q4⟩:=q
    replace hgj:LA.getD j .u=.agg [iv q1,iv q2,iv q3,iv q4]:=hgj
    rcases hN with rfl | rfl
    ·have cL:Pure prog 23 [.agg [.sl 6 M,.sl 5 G],iv i,.agg [iv q1,iv q2,iv q3,iv q4]] _:=cL
     (refine wkad (w_12 e1 e3 m3 e6 m6 e9 e12 e10 e11 hlm hgj hz) (w_1 cL) (w_1 (w_d 9 [(6,.tup [.agg [.sl 4 [],nilA],iv z])] [] [13])) (w_s ?_);intros)
     all_goals exact gM (w_2 e6 m6)
    ·have cL:Pure prog 23 [.agg [.sl 6 M,.sl 5 G],iv i,.agg [iv q1,iv q2,iv q3,iv q4]] _:=cL
     (refine wkad (w_12 e1 e3 m3 e6 m6 e9 e12 e10 e11 hlm hgj hz) (w_1 cL) (w_1 (w_d 9 [(6,.tup [.agg [nilA,nilA],iv z])] [] [13])) (w_s ?_);intros)
     all_goals exact gM (w_2 e6 m6)
   ·obtain⟨b1,b2,hk1,hk2,z1,z2,m1,m2,r1,r2,w1,w2,x1,x2⟩:=d
    replace cL:Pure prog 23 [.agg [.sl 6 M,.sl 5 G],iv i,q.av] (.tup [.agg [.sl 4 ((lem q).2.1.map qtA),.sl 4 ((lem q).2.2.map qtA)],iv 0]):=cL
    replace m1:Pure prog 24 [.sl 4 (y.1.map qtA),q.av] (iv n1):=m1
    replace m2:Pure prog 24 [.sl 4 (y.2.map qtA),q.av] (iv n2):=m2
    replace r1:Pure prog 25 [.sl 4 (y.1.map qtA),q.av,.agg [.sl 4 ((lem q).2.1.map qtA),.sl 4 ((lem q).2.2.map qtA)]] (.agg [.sl 4 P1,.sl 4 E1]):=r1
    replace r2:Pure prog 25 [.sl 4 (y.2.map qtA),q.av,.agg [.sl 4 ((lem q).2.1.map qtA),.sl 4 ((lem q).2.2.map qtA)]] (.agg [.sl 4 P2,.sl 4 E2]):=r2
    replace w1:Pure prog 27 [.sl 4 ((lem q).2.2.map qtA),iv k1] (.sl 4 W1):=w1
    replace w2:Pure prog 27 [.sl 4 ((lem q).2.2.map qtA),iv k2] (.sl 4 W2):=w2
    replace x1:Pure prog 26 [.sl 4 P1,.sl 4 W1] (.sl 4 ((elS q (lem q).2 y).1.map qtA)):=x1
    replace x2:Pure prog 26 [.sl 4 P2,.sl 4 W2] (.sl 4 ((elS q (lem q).2 y).2.map qtA)):=x2
    have s1:((elS q (lem q).2 y).1.map qtA).length=(elS q (lem q).2 y).1.length:=ZCj ..;have s2:((elS q (lem q).2 y).2.map qtA).length=(elS q (lem q).2 y).2.length:=ZCj ..;have g1:=Zyo ((elS q (lem q).2 y).1.map qtA) zo;have g2:=Zyo ((elS q (lem q).2 y).2.map qtA) zo;rw [s1] at g1;rw [s2] at g2;by_cases hbig:4000 < (elS q (lem q).2 y).1.length∨4000 < (elS q (lem q).2 y).2.length
    ·have hres:R=.tup [.agg [.v (.slice none 0 0),.v (.slice none 0 0)],iv 4]:=by rw [hR,←hF,elF_b hz hbig,elT_e zd];exact Zwo _ rfl zd
     subst hres;clear hF hR hn hz hy1 hy2;generalize (lem q).2.1.map qtA=B1 at *;generalize (lem q).2.2.map qtA=B2 at *;generalize (elS q (lem q).2 y).1.map qtA=Z1 at *;generalize (elS q (lem q).2 y).2.map qtA=Z2 at *;generalize (elS q (lem q).2 y).1.length=o1 at *;generalize (elS q (lem q).2 y).2.length=o2 at *;generalize y.1.map qtA=Y1 at *;generalize y.2.map qtA=Y2 at *;obtain⟨q1,q2,q3,q4⟩:=q
     replace hgj:LA.getD j .u=.agg [iv q1,iv q2,iv q3,iv q4]:=hgj
     replace cL:Pure prog 23 [.agg [.sl 6 M,.sl 5 G],iv i,.agg [iv q1,iv q2,iv q3,iv q4]] _:=cL
     replace m1:Pure prog 24 [.sl 4 Y1,.agg [iv q1,iv q2,iv q3,iv q4]] _:=m1
     replace m2:Pure prog 24 [.sl 4 Y2,.agg [iv q1,iv q2,iv q3,iv q4]] _:=m2
     replace r1:Pure prog 25 [.sl 4 Y1,.agg [iv q1,iv q2,iv q3,iv q4],.agg [.sl 4 B1,.sl 4 B2]] _:=r1
     replace r2:Pure prog 25 [.sl 4 Y2,.agg [iv q1,iv q2,iv q3,iv q4],.agg [.sl 4 B1,.sl 4 B2]] _:=r2
     by_cases hb1:4000 < o1
     ·rw [ZCp hb1] at g1
      (refine wkax (w_13 e1 e3 m3 e6 m6 e9 e12 e10 e11 hlm hgj hk1 hk2) (w_5 cL m1 m2 r1 r2) (w_3 (w_d 9 [(6,.tup [.agg [.sl 4 B1,.sl 4 B2],iv 0])] [] [13]) (w_d 12 [(5,iv n1),(11,iv n2)] [] []) (w_d 13 [(6,.agg [.sl 4 P1,.sl 4 E1]),(14,.agg [.sl 4 P2,.sl 4 E2])] [] [])) w_t (w_5 w1 x1 w2 x2 g1) w_t w_y (w_r 0) (w_s ?_);intros)
      all_goals exact gM (w_2 e6 m6)
     ·rw [ZCq hb1] at g1;rw [ZCp (by omega:4000 < o2)] at g2
      (refine wkax (w_13 e1 e3 m3 e6 m6 e9 e12 e10 e11 hlm hgj hk1 hk2) (w_5 cL m1 m2 r1 r2) (w_3 (w_d 9 [(6,.tup [.agg [.sl 4 B1,.sl 4 B2],iv 0])] [] [13]) (w_d 12 [(5,iv n1),(11,iv n2)] [] []) (w_d 13 [(6,.agg [.sl 4 P1,.sl 4 E1]),(14,.agg [.sl 4 P2,.sl 4 E2])] [] [])) w_t (w_6 w1 x1 w2 x2 g1 g2) w_t w_y (w_r 0) (w_s ?_);intros)
      all_goals exact gM (w_2 e6 m6)
    ·have hn:=hn hbig;rw [elF_s hz hbig] at hF;rw [ZCq (λh=>hbig (.inl h))] at g1;rw [ZCq (λh=>hbig (.inr h))] at g2;generalize elS q (lem q).2 y=y' at *;obtain⟨Z1,hZ1⟩:∃Z,Z=y'.1.map qtA:=⟨_,rfl⟩;obtain⟨Z2,hZ2⟩:∃Z,Z=y'.2.map qtA:=⟨_,rfl⟩;rw [←hZ1] at x1 g1;rw [←hZ2] at x2 g2;clear hR hz hbig hy1 hy2 s1 s2 z1 z2;generalize (lem q).2.1.map qtA=B1 at *;generalize (lem q).2.2.map qtA=B2 at *;generalize y.1.map qtA=Y1 at *;generalize y.2.map qtA=Y2 at *;obtain⟨q1,q2,q3,q4⟩:=q
     replace hgj:LA.getD j .u=.agg [iv q1,iv q2,iv q3,iv q4]:=hgj
     replace cL:Pure prog 23 [.agg [.sl 6 M,.sl 5 G],iv i,.agg [iv q1,iv q2,iv q3,iv q4]] _:=cL
     replace m1:Pure prog 24 [.sl 4 Y1,.agg [iv q1,iv q2,iv q3,iv q4]] _:=m1
     replace m2:Pure prog 24 [.sl 4 Y2,.agg [iv q1,iv q2,iv q3,iv q4]] _:=m2
     replace r1:Pure prog 25 [.sl 4 Y1,.agg [iv q1,iv q2,iv q3,iv q4],.agg [.sl 4 B1,.sl 4 B2]] _:=r1
     replace r2:Pure prog 25 [.sl 4 Y2,.agg [iv q1,iv q2,iv q3,iv q4],.agg [.sl 4 B1,.sl 4 B2]] _:=r2
     (refine wkax (w_13 e1 e3 m3 e6 m6 e9 e12 e10 e11 hlm hgj hk1 hk2) (w_5 cL m1 m2 r1 r2) (w_3 (w_d 9 [(6,.tup [.agg [.sl 4 B1,.sl 4 B2],iv 0])] [] [13]) (w_d 12 [(5,iv n1),(11,iv n2)] [] []) (w_d 13 [(6,.agg [.sl 4 P1,.sl 4 E1]),(14,.agg [.sl 4 P2,.sl 4 E2])] [] [])) w_t (w_6 w1 x1 w2 x2 g1 g2) w_t w_y (w_r 0) (w_s ?_);intros)
     exact⟨(j+1,y'),⟨by show j+1≤_;omega,⟨gW e1,⟨gW e3,gW m3⟩,⟨gW e6,gW m6⟩⟩,⟨gW e9,gS,by rw [←hZ1];exact gC,by rw [←hZ2];exact gC⟩,hn,hF⟩,by simp only;omega⟩
  ·have hjl:j=l.length:=zo;subst hjl;rw [ZHz] at hIy hF
   replace hF:(0,y)=elF lem l x0:=hF
   obtain⟨b1,b2⟩:=hb _ _ hIy;have l1:(y.1.map qtA).length=y.1.length:=ZCj ..;have l2:(y.2.map qtA).length=y.2.length:=ZCj ..;clear hI hg ch h0 hb hIy hy1 hy2;by_cases n2:y.2=[]
   ·have hres:R=.tup [.agg [.v (.slice none 0 0),.v (.slice none 0 0)],iv 3]:=by rw [hR,←hF,elT_z n2];exact Zwo _ rfl zd
    subst hres;rw [n2] at e11;clear cn hF hR l1 l2
    replace e11:e 11=.sl 4 []:=e11
    generalize y.1.map qtA=Y1 at *
    (refine wkad (w_10 e1 e3 m3 e6 m6 e9 e12 e10 e11 hlm) w_t w_t (w_s ?_);intros)
    all_goals exact gM (w_2 e6 m6)
   ·have k2:¬y.2.length=0:=λh=>n2 (List.length_eq_zero_iff.1 h);have k2':¬(y.2.length:Int)=0:=zo;by_cases n1:y.1=[]
    ·have hres:R=.tup [.agg [.v (.slice none 0 0),.sl 4 [.agg [.v (.bool false),lim [1],lim [1],.sl 4 []]]],iv 0]:=by
      rw [hR,←hF,elT_n n2 n1];show AV.tup [.agg [.v (.slice none 0 0),.sl 4 [qtA ((1:Rat),[])]],iv 0]=_;rw [Ze2];rfl
     subst hres;rw [n1] at e10
     replace e10:e 10=.sl 4 []:=e10
     clear hF hR l1;generalize y.2.map qtA=Y2 at *
     (refine wkad (w_12 e1 e3 m3 e6 m6 e9 e12 e10 e11 hlm l2 k2') (w_1 cn) w_t (w_s ?_);intros)
     all_goals exact gM (w_2 e6 m6)
    ·have k1:¬y.1.length=0:=λh=>n1 (List.length_eq_zero_iff.1 h);have k1':¬(y.1.length:Int)=0:=zo
     have hres:R=.tup [.agg [.sl 4 (y.1.map qtA),.sl 4 (y.2.map qtA)],iv 0]:=by
      rw [hR,←hF,elT_o n2 n1];unfold elR;rw [ZCh rfl,ZCg n1]
     subst hres;clear hF hR cn;generalize y.1.map qtA=Y1 at *;generalize y.2.map qtA=Y2 at *
     (refine wkad (w_14 e1 e3 m3 e6 m6 e9 e12 e10 e11 hlm l1 l2 k1' k2') w_t w_t (w_s ?_);intros)
     all_goals exact gM (w_2 e6 m6)
 ·exact⟨ZCr _,⟨gC,⟨gC,gC⟩,⟨gC,gC⟩⟩,⟨gC,gC,by rw [←hy1];exact gC,by rw [←hy2];exact gC⟩,h0,rfl⟩
theorem rp_pw {q:Qt} {p:QTs} {b:XX} (lp:p.length≤4000) (l1:b.1.length≤12) (l2:b.2.length≤12) {i:Nat} (hm:moQ q p+i≤2):(rpN q p b.1 b.2).length*(pwX b.2 i).length≤1728000:=by
 have g:=Ztr (P:=paQ q p) (LP:=4000) (λk=>ZCk (Zt7 q p k) lp) l1 l2 (moQ q p) (moQ q p+1) (ZCi _);refine ZCk (ZDe g (Zgq l2 i)) ?_;generalize moQ q p=m at hm;have hh:(m=0∧i=0)∨(m=0∧i=1)∨(m=0∧i=2)∨(m=1∧i=0)∨(m=1∧i=1)∨(m=2∧i=0):=zo;rcases hh with⟨rfl,rfl⟩ | ⟨rfl,rfl⟩ | ⟨rfl,rfl⟩ | ⟨rfl,rfl⟩ | ⟨rfl,rfl⟩ | ⟨rfl,rfl⟩<;>decide
theorem rlPart {x:Int} {q:Qt} {K N:Nat} {p:QTs} {b:XX} (i:Nat) (hp:XB p K N) (lp:p.length≤4000) (hm:moQ q p≤2) (hi:moQ q p+i≤2) (nf:q.norm=(q,1)) (hb:LmOk x b) (hK:K≤60000) (hN:N≤900) :
 Pure prog 24 [qpA p,q.av] (iv (moQ q p))∧Pure prog 25 [qpA p,q.av,.agg [qpA b.1,qpA b.2]] (.agg [.sl 4 ((rpN q p b.1 b.2).map qtA),.sl 4 ((rpD q p b.2).map qtA)])∧Pure prog 27 [qpA b.2,iv i] (.sl 4 ((pwX b.2 i).map qtA))∧Pure prog 26 [.sl 4 ((rpN q p b.1 b.2).map qtA),.sl 4 ((pwX b.2 i).map qtA)] (qpA (mulX (rpN q p b.1 b.2) (pwX b.2 i))):=by
 have hmq:maxQ=1000:=rfl;refine⟨rxMost p q (n:=N) zo hp.2.1 zo,?_,?_,?_⟩
 ·have c:=Zx3 p b.1 b.2 q (L:=12) (LA:=4000) (M:=2) hp hb.xn hb.xd lp zd zd (by rw [nf];exact hm) hb.ln hb.ld zd zo zd zo;rw [nf] at c;simp only at c;rw [ZCg zd,scl_i1] at c;exact c
 ·have hp12:12 ^ (i+1)≤12 ^ 3:=ZDl zd zo;have h245:i*245≤2*245:=ZCw _ zo;have h5:i*5≤2*5:=ZCw _ zo;exact Zrj b.2 i hb.xd hb.ld zd (ZCk hp12 zd) zo zo zo
 ·have hx:=rs_xb (i:=0) hp hb.xn hb.xd hm zo;have hl:=rp_pw (i:=i) (q:=q) lp hb.ln hb.ld hi;have h0:=Ztn (i:=0) (q:=q) lp hb.ln hb.ld zo;have h12:=Zgq hb.ld i;have hp12:12 ^ i≤12 ^ 2:=ZDl zd zo;have h245:i*245≤2*245:=ZCw _ zo;have h5:i*5≤2*5:=ZCw _ zo;exact Zx5 _ _ hx (hb.xd.pw i) zo zo (ZCk hl zd) (ZCk h0 zd) zo zo zo
theorem rlRd {x:Int} {q:Qt} {l:List Qt} {K N:Nat} {y b:XX} (h:RoundOk x q l K N y b):∃n1 n2 k1 k2 P1 E1 P2 E2 W1 W2,RRd q b y n1 n2 k1 k2 P1 E1 P2 E2 W1 W2:=by
 obtain⟨m1,m2⟩:=h.h.mo h.hq;obtain⟨c1,c3,c5,c7⟩:=rlPart (moQ q y.2 - moQ q y.1) h.h.x1 h.h.l1 m1 zo h.nf h.b h.k h.n;obtain⟨c2,c4,c6,c8⟩:=rlPart (moQ q y.1 - moQ q y.2) h.h.x2 h.h.l2 m2 zo h.nf h.b h.k h.n;obtain⟨e1,l1⟩:=h.l1;obtain⟨e2,l2⟩:=h.l2;rw [←e1] at l1;rw [←e2] at l2;exact⟨_,_,_,_,_,_,_,_,_,_,zo,zo,zo,zo,zo,zo,c1,c2,c3,c4,c5,c6,c7,c8⟩
theorem rlElimF {ss:List RS} (gs:List RG) {i:Nat} (hi:i < ss.length) (h8:ss.length≤8) (he:errS ss i=0) (hr:ss[i].r.lm 2) {x:XX} (h:FineX x):Pure prog 9 [figA ss gs,iv i,.agg [qpA x.1,qpA x.2]] (if (elT (elZ ss i hi x)).1=0 then .tup [.agg [qpA (elT (elZ ss i hi x)).2.1,qpA (elT (elZ ss i hi x)).2.2],iv 0] else .tup [.agg [nilA,nilA],iv (elT (elZ ss i hi x)).1]):=by
 have a1:=h.l1;have a2:=h.l2;have hf:=h.fl;have hfl:flQ (x.1++x.2)=flQ x.1++flQ x.2:=ZId;have hmem:∀t∈x.1++x.2,t.2.length≤2∧∀q∈t.2,q.norm=(q,1):=λt ht=>by
  rcases List.mem_append.1 ht with g | g
  ·exact⟨h.x1.2.1 t g,(h.x1.1.1 t g).2.2⟩
  ·exact⟨h.x2.2.1 t g,(h.x2.1.1 t g).2.2⟩
 have ch:=rlHaving i x.1 x.2 zo (λt ht=>by have:=(hmem t ht).1;omega) (λt ht=>(hmem t ht).2) (by rw [hfl];omega);rw [hfl] at ch;have hn:=Zfy;rw [nx1,show qpA onX=.sl 4 [.agg [.v (.bool false),lim [1],lim [1],.sl 4 []]] from by show AV.sl 4 [qtA ((1:Rat),[])]=_;rw [Ze2];rfl] at hn;refine Zfg ?_ (elR_vk _);refine rlElV (ss.map RS.av) (gs.map RG.av) i (by rw [ZCj];exact hi) _ x (lemQ ss i hi) (Ahead i) (ZCk (Zoa _ _) zo) ch hn (h.ahead i) ?_ ?_
 ·rintro l y ⟨K,N,h1,-⟩
  have:=h1.l1;have:=h1.l2;exact⟨zo,zo⟩
 ·intro q r y hI;have c:=rlLemma ss gs i hi h8 he hr q.k q.a q.b q.c;have c:Pure prog 23 [figA ss gs,iv i,q.av] (lmA q ss.length (lmS ss i hi q) (.sl 4 [])):=c;by_cases hz:(lemQ ss i hi q).1=0
  ·refine .inr ⟨hz,?_,?_,?_⟩
   ·unfold lmA at c;unfold lemQ at hz ⊢;by_cases h0:q.chk ss.length 64=0
    ·rw [ZCh h0] at c hz ⊢;rw [ZCh hz] at c;exact c
    ·rw [ZCg h0] at hz;exact absurd hz h0
   ·have ok:=Zn5 hi h8 he hr hz;obtain⟨K,N,hR⟩:=hI.round ok;exact rlRd hR
   ·exact λhn=>hI.step (Zn5 hi h8 he hr hz) hn
  ·refine .inl ⟨hz,?_⟩;unfold lmA at c;unfold lemQ at hz ⊢;by_cases h0:q.chk ss.length 64=0
   ·rw [ZCh h0] at c hz ⊢;rw [ZCg hz] at c;exact⟨_,.inl rfl,c⟩
   ·rw [ZCg h0] at c ⊢;exact⟨_,.inr rfl,c⟩
theorem lwElN (M G N D:List AV) (p:Int) (bf bw:Bool) (hb:bf=false∨bw=false) (c1:Pure prog 5 [.agg [.sl 4 N,.sl 4 D]] (.v (.bool bf))) (c2:Pure prog 6 [.agg [.sl 6 M,.sl 5 G]] (.v (.bool bw))) (ca:Pure prog 7 [] (.v (.bool true))):Pure prog 3 [.agg [.sl 6 M,.sl 5 G],iv p,.agg [.sl 4 N,.sl 4 D]] (.v (.bool true)):=by
 cases bf with
 | false =>
   refine pI func3 rfl ntmps3 results3 call3 ?_
   (refine wkad w_t (w_2 c1 ca) w_t (w_s ?_);intros)
   all_goals exact gL
 | true =>
   obtain rfl:bw=false:=by rcases hb with h | h;cases h;exact h
   refine pI func3 rfl ntmps3 results3 call3 ?_
   (refine wkad w_t (w_3 c1 c2 ca) w_t (w_s ?_);intros)
   all_goals exact gL
theorem lwElE (M G N D:List AV) (p z:Int) (hz:¬z=0) (cf:Pure prog 5 [.agg [.sl 4 N,.sl 4 D]] (.v (.bool true))) (cw:Pure prog 6 [.agg [.sl 6 M,.sl 5 G]] (.v (.bool true))) (ca:Pure prog 7 [] (.v (.bool true)))
 (c1:Pure prog 8 [.agg [.sl 6 M,.sl 5 G],iv p,.agg [.sl 4 N,.sl 4 D]] (.tup [.agg [.v (.slice none 0 0),.v (.slice none 0 0)],iv z])) (c2:Pure prog 9 [.agg [.sl 6 M,.sl 5 G],iv p,.agg [.sl 4 N,.sl 4 D]] (.tup [.agg [.v (.slice none 0 0),.v (.slice none 0 0)],iv z])):Pure prog 3 [.agg [.sl 6 M,.sl 5 G],iv p,.agg [.sl 4 N,.sl 4 D]] (.v (.bool true)):=by
 refine pI func3 rfl ntmps3 results3 call3 ?_
 (refine wkad (w_1 hz) (w_5 cf cw c1 c2 ca) w_t (w_s ?_);intros)
 all_goals exact gL
theorem lwElO (M G N D A B:List AV) (p:Int) (cf:Pure prog 5 [.agg [.sl 4 N,.sl 4 D]] (.v (.bool true))) (cw:Pure prog 6 [.agg [.sl 6 M,.sl 5 G]] (.v (.bool true))) (ca:Pure prog 7 [] (.v (.bool true)))
 (c1:Pure prog 8 [.agg [.sl 6 M,.sl 5 G],iv p,.agg [.sl 4 N,.sl 4 D]] (.tup [.agg [.sl 4 A,.sl 4 B],iv 0])) (c2:Pure prog 9 [.agg [.sl 6 M,.sl 5 G],iv p,.agg [.sl 4 N,.sl 4 D]] (.tup [.agg [.sl 4 A,.sl 4 B],iv 0])) (cs:Pure prog 10 [.agg [.sl 4 A,.sl 4 B],.agg [.sl 4 A,.sl 4 B]] (.v (.bool true))):Pure prog 3 [.agg [.sl 6 M,.sl 5 G],iv p,.agg [.sl 4 N,.sl 4 D]] (.v (.bool true)):=by
 refine pI func3 rfl ntmps3 results3 call3 ?_
 (refine wkad w_t (w_6 cf cw c1 c2 cs ca) w_t (w_s ?_);intros)
 all_goals exact gL
theorem lawElims (ss:List RS) (gs:List RG) (p:Int) (x1 x2:List RE) (h1:ss.length≤1000000000) (h2:gs.length≤1000000000) (hs:∀s∈ss,s.sm) (hg:∀g∈gs,g.sm)
 (hl1:x1.length≤9223372036854775807) (hr1:∀t∈x1,t.r.lm 9223372036854775807) (hq1:∀t∈x1,t.q.length≤9223372036854775807) (hl2:x2.length≤9223372036854775807) (hr2:∀t∈x2,t.r.lm 9223372036854775807) (hq2:∀t∈x2,t.q.length≤9223372036854775807) :
 Pure prog 3 [figA ss gs,iv p,.agg [.sl 4 (x1.map RE.av),.sl 4 (x2.map RE.av)]] (.v (.bool true)):=by
 have cw:=few25 ss gs _ (rlFew ss gs (rlRight ss gs h1 h2 hs hg));have cf:=lwFine x1 x2 hl1 hr1 hq1 hl2 hr2 hq2;have ca:=awake34;have hml:(ss.map RS.av).length=ss.length:=ZCj ..;by_cases hb:ZAt x1 x2=true∧fewB ss gs=true
 ·obtain⟨hb1,hb2⟩:=hb;rw [hb1] at cf;rw [hb2] at cw;obtain⟨hx,e1,e2⟩:=fine_x hr1 hr2 hb1;obtain⟨h8,he,hr⟩:=few_34 hs hb2;have he:=Zmy he;by_cases hp:0≤p∧p < (ss.length:Int)
  ·obtain⟨i,rfl⟩:∃i:Nat,p=i:=⟨p.toNat,zo⟩;have hi:i < ss.length:=zo;have c1:=elElimF gs hi h8 (he i hi) (hr _ (ZCt hi)) hx;have c2:=rlElimF gs hi h8 (he i hi) (hr _ (ZCt hi)) hx;rw [e1,e2] at cf ⊢;by_cases hz:(elT (elZ ss i hi (x1.map RE.rt,x2.map RE.rt))).1=0
   ·rw [ZCh hz] at c1 c2;obtain⟨g1,g2,g3,g4,g5,g6,g7⟩:=elZ_ok hi h8 (he i hi) (hr _ (ZCt hi)) (hx.ahead i) (w:=(elT (elZ ss i hi (x1.map RE.rt,x2.map RE.rt))).2) (by rw [←hz]);exact lwElO _ _ _ _ _ _ i cf cw ca c1 c2 (rxSame _ _ g4.qk g5.qk zo zo zo zo zo zo)
   ·rw [ZCg hz] at c1 c2;exact lwElE _ _ _ _ i _ hz cf cw ca c1 c2
  ·have hb:p < 0∨((ss.map RS.av).length:Int)≤p:=by rw [hml];omega
   exact lwElE _ _ _ _ p 2 zd cf cw ca (elElR _ _ _ _ p hb) (rlElR _ _ _ _ p hb)
 ·refine lwElN _ _ _ _ p _ _ ?_ cf cw ca
  cases h1:ZAt x1 x2 with
  | false=>exact .inl rfl
  | true=>exact .inr (by cases h2:fewB ss gs with
    | false=>rfl
    | true=>exact absurd ⟨h1,h2⟩ hb)
theorem saidElims (xs:List AV) (h:ShapeL prog 1048576 9 [25,3,29] xs):Pure prog 3 xs (.v (.bool true)):=by
 obtain⟨x,bs,rfl,h1,h⟩:=h.inv;obtain⟨y,bs,rfl,h2,h⟩:=h.inv;obtain⟨u,bs,rfl,h4,h⟩:=h.inv;obtain rfl:=h.inv0;obtain⟨ss,gs,e,hl,kl,hq,kq⟩:=shFigure h1;obtain⟨p,rfl,_⟩:=Zdh underlying3 h2;obtain⟨x1,x2,rfl,⟨b1,b2,b3⟩,d1,d2,d3⟩:=shQFrac h4;rw [e,Zkt agInt,Zfw underlying29];exact lawElims ss gs p x1 x2 zo zo (λs hs=>⟨Zn1 (hq s hs).1 zd,ZCk (hq s hs).2.1 zd,ZCk (hq s hs).2.2 zd⟩) (λg hg=>⟨Zn1 (kq g hg).1 zd,ZCk (kq g hg).2 zd⟩)
  zo (λt ht=>Zn1 (b2 t ht) zd) (λt ht=>ZCk (b3 t ht) zd) zo (λt ht=>Zn1 (d2 t ht) zd) (λt ht=>ZCk (d3 t ht) zd)
end Go.Proofs.YtpkcophcldjboaaGreatDoor
