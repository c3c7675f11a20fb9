/- Contracts of the functions that the law reaches, and the rules by which they are walked. They say what a call hands back for every input within the bounds that each names; no other condition. -/
import Derived.Test.YtkefeinbjbeidaaGreatDoorBm11
set_option linter.unusedSimpArgs false
set_option linter.unusedVariables false
set_option maxRecDepth 20000
set_option maxHeartbeats 16000000
namespace Go.Proofs.YtkefeinbjbeidaaGreatDoor
open Go Go.RowKit Go.Pg Go.Pol Go.Proofs.Tryz
attribute [-bool_to_prop] Bool.and_eq_decide Bool.or_eq_decide Bool.decide_beq_decide decide_eq_decide
attribute [go_sem] zSlR
attribute [local go_sem] Zbp Zaq Zat Zau Zu9 Za5 Zbv Za8 Zba Zb8 Zbm Zbn Zct Zcb Zca Zb9 Zcu Zwz ZAv Zot Zqd Zwd
theorem plNormV (p q:PQ) (a b x:Rat) (c1:Pure prog 153 [p.av,q.av] (ptQ a b)) (c2:Pure prog 215 [ptQ a b] (ratQ x)):Pure prog 148 [p.av,q.av] (ratQ x):=by
 obtain⟨p1,p2⟩:=p;obtain⟨q1,q2⟩:=q
 try simp only at *
 refine pI func148 rfl ntmps148 results148 call148 ?_;(focus (refine wkap w_t (w_2 c1 c2) (w_r 0) ?_;(repeat' first|exact w_t|apply w_l);all_goals intros));all_goals exact gL
theorem plSqV (a b x:Rat) (c1:Pure prog 155 [ptQ a b,ptQ a b] (ratQ x)):Pure prog 215 [ptQ a b] (ratQ x):=by
 refine pI func215 rfl ntmps215 results215 call215 ?_;(focus (refine wkap w_t (w_1 c1) (w_r 0) ?_;(repeat' first|exact w_t|apply w_l);all_goals intros));all_goals exact gL
theorem Ztg (p q:PQ) {j:Nat} (hp:p.sz j) (hq:q.sz j) (hj:j≤10000):Pure prog 148 [p.av,q.av] (ratQ (dotP p q p q)) :=
 plNormV p q _ _ _ (Zo7 p.1 p.2 q.1 q.2 hp.1 hp.2 hq.1 hq.2 zo) (plSqV _ _ _ (plDot (q.1 - p.1) (q.2 - p.2) (q.1 - p.1) (q.2 - p.2) (hq.1.sub hp.1) (hq.2.sub hp.2) (hq.1.sub hp.1) (hq.2.sub hp.2) zo))
theorem Zin (A:List AV):Pure prog 147 [.sl 3 A] (.sl 3 A):=by
 refine pI func147 rfl ntmps147 results147 call147 ?_;(focus (refine wkap w_t w_t (w_r 0) ?_;(repeat' first|exact w_t|apply w_l);all_goals intros));all_goals exact gL
theorem prTwiceV (a x:Rat) (bo:Bool) (n m:List Nat) (c1:Pure prog 27 [iv 2] (.agg [.v (.bool bo),lim n,lim m])) (c2:Pure prog 51 [.agg [.v (.bool bo),lim n,lim m],ratQ a] (ratQ x)):Pure prog 149 [ratQ a] (ratQ x):=by
 refine pI func149 rfl ntmps149 results149 call149 ?_;(focus (refine wkad w_t (w_2 c1 c2) (w_1 (w_d 1 [(0,.agg [.v (.bool bo),lim n,lim m]),(2,ratQ x)] [] [2])) ?_;(repeat' first|exact w_t|apply w_l);all_goals intros));all_goals exact gL
theorem Zx6 (a:Rat) {j:Nat} (ha:Sz a j) (hj:j≤100000):Pure prog 149 [ratQ a] (ratQ (2*a)):=prTwiceV a _ _ _ _ (Zk6 2 zo) (Zfo 2 a Zgo ha zo zo)
theorem prLeanV (p0 p1 p2 p3 p4 p5 p6 p7:PQ) (a b c d u v x:Rat) (c1:Pure prog 91 [p0.av,p1.av,p2.av,p3.av] (ratQ a)) (c2:Pure prog 92 [p4.av,p5.av,p6.av,p7.av] (ratQ b)) (c3:Pure prog 51 [ratQ a,ratQ b] (ratQ u)) (c4:Pure prog 91 [p4.av,p5.av,p6.av,p7.av] (ratQ c)) (c5:Pure prog 92 [p0.av,p1.av,p2.av,p3.av] (ratQ d)) (c6:Pure prog 51 [ratQ c,ratQ d] (ratQ v)) (c7:Pure prog 115 [ratQ u,ratQ v] (ratQ x)):Pure prog 150 [.sl 6 [p0.av,p1.av,p2.av,p3.av,p4.av,p5.av,p6.av,p7.av]] (ratQ x):=by
 obtain⟨x0,y0⟩:=p0;obtain⟨x1,y1⟩:=p1;obtain⟨x2,y2⟩:=p2;obtain⟨x3,y3⟩:=p3;obtain⟨x4,y4⟩:=p4;obtain⟨x5,y5⟩:=p5;obtain⟨x6,y6⟩:=p6;obtain⟨x7,y7⟩:=p7
 try simp only at *
 refine pI func150 rfl ntmps150 results150 call150 ?_;(focus (refine wkax w_t (w_6 c1 c2 c3 c4 c5 c6) (w_2 (w_d 1 [(12,ratQ a),(25,ratQ b),(26,ratQ u)] [] []) (w_d 2 [(12,ratQ c),(25,ratQ d),(26,ratQ v)] [] [])) w_t (w_1 c7) w_t w_y (w_r 0) ?_;(repeat' first|exact w_t|apply w_l);all_goals intros));all_goals exact gL
theorem prLean (p0 p1 p2 p3 p4 p5 p6 p7:PQ) {j:Nat} (h0:p0.sz j) (h1:p1.sz j) (h2:p2.sz j) (h3:p3.sz j) (h4:p4.sz j) (h5:p5.sz j) (h6:p6.sz j) (h7:p7.sz j) (hj:j≤1000):Pure prog 150 [.sl 6 [p0.av,p1.av,p2.av,p3.av,p4.av,p5.av,p6.av,p7.av]] (ratQ (lnP p0 p1 p2 p3 p4 p5 p6 p7)) :=
 have s1:=Ze0 h0 h1 h2 h3;have s2:=Zda h4 h5 h6 h7;have s3:=Ze0 h4 h5 h6 h7;have s4:=Zda h0 h1 h2 h3
 prLeanV _ _ _ _ _ _ _ _ _ _ _ _ _ _ _ (Zio p0 p1 p2 p3 h0 h1 h2 h3 zo) (Zth p4 p5 p6 p7 h4 h5 h6 h7 zo) (Zfo _ _ s1 s2 zo zo) (Zio p4 p5 p6 p7 h4 h5 h6 h7 zo) (Zth p0 p1 p2 p3 h0 h1 h2 h3 zo) (Zfo _ _ s3 s4 zo zo) (Zgt _ _ (s1.mul s2) (s3.mul s4) zo zo)
theorem prVal1 (p0 p1 p2:PQ) (ar:List AV) (bo:Bool) (n m:List Nat) (x:Rat) (c1:Pure prog 91 [p0.av,p1.av,p0.av,p2.av] (ratQ x)):Pure prog 89 [.agg [iv 1,.sl 1 ar,.v (.bool bo),lim n,lim m],.sl 6 [p0.av,p1.av,p2.av]] (.sl 3 [ratQ x]):=by
 have cl:=Zin [ratQ x];obtain⟨x0,y0⟩:=p0;obtain⟨x1,y1⟩:=p1;obtain⟨x2,y2⟩:=p2
 try simp only at *
 refine pI func89 rfl ntmps89 results89 call89 ?_;(focus (refine wkad w_t (w_2 c1 cl) (w_1 (w_d 3 [(12,ratQ x),(13,.sl 3 [ratQ x]),(14,.sl 3 [ratQ x])] [] [])) ?_;(repeat' first|exact w_t|apply w_l);all_goals intros));all_goals exact gL
theorem prVal2 (p0 p1 p2 p3:PQ) (ar:List AV) (bo:Bool) (n m:List Nat) (x:Rat) (c1:Pure prog 91 [p0.av,p1.av,p2.av,p3.av] (ratQ x)):Pure prog 89 [.agg [iv 2,.sl 1 ar,.v (.bool bo),lim n,lim m],.sl 6 [p0.av,p1.av,p2.av,p3.av]] (.sl 3 [ratQ x]):=by
 have cl:=Zin [ratQ x];obtain⟨x0,y0⟩:=p0;obtain⟨x1,y1⟩:=p1;obtain⟨x2,y2⟩:=p2;obtain⟨x3,y3⟩:=p3
 try simp only at *
 refine pI func89 rfl ntmps89 results89 call89 ?_;(focus (refine wkad w_t (w_2 c1 cl) (w_1 (w_d 5 [(12,ratQ x),(13,.sl 3 [ratQ x]),(14,.sl 3 [ratQ x])] [] [])) ?_;(repeat' first|exact w_t|apply w_l);all_goals intros));all_goals exact gL
theorem prVal3 (p0 p1 p2 p3:PQ) (ar:List AV) (bo:Bool) (n m:List Nat) (x:Rat) (c1:Pure prog 92 [p0.av,p1.av,p2.av,p3.av] (ratQ x)):Pure prog 89 [.agg [iv 3,.sl 1 ar,.v (.bool bo),lim n,lim m],.sl 6 [p0.av,p1.av,p2.av,p3.av]] (.sl 3 [ratQ x]):=by
 have cl:=Zin [ratQ x];obtain⟨x0,y0⟩:=p0;obtain⟨x1,y1⟩:=p1;obtain⟨x2,y2⟩:=p2;obtain⟨x3,y3⟩:=p3
 try simp only at *
 refine pI func89 rfl ntmps89 results89 call89 ?_;(focus (refine wkad w_t (w_2 c1 cl) (w_1 (w_d 7 [(12,ratQ x),(13,.sl 3 [ratQ x]),(14,.sl 3 [ratQ x])] [] [])) ?_;(repeat' first|exact w_t|apply w_l);all_goals intros));all_goals exact gL
theorem prVal4 (p0 p1 p2 p3:PQ) (ar:List AV) (bo:Bool) (n m:List Nat) (a b x:Rat) (c1:Pure prog 148 [p0.av,p1.av] (ratQ a)) (c2:Pure prog 148 [p2.av,p3.av] (ratQ b)) (c3:Pure prog 115 [ratQ a,ratQ b] (ratQ x)):Pure prog 89 [.agg [iv 4,.sl 1 ar,.v (.bool bo),lim n,lim m],.sl 6 [p0.av,p1.av,p2.av,p3.av]] (.sl 3 [ratQ x]):=by
 have cl:=Zin [ratQ x];obtain⟨x0,y0⟩:=p0;obtain⟨x1,y1⟩:=p1;obtain⟨x2,y2⟩:=p2;obtain⟨x3,y3⟩:=p3
 try simp only at *
 refine pI func89 rfl ntmps89 results89 call89 ?_;(focus (refine wkad w_t (w_4 c1 c2 c3 cl) (w_1 (w_d 9 [(6,ratQ a),(13,ratQ b),(14,ratQ x),(15,.sl 3 [ratQ x]),(16,.sl 3 [ratQ x])] [] [])) ?_;(repeat' first|exact w_t|apply w_l);all_goals intros));all_goals exact gL
theorem prVal5 (p0 p1 p2:PQ) (ar:List AV) (bo:Bool) (n m:List Nat) (a b c d x y:Rat) (c1:Pure prog 52 [ratQ p1.1,ratQ p2.1] (ratQ a)) (c2:Pure prog 149 [ratQ p0.1] (ratQ b)) (c3:Pure prog 115 [ratQ a,ratQ b] (ratQ x)) (c4:Pure prog 52 [ratQ p1.2,ratQ p2.2] (ratQ c)) (c5:Pure prog 149 [ratQ p0.2] (ratQ d)) (c6:Pure prog 115 [ratQ c,ratQ d] (ratQ y)):Pure prog 89 [.agg [iv 5,.sl 1 ar,.v (.bool bo),lim n,lim m],.sl 6 [p0.av,p1.av,p2.av]] (.sl 3 [ratQ x,ratQ y]):=by
 have cl:=Zin [ratQ x,ratQ y];obtain⟨x0,y0⟩:=p0;obtain⟨x1,y1⟩:=p1;obtain⟨x2,y2⟩:=p2
 try simp only at *
 refine pI func89 rfl ntmps89 results89 call89 ?_;(focus (refine wkad w_t (w_7 c1 c2 c3 c4 c5 c6 cl) (w_1 (w_d 11 [(8,ratQ a),(13,ratQ b),(14,ratQ x),(23,ratQ c),(28,ratQ d),(29,ratQ y),(30,.sl 3 [ratQ x,ratQ y]),(31,.sl 3 [ratQ x,ratQ y])] [] [])) ?_;(repeat' first|exact w_t|apply w_l);all_goals intros));all_goals exact gL
theorem prVal6 (p0 p1 p2 p3:PQ) (ar:List AV) (bo:Bool) (n m:List Nat) (x:Rat) (c1:Pure prog 150 [.sl 6 [p1.av,p0.av,p1.av,p2.av,p3.av,p0.av,p3.av,p2.av]] (ratQ x)):Pure prog 89 [.agg [iv 6,.sl 1 ar,.v (.bool bo),lim n,lim m],.sl 6 [p0.av,p1.av,p2.av,p3.av]] (.sl 3 [ratQ x]):=by
 have cl:=Zin [ratQ x];obtain⟨x0,y0⟩:=p0;obtain⟨x1,y1⟩:=p1;obtain⟨x2,y2⟩:=p2;obtain⟨x3,y3⟩:=p3
 try simp only at *
 refine pI func89 rfl ntmps89 results89 call89 ?_;(focus (refine wkad w_t (w_2 c1 cl) (w_1 (w_d 13 [(24,.sl 6 [ptQ x1 y1,ptQ x0 y0,ptQ x1 y1,ptQ x2 y2,ptQ x3 y3,ptQ x0 y0,ptQ x3 y3,ptQ x2 y2]),(25,ratQ x),(26,.sl 3 [ratQ x]),(27,.sl 3 [ratQ x])] [] [])) ?_;(repeat' first|exact w_t|apply w_l);all_goals intros));all_goals exact gL
theorem prVal7 (p0 p1 p2 p3 p4 p5 p6 p7:PQ) (ar:List AV) (bo:Bool) (n m:List Nat) (x:Rat) (c1:Pure prog 150 [.sl 6 [p0.av,p1.av,p2.av,p3.av,p4.av,p5.av,p6.av,p7.av]] (ratQ x)):Pure prog 89 [.agg [iv 7,.sl 1 ar,.v (.bool bo),lim n,lim m],.sl 6 [p0.av,p1.av,p2.av,p3.av,p4.av,p5.av,p6.av,p7.av]] (.sl 3 [ratQ x]):=by
 have cl:=Zin [ratQ x];obtain⟨x0,y0⟩:=p0;obtain⟨x1,y1⟩:=p1;obtain⟨x2,y2⟩:=p2;obtain⟨x3,y3⟩:=p3;obtain⟨x4,y4⟩:=p4;obtain⟨x5,y5⟩:=p5;obtain⟨x6,y6⟩:=p6;obtain⟨x7,y7⟩:=p7
 try simp only at *
 refine pI func89 rfl ntmps89 results89 call89 ?_;(focus (refine wkax w_t (w_1 c1) w_t (w_1 cl) w_t w_t w_y (w_r 0) ?_;(repeat' first|exact w_t|apply w_l);all_goals intros));all_goals exact gL
theorem prVal8 (p0 p1:PQ) (ar:List AV) (bo:Bool) (n m:List Nat) (x y:Rat) (c1:Pure prog 115 [ratQ p0.1,ratQ p1.1] (ratQ x)) (c2:Pure prog 115 [ratQ p0.2,ratQ p1.2] (ratQ y)):Pure prog 89 [.agg [iv 8,.sl 1 ar,.v (.bool bo),lim n,lim m],.sl 6 [p0.av,p1.av]] (.sl 3 [ratQ x,ratQ y]):=by
 have cl:=Zin [ratQ x,ratQ y];obtain⟨x0,y0⟩:=p0;obtain⟨x1,y1⟩:=p1
 try simp only at *
 refine pI func89 rfl ntmps89 results89 call89 ?_;(focus (refine wkad w_t (w_3 c1 c2 cl) (w_1 (w_d 17 [(8,ratQ x),(17,ratQ y),(18,.sl 3 [ratQ x,ratQ y]),(19,.sl 3 [ratQ x,ratQ y])] [] [])) ?_;(repeat' first|exact w_t|apply w_l);all_goals intros));all_goals exact gL
theorem prVal9 (p0 p1 p2 p3:PQ) (ar:List AV) (bo:Bool) (n m:List Nat) (a b c x:Rat) (c1:Pure prog 148 [p0.av,p1.av] (ratQ a)) (c2:Pure prog 148 [p2.av,p3.av] (ratQ b)) (c3:Pure prog 51 [.agg [.v (.bool bo),lim n,lim m],ratQ b] (ratQ c)) (c4:Pure prog 115 [ratQ a,ratQ c] (ratQ x)):Pure prog 89 [.agg [iv 9,.sl 1 ar,.v (.bool bo),lim n,lim m],.sl 6 [p0.av,p1.av,p2.av,p3.av]] (.sl 3 [ratQ x]):=by
 have cl:=Zin [ratQ x];obtain⟨x0,y0⟩:=p0;obtain⟨x1,y1⟩:=p1;obtain⟨x2,y2⟩:=p2;obtain⟨x3,y3⟩:=p3
 try simp only at *
 refine pI func89 rfl ntmps89 results89 call89 ?_;(focus (refine wkad w_t (w_5 c1 c2 c3 c4 cl) (w_1 (w_d 18 [(6,ratQ a),(15,ratQ b),(16,ratQ c),(17,ratQ x),(18,.sl 3 [ratQ x]),(19,.sl 3 [ratQ x])] [] [])) ?_;(repeat' first|exact w_t|apply w_l);all_goals intros));all_goals exact gL
theorem Zu6 (ps:List PQ) {ar:List Int} {i:Nat} (h:i < ar.length):((ar.take (i+1)).map (ptI ps)).map PQ.av=((ar.take i).map (ptI ps)).map PQ.av++[(ptI ps (gI ar i)).av]:=by
 rw [ZD1 h,ZCe,ZCe];congr 3;unfold gI;rw [ZB6,ZBx h];rfl
theorem Zx4 (k:Int) (ar:List Int) (bo:Bool) (n m:List Nat) (ps:List PQ) (R:List AV) (hl:ar.length≤8) (hp:ps.length≤1000000) (ha:∀i,i < ar.length→0≤gI ar i∧gI ar i < (ps.length:Int)) (c0:Pure prog 22 [.agg [iv k,.sl 1 (ar.map iv),.v (.bool bo),lim n,lim m],iv ps.length] (iv 0)) (c1:Pure prog 89 [.agg [iv k,.sl 1 (ar.map iv),.v (.bool bo),lim n,lim m],.sl 6 (((ar.take ar.length).map (ptI ps)).map PQ.av)] (.sl 3 R)):Pure prog 49 [.agg [iv k,.sl 1 (ar.map iv),.v (.bool bo),lim n,lim m],.sl 6 (ps.map PQ.av)] (.tup [.sl 3 R,iv 0]):=by
 have hpl:(ps.map PQ.av).length=ps.length:=ZBt ..;have har:(ar.map iv).length=ar.length:=ZBt ..;have hga:∀i,i < ar.length→(ar.map iv).getD i .u=iv (gI ar i):=λi h=>by
  unfold gI;rw [ZB6,ZCt,ZB6,ZBx h];rfl
 have hgp:∀j:Nat,j < ps.length→(ps.map PQ.av).getD j .u=(ptI ps j).av:=λj h=>by
  rw [ZB6,ZCt,ZBx h];show(ps[j]).av=(ps.getD j (0,0)).av;rw [ZB6,ZBx h];rfl
 have hst:=λi (h:i < ar.length)=>Zu6 ps h;have ht0:((ar.take 0).map (ptI ps)).map PQ.av=[]:=by rw [ZFb];rfl
 have htl:∀i,(((ar.take i).map (ptI ps)).map PQ.av).length≤8:=λi=>by rw [ZBt,ZBt,ZB9];omega
 generalize hPR:(λc'=>((ar.take c').map (ptI ps)).map PQ.av)=PR at *;have hPR:∀i,((ar.take i).map (ptI ps)).map PQ.av=PR i:=λi=>by rw [←hPR]
 simp only [hPR] at hst htl ht0 c1 ⊢;clear hPR;generalize ps.map PQ.av=A at *;generalize ar.map iv=L at *;refine pI func49 rfl ntmps49 results49 call49 ?_;(focus (refine wkap (w_2 hpl har) (w_1 c0) (w_r 0) ?_;(repeat' first|exact w_t|apply w_l);all_goals intros));rename_i g2;refine Zff (Frz.nilOwn (d:=7) 30 6 87 (gC)) ?_;refine Zad (ι:=Nat) (λi e M=>i≤ar.length∧(e 1=.sl 6 A∧e 2=.pbox 2 g2 0∧M 2=some (.box g2 30 [iv k,.sl 1 L,.v (.bool bo),lim n,lim m] false))∧e 18=.sl 1 L∧e 19=iv ar.length∧e 20=iv i∧∃sv,e 7=.own 30 sv∧M 30=some (.row sv 87 6 (PR i) 0)) (λi=>ar.length - i) 0 zr ?_ ?_
 ·rintro i e M ⟨hi,⟨e1,e2,m2⟩,e18,e19,e20,sv,e7,m30⟩
  have hol:=htl i;by_cases hlt:i < ar.length
  ·have hgi:=hga i hlt;obtain⟨a1,a2⟩:=ha i hlt;have hs:=hst i hlt;obtain⟨j,hj⟩:∃j:Nat,gI ar i=j:=⟨(gI ar i).toNat,zo⟩;rw [hj] at hgi a2 hs;have hjl:j < ps.length:=zo;have hgj:=hgp j hjl;clear hga hgp hst ha;generalize ptI ps (j:Int)=q at *;obtain⟨x,y⟩:=q;generalize PR i=P0 at *;(focus (refine wkap (w_14 e1 e2 m2 e18 e19 e20 e7 m30 hpl har hgi hgj hjl hlt) w_t (w_r 0) ?_;(repeat' first|exact w_t|apply w_l);all_goals intros));all_goals refine⟨i+1,⟨zo,⟨gW e1,gW e2,gW m2⟩,gW e18,gW e19,gS,_,gW e7,?_⟩,zo⟩
   all_goals (rw [hs];exact gC)
  ·have hi2:i=ar.length:=zo;subst hi2;(focus (refine wkax (w_9 e1 e2 m2 e18 e19 e20 e7 m30 har) w_t w_t (w_1 c1) w_t w_t w_y (w_r 0) ?_;(repeat' first|exact w_t|apply w_l);all_goals intros));all_goals exact gL
 ·exact⟨zo,⟨gC,gC,gC⟩,gC,gW har,gC,_,gC,gW ht0⟩
theorem Zx5 (k:Int) (ar:List Int) (bo:Bool) (n m:List Nat) (A:List AV) (e:Int) (he:e≠0) (c0:Pure prog 22 [.agg [iv k,.sl 1 (ar.map iv),.v (.bool bo),lim n,lim m],iv A.length] (iv e)):Pure prog 49 [.agg [iv k,.sl 1 (ar.map iv),.v (.bool bo),lim n,lim m],.sl 6 A] (.tup [.v (.slice none 0 0),iv e]):=by
 refine pI func49 rfl ntmps49 results49 call49 ?_;(focus (refine wkap (w_1 he) (w_1 c0) (w_r 0) ?_;(repeat' first|exact w_t|apply w_l);all_goals intros));all_goals exact gL
theorem prHoldsE (e:Int) (he:e≠0) (k:Int) (L A:List AV) (bo:Bool) (n m:List Nat) (c0:Pure prog 49 [.agg [iv k,.sl 1 L,.v (.bool bo),lim n,lim m],.sl 6 A] (.tup [.v (.slice none 0 0),iv e])):Pure prog 16 [.agg [iv k,.sl 1 L,.v (.bool bo),lim n,lim m],.sl 6 A] (.tup [.v (.bool false),iv e]):=by
 refine pI func16 rfl ntmps16 results16 call16 ?_;(focus (refine wkap (w_1 he) (w_1 c0) (w_r 0) ?_;(repeat' first|exact w_t|apply w_l);all_goals intros));all_goals exact gL
theorem prHolds1 (k:Int) (L A:List AV) (bo:Bool) (n m:List Nat) (x:Rat) {j:Nat} (hx:Sz x j) (hj:j≤1000000) (c0:Pure prog 49 [.agg [iv k,.sl 1 L,.v (.bool bo),lim n,lim m],.sl 6 A] (.tup [.sl 3 [ratQ x],iv 0])):Pure prog 16 [.agg [iv k,.sl 1 L,.v (.bool bo),lim n,lim m],.sl 6 A] (.tup [.v (.bool (decide (x=0))),iv 0]):=by
 have cs:=Zck x hx zo;by_cases h:x=0
 ·have hz:x.num.sign=0:=by rw [h];rfl
  rw [hz] at cs;rw [ZBu h];clear h hz hx;refine pI func16 rfl ntmps16 results16 call16 ?_;(focus (refine wkap w_t (w_2 c0 cs) (w_r 3) ?_;(repeat' first|exact w_t|apply w_l);all_goals intros));all_goals exact gL
 ·have hz:¬x.num.sign=0:=by rw [Zdb];exact h
  rw [ZBv h];generalize x.num.sign=z at *;refine pI func16 rfl ntmps16 results16 call16 ?_;(focus (refine wkap (w_1 hz) (w_2 c0 cs) (w_r 3) ?_;(repeat' first|exact w_t|apply w_l);all_goals intros));all_goals exact gL
theorem prHolds2 (k:Int) (L A:List AV) (bo:Bool) (n m:List Nat) (x y:Rat) {j:Nat} (hx:Sz x j) (hy:Sz y j) (hj:j≤1000000) (c0:Pure prog 49 [.agg [iv k,.sl 1 L,.v (.bool bo),lim n,lim m],.sl 6 A] (.tup [.sl 3 [ratQ x,ratQ y],iv 0])):Pure prog 16 [.agg [iv k,.sl 1 L,.v (.bool bo),lim n,lim m],.sl 6 A] (.tup [.v (.bool (decide (x=0) && decide (y=0))),iv 0]):=by
 have cs:=Zck x hx zo;have ct:=Zck y hy zo;by_cases h:x=0
 ·have hz:x.num.sign=0:=by rw [h];rfl
  rw [hz] at cs;rw [ZBu h,ZD0];by_cases g:y=0
  ·have gz:y.num.sign=0:=by rw [g];rfl
   rw [gz] at ct;rw [ZBu g];clear h hz hx g gz hy;refine pI func16 rfl ntmps16 results16 call16 ?_;(focus (refine wkax w_t (w_1 c0) w_t w_t (w_2 cs ct) w_t w_y (w_r 4) ?_;(repeat' first|exact w_t|apply w_l);all_goals intros));all_goals exact gL
  ·have gz:¬y.num.sign=0:=by rw [Zdb];exact g
   rw [ZBv g];clear h hz hx g hy;generalize y.num.sign=z at *;refine pI func16 rfl ntmps16 results16 call16 ?_;(focus (refine wkax (w_1 gz) (w_1 c0) w_t w_t (w_2 cs ct) w_t w_y (w_r 4) ?_;(repeat' first|exact w_t|apply w_l);all_goals intros));all_goals exact gL
 ·have hz:¬x.num.sign=0:=by rw [Zdb];exact h
  rw [ZBv h,ZC1];clear h hx ct hy;generalize x.num.sign=z at *;refine pI func16 rfl ntmps16 results16 call16 ?_;(focus (refine wkap (w_1 hz) (w_2 c0 cs) (w_r 4) ?_;(repeat' first|exact w_t|apply w_l);all_goals intros));all_goals exact gL
theorem ptI_sz {ps:List PQ} (h:∀p∈ps,p.sz 2) (i:Int):(ptI ps i).sz 2:=by
 show PQ.sz (ps.getD i.toNat (0,0)) 2;by_cases hi:i.toNat < ps.length
 ·rw [ZB6,ZBx hi];exact h _ (ZBy hi)
 ·rw [ZB6,ZDa zo];exact⟨(Zox (.inr (.inl rfl))).mono zd,(Zox (.inr (.inl rfl))).mono zd⟩
theorem prVals (g:RG) (ps:List PQ) (hk:arG g.k≠0) (hl:(g.ar.length:Int)=arG g.k) (hr:g.r.lm 2) (h9:g.k=9→g.r.ok=true) (hp:∀p∈ps,p.sz 2):Pure prog 89 [g.av,.sl 6 (((g.ar.take g.ar.length).map (ptI ps)).map PQ.av)] (.sl 3 ((prV g.k g.r.q λi=>ptI ps (gI g.ar i)).map ratQ)):=by
 obtain⟨k,ar,r⟩:=g;simp only at hk hl h9 hr ⊢;have z:=ptI_sz hp;rcases Zib hk with rfl | rfl | rfl | rfl | rfl | rfl | rfl | rfl | rfl
 ·obtain⟨a,b,c,rfl⟩:=li3 (show ar.length=3 from Int.ofNat.inj hl);exact prVal1 _ _ _ _ _ _ _ _ (Zio (ptI ps a) (ptI ps b) (ptI ps a) (ptI ps c) (z _) (z _) (z _) (z _) zo)
 ·obtain⟨a,b,c,d,rfl⟩:=li4 (show ar.length=4 from Int.ofNat.inj hl);exact prVal2 _ _ _ _ _ _ _ _ _ (Zio (ptI ps a) (ptI ps b) (ptI ps c) (ptI ps d) (z _) (z _) (z _) (z _) zo)
 ·obtain⟨a,b,c,d,rfl⟩:=li4 (show ar.length=4 from Int.ofNat.inj hl);exact prVal3 _ _ _ _ _ _ _ _ _ (Zth (ptI ps a) (ptI ps b) (ptI ps c) (ptI ps d) (z _) (z _) (z _) (z _) zo)
 ·obtain⟨a,b,c,d,rfl⟩:=li4 (show ar.length=4 from Int.ofNat.inj hl);have u:=Zda (z a) (z b) (z a) (z b);have v:=Zda (z c) (z d) (z c) (z d);exact prVal4 _ _ _ _ _ _ _ _ _ _ _ (Ztg (ptI ps a) (ptI ps b) (z _) (z _) zo) (Ztg (ptI ps c) (ptI ps d) (z _) (z _) zo) (Zgt _ _ u v zo zo)
 ·obtain⟨a,b,c,rfl⟩:=li3 (show ar.length=3 from Int.ofNat.inj hl);have s1:=(z b).1.add (z c).1;have s2:=(z b).2.add (z c).2;have t1:=(Zgo).mul (z a).1;have t2:=(Zgo).mul (z a).2;exact prVal5 (ptI ps a) (ptI ps b) (ptI ps c) _ _ _ _ _ _ _ _ _ _ (Zju _ _ (z b).1 (z c).1 zo zo) (Zx6 _ (z a).1 zo) (Zgt _ _ s1 t1 zo zo) (Zju _ _ (z b).2 (z c).2 zo zo) (Zx6 _ (z a).2 zo) (Zgt _ _ s2 t2 zo zo)
 ·obtain⟨a,b,c,d,rfl⟩:=li4 (show ar.length=4 from Int.ofNat.inj hl);exact prVal6 (ptI ps a) (ptI ps b) (ptI ps c) (ptI ps d) _ _ _ _ _ (prLean _ _ _ _ _ _ _ _ (z _) (z _) (z _) (z _) (z _) (z _) (z _) (z _) zo)
 ·obtain⟨a,b,c,d,e,f,g,i,rfl⟩:=li8 (show ar.length=8 from Int.ofNat.inj hl);exact prVal7 (ptI ps a) (ptI ps b) (ptI ps c) (ptI ps d) (ptI ps e) (ptI ps f) (ptI ps g) (ptI ps i) _ _ _ _ _ (prLean _ _ _ _ _ _ _ _ (z _) (z _) (z _) (z _) (z _) (z _) (z _) (z _) zo)
 ·obtain⟨a,b,rfl⟩:=li2 (show ar.length=2 from Int.ofNat.inj hl);exact prVal8 (ptI ps a) (ptI ps b) _ _ _ _ _ _ (Zgt _ _ (z a).1 (z b).1 zo zo) (Zgt _ _ (z a).2 (z b).2 zo zo)
 ·obtain⟨a,b,c,d,rfl⟩:=li4 (show ar.length=4 from Int.ofNat.inj hl);obtain⟨e,hz⟩:=RQ.ok_av hr (h9 rfl);have u:=Zda (z a) (z b) (z a) (z b);have v:=Zda (z c) (z d) (z c) (z d);have c3:=Zfo _ _ hz v zo zo;rw [←e] at c3;exact prVal9 (ptI ps a) (ptI ps b) (ptI ps c) (ptI ps d) _ _ _ _ _ _ _ _ (Ztg _ _ (z _) (z _) zo) (Ztg _ _ (z _) (z _) zo) c3 (Zgt _ _ u (hz.mul v) zo zo)
theorem go_okn {g:RG} {n:Nat} (h:errG g n=0):arG g.k≠0∧(g.ar.length:Int)=arG g.k∧(∀i,i < g.ar.length→0≤gI g.ar i∧gI g.ar i < (n:Int))∧(g.k=9→g.r.ok=true):=by
 unfold errG at h;split at h
 ·cases h
 ·rename_i h1;split at h
  ·cases h
  ·rename_i h2;split at h
   ·cases h
   ·rename_i h3;split at h
    ·cases h
    ·rename_i h4;refine⟨h1,Classical.not_not.1 h2,λi hi=>Zri (Bool.not_eq_true _ ▸ h3) hi,λh9=>?_⟩
     cases hr:g.r.ok with
     | true=>rfl
     | false=>exact absurd (Or.inl ⟨h9,hr⟩) h4
theorem lnP_sz {a b c d e f g h:PQ} {j:Nat} (ha:a.sz j) (hb:b.sz j) (hc:c.sz j) (hd:d.sz j) (he:e.sz j) (hf:f.sz j) (hg:g.sz j) (hh:h.sz j):Sz (lnP a b c d e f g h) (32*j+21):=by
 unfold lnP;exact(((Ze0 ha hb hc hd).mul (Zda he hf hg hh)).sub ((Ze0 he hf hg hh).mul (Zda ha hb hc hd))).mono zo
theorem prV_sz {k:Int} {r:Rat} {f:Nat→PQ} (hk:arG k≠0) (z:∀i,(f i).sz 2) (hr:k=9→Sz r 2):(∃x,prV k r f=[x]∧Sz x 200)∨(∃x y,prV k r f=[x,y]∧Sz x 200∧Sz y 200):=by
 rcases Zib hk with rfl | rfl | rfl | rfl | rfl | rfl | rfl | rfl | rfl
 ·exact .inl ⟨_,rfl,(Ze0 (z _) (z _) (z _) (z _)).mono zo⟩
 ·exact .inl ⟨_,rfl,(Ze0 (z _) (z _) (z _) (z _)).mono zo⟩
 ·exact .inl ⟨_,rfl,(Zda (z _) (z _) (z _) (z _)).mono zo⟩
 ·exact .inl ⟨_,rfl,((Zda (z _) (z _) (z _) (z _)).sub (Zda (z _) (z _) (z _) (z _))).mono zo⟩
 ·exact .inr ⟨_,_,rfl,(((z 1).1.add (z 2).1).sub (Zgo.mul (z 0).1)).mono zo,(((z 1).2.add (z 2).2).sub (Zgo.mul (z 0).2)).mono zo⟩
 ·exact .inl ⟨_,rfl,(lnP_sz (z _) (z _) (z _) (z _) (z _) (z _) (z _) (z _)).mono zo⟩
 ·exact .inl ⟨_,rfl,(lnP_sz (z _) (z _) (z _) (z _) (z _) (z _) (z _) (z _)).mono zo⟩
 ·exact .inr ⟨_,_,rfl,((z 0).1.sub (z 1).1).mono zo,((z 0).2.sub (z 1).2).mono zo⟩
 ·exact .inl ⟨_,rfl,((Zda (z _) (z _) (z _) (z _)).sub ((hr rfl).mul (Zda (z _) (z _) (z _) (z _)))).mono zo⟩
def hoR (g:RG) (ps:List PQ):AV:=if errG g ps.length=0 then .tup [.v (.bool ((prV g.k g.r.q λi=>ptI ps (gI g.ar i)).all λa=>decide (a=0))),iv 0] else .tup [.v (.bool false),iv (errG g ps.length)]
theorem prHolds (g:RG) (ps:List PQ) (hs:g.sm) (hr:g.r.lm 2) (hpl:ps.length≤1000000) (hp:∀p∈ps,p.sz 2):Pure prog 16 [g.av,.sl 6 (ps.map PQ.av)] (hoR g ps):=by
 have c0:=Zrf g ps.length zo hs;unfold hoR;by_cases h:errG g ps.length=0
 ·rw [ZBm h];rw [h] at c0;obtain⟨hk,hl,ha,h9⟩:=go_okn h;have c1:=prVals g ps hk hl hr h9 hp
  have h8:g.ar.length≤8:=by
   have:arG g.k≤8:=by
    unfold arG
    repeat' split
    all_goals omega
   omega
  have c2:=Zx4 g.k g.ar g.r.s g.r.l g.r.d ps _ h8 hpl ha c0 c1;rcases prV_sz (r:=g.r.q) (f:=λi=>ptI ps (gI g.ar i)) hk (λi=>ptI_sz hp _) (λe=>(RQ.ok_av hr (h9 e)).2) with⟨x,e,hx⟩ | ⟨x,y,e,hx,hy⟩
  ·rw [e] at c2 ⊢;have:=prHolds1 g.k (g.ar.map iv) (ps.map PQ.av) g.r.s g.r.l g.r.d x hx zo c2;rw [show([x].all λa=>decide (a=0))=decide (x=0) from by rw [ZFc,List.all_nil,ZF2]];exact this
  ·rw [e] at c2 ⊢;have:=prHolds2 g.k (g.ar.map iv) (ps.map PQ.av) g.r.s g.r.l g.r.d x y hx hy zo c2;rw [show([x,y].all λa=>decide (a=0))=(decide (x=0) && decide (y=0)) from by rw [ZFc,ZFc,List.all_nil,ZF2]];exact this
 ·rw [ZBl h];have e:((ps.map PQ.av).length:Int)=ps.length:=by rw [ZBt]
  exact prHoldsE _ h _ _ _ _ _ _ (Zx5 _ _ _ _ _ _ _ h (by rw [e];exact c0))
theorem xs_go {k:Int} {ar:List Int} {r:Rat} (hk:arG k≠0) (hl:(ar.length:Int)=arG k) (hp:∀i,i < ar.length→pI40 (gI ar i)) (hr:k=9→Sz r 2):XS (goX k ar r):=by
 rcases Zib hk with rfl | rfl | rfl | rfl | rfl | rfl | rfl | rfl | rfl
 ·have h:ar.length=3:=Int.ofNat.inj hl;exact(Zql (hp 0 zo) (hp 1 zo) (hp 2 zo)).s
 ·have h:ar.length=4:=Int.ofNat.inj hl;exact(Zwf (hp 0 zo) (hp 1 zo) (hp 2 zo) (hp 3 zo)).s
 ·have h:ar.length=4:=Int.ofNat.inj hl;exact(Zwe (hp 0 zo) (hp 1 zo) (hp 2 zo) (hp 3 zo)).s
 ·have h:ar.length=4:=Int.ofNat.inj hl;exact((Zii (hp 0 zo) (hp 1 zo) (hp 0 zo)).sub ((Zeh Zil).mul (Zii (hp 2 zo) (hp 3 zo) (hp 2 zo)))).s
 ·have h:ar.length=3:=Int.ofNat.inj hl;exact(((Zii (hp 0 zo) (hp 1 zo) (hp 0 zo)).add (Zii (hp 0 zo) (hp 2 zo) (hp 0 zo))).add ((Zeh Zgo).mul (Zii (hp 1 zo) (hp 0 zo) (hp 2 zo)))).s
 ·have h:ar.length=4:=Int.ofNat.inj hl;exact(((Zql (hp 1 zo) (hp 0 zo) (hp 2 zo)).mul (Zii (hp 0 zo) (hp 3 zo) (hp 2 zo))).sub ((Zql (hp 3 zo) (hp 0 zo) (hp 2 zo)).mul (Zii (hp 0 zo) (hp 1 zo) (hp 2 zo)))).s
 ·have h:ar.length=8:=Int.ofNat.inj hl;exact(((Zwf (hp 0 zo) (hp 1 zo) (hp 2 zo) (hp 3 zo)).mul (Zwe (hp 4 zo) (hp 5 zo) (hp 6 zo) (hp 7 zo))).sub ((Zwf (hp 4 zo) (hp 5 zo) (hp 6 zo) (hp 7 zo)).mul (Zwe (hp 0 zo) (hp 1 zo) (hp 2 zo) (hp 3 zo)))).s
 ·have h:ar.length=2:=Int.ofNat.inj hl;exact(Zii (hp 0 zo) (hp 1 zo) (hp 0 zo)).s
 ·have h:ar.length=4:=Int.ofNat.inj hl;exact((Zii (hp 0 zo) (hp 1 zo) (hp 0 zo)).sub ((Zeh (hr rfl)).mul (Zii (hp 2 zo) (hp 3 zo) (hp 2 zo)))).s
theorem arTiny (k:Int) (L:List AV) (bo:Bool) (l d:List Nat):Pure prog 6 [.agg [iv k,.sl 1 L,.v (.bool bo),lim l,lim d]] (.v (.bool (decide ((L.length:Int)≤20) && (decide ((l.length:Int)≤2) && decide ((d.length:Int)≤2))))):=by
 by_cases h1:(L.length:Int)≤20
 ·rw [ZBu h1,ZD0];by_cases h2:(l.length:Int)≤2
  ·rw [ZBu h2,ZD0];refine pI func6 rfl ntmps6 results6 call6 ?_;(focus (refine wkap (w_2 h1 h2) w_t (w_r 0) ?_;(repeat' first|exact w_t|apply w_l);all_goals intros));all_goals exact gL
  ·rw [ZBv h2,ZC1];refine pI func6 rfl ntmps6 results6 call6 ?_;(focus (refine wkap (w_2 h1 h2) w_t (w_r 0) ?_;(repeat' first|exact w_t|apply w_l);all_goals intros));all_goals exact gL
 ·rw [ZBv h1,ZC1];refine pI func6 rfl ntmps6 results6 call6 ?_;(focus (refine wkap (w_1 h1) w_t (w_r 0) ?_;(repeat' first|exact w_t|apply w_l);all_goals intros));all_goals exact gL
section
attribute [local go_sem] underlying3 underlying4 underlying35 underlying28 underlying24 underlying26 underlying87 underlying186 sz3 by3 z3 Zbp zErr Zaq zRat Zat zNat Zau zInt szB zB szPt byPt zPt Zu9 zVec underlying161 underlying9 underlying22 underlying81 underlying39 underlying30 underlying40 underlying42 szL byL zL Za5 Zbv zStr Za8 Zba Zb8 Zbm Zbn Zct Zcb zFig Zca zSlI Zb9 zSlS Zcu zSlF underlying53 underlying85 Zwz ZAv zSlR Zot Zqd Zwd
end
theorem lwMeans0 (k:Int) (L PS:List AV) (bo:Bool) (l d:List Nat) (t m:Bool) (htm:(t && m)=false) (ct:Pure prog 6 [.agg [iv k,.sl 1 L,.v (.bool bo),lim l,lim d]] (.v (.bool t))) (cm:Pure prog 15 [.sl 6 PS,.v (.slice none 0 0)] (.v (.bool m))) (cA:Pure prog 7 [] (.v (.bool true))):Pure prog 5 [.agg [iv k,.sl 1 L,.v (.bool bo),lim l,lim d],.sl 6 PS] (.v (.bool true)):=by
 cases t with
 | false =>
   refine pI func5 rfl ntmps5 results5 call5 ?_;(focus (refine wkap w_t (w_3 ct cm cA) (w_r 0) ?_;(repeat' first|exact w_t|apply w_l);all_goals intros));all_goals exact gL
 | true =>
   have hm:m=false:=htm;subst hm;refine pI func5 rfl ntmps5 results5 call5 ?_;(focus (refine wkap w_t (w_3 ct cm cA) (w_r 0) ?_;(repeat' first|exact w_t|apply w_l);all_goals intros));all_goals exact gL
theorem lwMeans1 (k:Int) (L PS:List AV) (bo:Bool) (l d:List Nat) (e:Int) (he:e≠0) (ct:Pure prog 6 [.agg [iv k,.sl 1 L,.v (.bool bo),lim l,lim d]] (.v (.bool true))) (cm:Pure prog 15 [.sl 6 PS,.v (.slice none 0 0)] (.v (.bool true))) (ch:Pure prog 16 [.agg [iv k,.sl 1 L,.v (.bool bo),lim l,lim d],.sl 6 PS] (.tup [.v (.bool false),iv e])) (cA:Pure prog 7 [] (.v (.bool true))):Pure prog 5 [.agg [iv k,.sl 1 L,.v (.bool bo),lim l,lim d],.sl 6 PS] (.v (.bool true)):=by
 refine pI func5 rfl ntmps5 results5 call5 ?_;(focus (refine wkap (w_1 he) (w_4 ct cm ch cA) (w_r 0) ?_;(repeat' first|exact w_t|apply w_l);all_goals intros));all_goals exact gL
theorem lwMeans2 (k:Int) (L PS G:List AV) (bo:Bool) (l d:List Nat) (b:Bool) (v:Rat) (z:Int) (hz:decide (z=0)=b) (ct:Pure prog 6 [.agg [iv k,.sl 1 L,.v (.bool bo),lim l,lim d]] (.v (.bool true))) (cm:Pure prog 15 [.sl 6 PS,.v (.slice none 0 0)] (.v (.bool true))) (ch:Pure prog 16 [.agg [iv k,.sl 1 L,.v (.bool bo),lim l,lim d],.sl 6 PS] (.tup [.v (.bool b),iv 0])) (cg:Pure prog 8 [.agg [iv k,.sl 1 L,.v (.bool bo),lim l,lim d]] (.tup [.sl 4 G,iv 0])) (cv:Pure prog 17 [.sl 4 G,.sl 6 PS,.v (.slice none 0 0)] (.tup [ratQ v,iv 0])) (cs:Pure prog 18 [ratQ v] (iv z)) (cA:Pure prog 7 [] (.v (.bool true))):Pure prog 5 [.agg [iv k,.sl 1 L,.v (.bool bo),lim l,lim d],.sl 6 PS] (.v (.bool true)):=by
 cases b with
 | false =>
   have hz:¬z=0:=of_decide_eq_false hz;refine pI func5 rfl ntmps5 results5 call5 ?_;(focus (refine wkad (w_1 hz) (w_7 ct cm ch cg cv cs cA) w_t ?_;(repeat' first|exact w_t|apply w_l);all_goals intros));all_goals exact gL
 | true =>
   have hz:z=0:=ZGx hz;subst hz;refine pI func5 rfl ntmps5 results5 call5 ?_;(focus (refine wkad w_t (w_7 ct cm ch cg cv cs cA) w_t ?_;(repeat' first|exact w_t|apply w_l);all_goals intros));all_goals exact gL
abbrev okC (n:Nat) (q:Qt):Prop:=Qt.chk q (n:Int) ((0:Nat):Int)=0
theorem al_of {ps:List PQ} (hl:ps.length≤40) {k a b c:Int} (hk:k=1∨k=2) (ha:inP ps a) (hb:inP ps b) (hc:inP ps c):alQ (okC ps.length) (ofX ⟨k,a,b,c⟩):=by
 rcases Zjc (rs:=[]) (chk_mk hk ha hb hc hl) hl with⟨h1,-⟩ | ⟨k1,a1,b1,c1,s,h1,hs,-,hc,-⟩
 ·unfold ofX;rw [h1];intro t ht;cases ht
 ·unfold ofX;rw [h1];simp only;rw [ZBl (by rcases hs with rfl | rfl<;>decide)];intro t ht q hq;rw [List.mem_singleton.1 ht] at hq;rw [List.mem_singleton.1 hq];exact hc
theorem Zj3 {C:Qt→Prop} {p q:QTs} (hp:alQ C p) (hq:alQ C q):alQ C (subX p q):=hp.join (hq.scl _)
theorem al_go {ps:List PQ} (hl:ps.length≤40) {k:Int} {ar:List Int} {r:Rat} (hk:arG k≠0) (hn:(ar.length:Int)=arG k) (h:∀i,i < ar.length→inP ps (gI ar i)):alQ (okC ps.length) (goX k ar r):=by
 have ar':=λ{a b c:Int} (ha:inP ps a) (hb:inP ps b) (hc:inP ps c)=>al_of hl (k:=1) (.inl rfl) ha hb hc;have py:=λ{a b c:Int} (ha:inP ps a) (hb:inP ps b) (hc:inP ps c)=>al_of hl (k:=2) (.inr rfl) ha hb hc;rcases Zib hk with rfl | rfl | rfl | rfl | rfl | rfl | rfl | rfl | rfl
 ·have e:ar.length=3:=Int.ofNat.inj hn;exact ar' (h 0 zo) (h 1 zo) (h 2 zo)
 ·have e:ar.length=4:=Int.ofNat.inj hn;exact Zj3 (ar' (h 0 zo) (h 1 zo) (h 3 zo)) (ar' (h 0 zo) (h 1 zo) (h 2 zo))
 ·have e:ar.length=4:=Int.ofNat.inj hn;exact Zj3 (py (h 1 zo) (h 0 zo) (h 3 zo)) (py (h 1 zo) (h 0 zo) (h 2 zo))
 ·have e:ar.length=4:=Int.ofNat.inj hn;exact Zj3 (py (h 0 zo) (h 1 zo) (h 0 zo)) ((Zlr _).mul (py (h 2 zo) (h 3 zo) (h 2 zo)))
 ·have e:ar.length=3:=Int.ofNat.inj hn;exact((py (h 0 zo) (h 1 zo) (h 0 zo)).join (py (h 0 zo) (h 2 zo) (h 0 zo))).join ((Zlr _).mul (py (h 1 zo) (h 0 zo) (h 2 zo)))
 ·have e:ar.length=4:=Int.ofNat.inj hn;exact Zj3 ((ar' (h 1 zo) (h 0 zo) (h 2 zo)).mul (py (h 0 zo) (h 3 zo) (h 2 zo))) ((ar' (h 3 zo) (h 0 zo) (h 2 zo)).mul (py (h 0 zo) (h 1 zo) (h 2 zo)))
 ·have e:ar.length=8:=Int.ofNat.inj hn;have cr:=λ{a b c d:Int} (ha:inP ps a) (hb:inP ps b) (hc:inP ps c) (hd:inP ps d)=>Zj3 (ar' ha hb hd) (ar' ha hb hc);have dt:=λ{a b c d:Int} (ha:inP ps a) (hb:inP ps b) (hc:inP ps c) (hd:inP ps d)=>Zj3 (py hb ha hd) (py hb ha hc);exact Zj3 ((cr (h 0 zo) (h 1 zo) (h 2 zo) (h 3 zo)).mul (dt (h 4 zo) (h 5 zo) (h 6 zo) (h 7 zo))) ((cr (h 4 zo) (h 5 zo) (h 6 zo) (h 7 zo)).mul (dt (h 0 zo) (h 1 zo) (h 2 zo) (h 3 zo)))
 ·have e:ar.length=2:=Int.ofNat.inj hn;exact py (h 0 zo) (h 1 zo) (h 0 zo)
 ·have e:ar.length=4:=Int.ofNat.inj hn;exact Zj3 (py (h 0 zo) (h 1 zo) (h 0 zo)) ((Zlr _).mul (py (h 2 zo) (h 3 zo) (h 2 zo)))
theorem errG_le {g:RG} {n:Nat} (hn:n≤40) (h:errG g n=0):errG g 40=0:=by
 unfold errG at h ⊢;split at h
 ·cases h
 ·rename_i h1;rw [ZBl h1];split at h
  ·cases h
  ·rename_i h2;rw [ZBl h2];split at h
   ·cases h
   ·rename_i h3
    have h4:¬outB ((40:Nat):Int) g.ar=true:=by
     intro h5;apply h3;unfold outB at h5 ⊢;obtain⟨a,ha,hb⟩:=List.any_eq_true.1 h5;refine List.any_eq_true.2 ⟨a,ha,?_⟩;simp only [ZD9,ZCj] at hb ⊢;omega
    rw [ZBl h4];exact h
theorem arN_eq {k:Int} (hk:arG k≠0):(arN k:Int)=arG k:=by
 rcases Zib hk with rfl | rfl | rfl | rfl | rfl | rfl | rfl | rfl | rfl<;>decide
theorem lawMeans (g:RG) (ps:List RP) (h1:Lm g.r.l) (h2:Lm g.r.d) (hp:∀p∈ps,p.lm 9223372036854775807) (hpl:ps.length≤9223372036854775807) (cA:Pure prog 7 [] (.v (.bool true))):Pure prog 5 [g.av,.sl 6 (ps.map RP.av)] (.v (.bool true)):=by
 have ct:=arTiny g.k (g.ar.map iv) g.r.s g.r.l g.r.d;rw [ZBt] at ct;have cm:=Zf8 (rqMild ps [] hp (λr hr=>by cases hr) hpl zd) (.cons (.refl _) (.cons (.nil 3) .nil));by_cases ht:((decide ((g.ar.length:Int)≤20) && (decide ((g.r.l.length:Int)≤2) && decide ((g.r.d.length:Int)≤2))) && Zy2 ps [])=true
 ·rw [ZCd] at ht;obtain⟨ht,hm⟩:=ht;rw [ht] at ct;rw [hm] at cm;obtain⟨qs,us,e,-,hz,-,hl,-⟩:=mild_ok hp (λr hr=>by cases hr) hm;rw [e] at cm ⊢;simp only [ZCd,ZCj] at ht;obtain⟨t1,t2,t3⟩:=ht;have hr:g.r.lm 2:=⟨h1,h2,zo,zo⟩;have hs:g.sm:=⟨⟨h1,h2,zo,zo⟩,zo⟩;have ch:=prHolds g qs hs hr zo hz;unfold hoR at ch;by_cases h:errG g qs.length=0
  ·rw [ZBm h] at ch;have h40:=errG_le zo h;have cg:=ZA5 g hs hr;unfold goR at cg;rw [ZBm h40] at cg;obtain⟨hk,hn,hi,h9⟩:=go_okn h;obtain⟨-,-,hi40,-⟩:=go_ok h40;have x:=xs_go (r:=g.r.q) hk hn hi40 λe=>(RQ.ok_av hr (h9 e)).2;have al:=al_go (r:=g.r.q) (show qs.length≤40 by omega) hk hn hi;have q:∀t∈goX g.k g.ar g.r.q,t.2.length≤6∧Sz t.1 800:=λt ht=>⟨(x.x.qk t ht).2,(x.x.qk t ht).1⟩;have cv:=exValueG (goX g.k g.ar g.r.q) qs [] (K:=800) (j:=2) (nQ:=6) (nT:=400) x.l zo q zo zo zo zd hz (λr hr=>by cases hr) zo zo;have hsz:=eV_sz q hz (λr (hr:r∈([]:List Rat))=>by cases hr) zo _ (ZBn _) λa ha _=>Zup (chE_of al) a ha
   have hc0:chE qs.length (([]:List Rat).length:Nat) (goX g.k g.ar g.r.q)=0:=chE_of al;rw [ZBm hc0] at cv;have cv:=Zf8 cv (.cons (.refl _) (.cons (.refl _) (.cons (.nil 3) .nil)));have xl:=x.l;have cs:=Zck _ (hsz.mono (show _≤900000 by omega)) zo;rw [eV_all] at cv cs;have gi:=go_iff (rs:=[]) (r:=g.r.q) (show qs.length≤40 by omega) (show 1≤g.k∧g.k≤9 by have:=Zib hk;omega) (λi hi'=>hi i (by have:=arN_eq hk;omega));refine lwMeans2 _ _ _ _ _ _ _ _ _ _ ?_ ct cm ch cg cv cs cA;rw [ZCh,ZCj,Zdb];exact gi
  ·rw [ZBl h] at ch;exact lwMeans1 _ _ _ _ _ _ _ h ct cm ch cA
 ·exact lwMeans0 _ _ _ _ _ _ _ _ (Bool.eq_false_iff.2 ht) ct cm cA
theorem Zvf (cA:Pure prog 7 [] (.v (.bool true))) (xs:List AV) (h:ShapeL prog maxLen 9 [30,53] xs):Pure prog 5 xs (.v (.bool true)):=by
 obtain⟨x,bs,rfl,h1,h⟩:=h.inv;obtain⟨y,bs,rfl,h2,h⟩:=h.inv;obtain rfl:=h.inv0;obtain⟨g,rfl,hr,ha⟩:=shFact h1;obtain⟨ps,rfl,hpl,hp⟩:=shPoints h2;have e:maxLen=9223372036854775807:=by decide
 rw [e] at hpl hp;rw [show Zds prog 30 [iv g.k,ivs g.ar,.v (.bool g.r.s),lim g.r.l,lim g.r.d]=g.av from Zok underlying30 _,Zkp zk];exact lawMeans g ps hr.1 hr.2.1 hp hpl cA
theorem saidMeans (xs:List AV) (h:ShapeL prog maxLen 9 [30,53] xs):Pure prog 5 xs (.v (.bool true)):=Zvf awake35 xs h
end Go.Proofs.YtkefeinbjbeidaaGreatDoor
