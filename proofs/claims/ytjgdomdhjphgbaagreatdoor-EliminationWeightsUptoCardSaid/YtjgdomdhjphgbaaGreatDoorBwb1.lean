/- Contracts of the functions that the law reaches, and the rules by which they are walked. They say what a call hands back for every input within the bounds that each names; no other condition. -/
import Derived.Test.YtjgdomdhjphgbaaGreatDoorBw6
set_option linter.unusedSimpArgs false
set_option linter.unusedVariables false
set_option maxRecDepth 20000
set_option maxHeartbeats 16000000
namespace Go.Proofs.YtjgdomdhjphgbaaGreatDoor
open Go Go.RowKit Go.Pg Go.Pol
attribute [-bool_to_prop] Bool.and_eq_decide Bool.or_eq_decide Bool.decide_beq_decide decide_eq_decide
attribute [local go_sem] Tryz.underlying3 Tryz.underlying4 Tryz.underlying160 Tryz.underlying49 Tryz.underlying51 Tryz.underlying53 Tryz.underlying27 Tryz.underlying54 Tryz.underlying56 Tryz.underlying30 Tryz.underlying31 sz3 by3 z3 szB zB Zax zRat Za3 zInt Za2 zNat Zag Zaq Zah Bool.and_self Zal Zbh zSlQ szQT byQT zQT Zbj zSlT szQP zQP Tryz.underlying70 Tryz.underlying33 szFr byFr zFr Zce Zcj zSQP Tryz.underlying9 Tryz.underlying39 Tryz.underlying34 Tryz.underlying65 Tryz.underlying22 Tryz.underlying25 Tryz.underlying87 Tryz.underlying23 Zcf zErr Zbq Zct zStr szL byL zL Zca Zcb Zdq Zdv zFig Zdu zSlI Zdt zSlS Zcl Zco Zd7 Zd8 zSlF Tryz.underlying72 Tryz.underlying103 Tryz.underlying68 Tryz.underlying101 Tryz.underlying40 Zfi Zfr zCmb Zfg zSch szFn zFn Zfh zPlc Zc5 Zff
theorem Zt3 (m:Bool) (a0 a1 a2 a3 a4:Int) (V0 V1 V2 V3 V4 V5 V6:List AV) (c1:Pure Tryz.prog 51 [iv a4,iv a3,iv a2] (.sl 4 V0)) (c2:Pure Tryz.prog 51 [iv a4,iv a3,iv a1] (.sl 4 V1)) (c3:Pure Tryz.prog 50 [.sl 4 V0,.sl 4 V1] (.sl 4 V2)) (c4:Pure Tryz.prog 49 [.sl 4 V2] (.sl 4 V3)) (c5:Pure Tryz.prog 55 [.agg [iv 1,iv a3,iv a4,.v (.bool m)],iv a0] (.sl 4 V4)) (c6:Pure Tryz.prog 52 [.sl 4 V4,.sl 4 V3] (.sl 4 V5)) (c7:Pure Tryz.prog 20 [iv 1] (.sl 4 V6)):Pure Tryz.prog 21 [iv a0,iv a1,iv a2,.agg [iv 1,iv a3,iv a4,.v (.bool m)]] (.agg [.sl 4 V5,.sl 4 V6]):=by
 refine Zaa (tok:=0) Tryz.func21 rfl Tryz.ntmps21 Tryz.results21 Tryz.call21 (by rfl) (by simp) ?_;(focus (refine wkad w_t (w_7 c1 c2 c3 c4 c5 c6 c7) (w_1 (w_d 4 [(5,.sl 4 V0),(11,.sl 4 V1),(12,.sl 4 V2),(13,.sl 4 V3)] [] [])) ?_;(repeat' first|exact w_t|apply w_l);all_goals intros));all_goals exact gL
theorem Zxy (m:Bool) (a0 a1 a2 a3 a4:Int) (h0:0≤a0∧a0 < 40) (h1:0≤a1∧a1 < 40) (h2:0≤a2∧a2 < 40) (h3:0≤a3∧a3 < 40) (h4:0≤a4∧a4 < 40):Pure Tryz.prog 21 [iv a0,iv a1,iv a2,.agg [iv 1,iv a3,iv a4,.v (.bool m)]] (.agg [qpA (Zav (aX a0 a3 a4) (hfX (subX (pX a4 a3 a2) (pX a4 a3 a1)))),qpA (nX 1)]):=by
 have x0:=Zba (Zak (.inr rfl) h4 h3 h2);have x1:=Zba (Zak (.inr rfl) h4 h3 h1);have x2:=x0.sub x1;have x3:=Zba (Zak (.inl rfl) h0 h3 h4);have x4:=(Zcc Zim).mul x2;exact Zt3 m a0 a1 a2 a3 a4 _ _ _ _ _ _ _ (Zdl _ _ _ (Zak (.inr rfl) h4 h3 h2)) (Zdl _ _ _ (Zak (.inr rfl) h4 h3 h1)) (Zie (x0.s) (x1.s)) (elHfX x2) ((show Pl.at ⟨1,a3,a4,m⟩ a0=aX a0 a3 a4 from if_pos rfl) ▸ elAt 1 a3 a4 a0 m ⟨λ_=>Zak (.inl rfl) h0 h3 h4,λ_ _=>Zak (.inr rfl) h3 h0 h4,λ_ _=>Zak (.inr rfl) h0 h3 h4⟩) (Zi9 (x3.s) (x4.s)) (Zif)
theorem Zt2 (k:Int) (hk:¬k=1) (a0 a1 a2 a3 a4:Int) (V0 V1 V2 V3 V4 V5 V6 V7 V8 V9 V10 V11:List AV) (c1:Pure Tryz.prog 51 [iv a1,iv a2,iv a1] (.sl 4 V0)) (c2:Pure Tryz.prog 53 [iv a1,iv a2,iv a3] (.sl 4 V1)) (c3:Pure Tryz.prog 53 [iv a1,iv a2,iv a4] (.sl 4 V2)) (c4:Pure Tryz.prog 52 [.sl 4 V1,.sl 4 V2] (.sl 4 V3)) (c5:Pure Tryz.prog 53 [iv a1,iv a2,iv a0] (.sl 4 V4)) (c6:Pure Tryz.prog 54 [.sl 4 V4] (.sl 4 V5)) (c7:Pure Tryz.prog 50 [.sl 4 V3,.sl 4 V5] (.sl 4 V6)) (c8:Pure Tryz.prog 54 [.sl 4 V6] (.sl 4 V7)) (c9:Pure Tryz.prog 50 [.sl 4 V0,.sl 4 V7] (.sl 4 V8)) (c10:Pure Tryz.prog 55 [.agg [iv k,iv a3,iv a4,.v (.bool true)],iv a0] (.sl 4 V9)) (c11:Pure Tryz.prog 52 [.sl 4 V9,.sl 4 V8] (.sl 4 V10)) (c12:Pure Tryz.prog 20 [iv 1] (.sl 4 V11)):Pure Tryz.prog 21 [iv a0,iv a1,iv a2,.agg [iv k,iv a3,iv a4,.v (.bool true)]] (.agg [.sl 4 V10,.sl 4 V11]):=by
 refine Zaa (tok:=0) Tryz.func21 rfl Tryz.ntmps21 Tryz.results21 Tryz.call21 (by rfl) (by simp) ?_;(focus (refine wkax (w_1 hk) (w_12 c1 c2 c3 c4 c5 c6 c7 c8 c9 c10 c11 c12) (w_1 (w_d 6 [(4,.sl 4 V1),(9,.sl 4 V2),(10,.sl 4 V3),(14,.sl 4 V4),(15,.sl 4 V5),(16,.sl 4 V6)] [] [])) w_t w_t w_t (w_r 0) ?_;(repeat' first|exact w_t|apply w_l);all_goals intros));all_goals exact gL
theorem Zxx (k:Int) (hk:¬k=1) (a0 a1 a2 a3 a4:Int) (h0:0≤a0∧a0 < 40) (h1:0≤a1∧a1 < 40) (h2:0≤a2∧a2 < 40) (h3:0≤a3∧a3 < 40) (h4:0≤a4∧a4 < 40):Pure Tryz.prog 21 [iv a0,iv a1,iv a2,.agg [iv k,iv a3,iv a4,.v (.bool true)]] (.agg [qpA (Zav (pX a3 a0 a4) (subX (pX a1 a2 a1) (twX (subX (Zav (aX a1 a2 a3) (aX a1 a2 a4)) (twX (aX a1 a2 a0)))))),qpA (nX 1)]):=by
 have x0:=Zba (Zak (.inl rfl) h1 h2 h3);have x1:=Zba (Zak (.inl rfl) h1 h2 h4);have x2:=Zba (Zak (.inl rfl) h1 h2 h0);have x3:=x0.add x1;have x4:=(Zcc Zd4).mul x2;have x5:=x3.sub x4;have x6:=Zba (Zak (.inr rfl) h1 h2 h1);have x7:=(Zcc Zd4).mul x5;have x8:=Zba (Zak (.inr rfl) h3 h0 h4);have x9:=x6.sub x7;exact Zt2 k hk a0 a1 a2 a3 a4 _ _ _ _ _ _ _ _ _ _ _ _ (Zdl _ _ _ (Zak (.inr rfl) h1 h2 h1)) (Zjb _ _ _ (Zak (.inl rfl) h1 h2 h3)) (Zjb _ _ _ (Zak (.inl rfl) h1 h2 h4)) (Zi9 (x0.s) (x1.s)) (Zjb _ _ _ (Zak (.inl rfl) h1 h2 h0)) (Zt0 x2) (Zie (x3.s) (x4.s)) (Zt0 x5) (Zie (x6.s) (x7.s)) ((show Pl.at ⟨k,a3,a4,true⟩ a0=pX a3 a0 a4 from by unfold Pl.at;rw [if_neg hk,if_pos rfl]) ▸ elAt k a3 a4 a0 true ⟨λ_=>Zak (.inl rfl) h0 h3 h4,λ_ _=>Zak (.inr rfl) h3 h0 h4,λ_ _=>Zak (.inr rfl) h0 h3 h4⟩) (Zi9 (x8.s) (x9.s)) (Zif)
theorem Zt1 (k:Int) (hk:¬k=1) (a0 a1 a2 a3 a4:Int) (V0 V1 V2 V3 V4 V5 V6:List AV) (c1:Pure Tryz.prog 53 [iv a1,iv a2,iv a4] (.sl 4 V0)) (c2:Pure Tryz.prog 53 [iv a1,iv a2,iv a3] (.sl 4 V1)) (c3:Pure Tryz.prog 50 [.sl 4 V0,.sl 4 V1] (.sl 4 V2)) (c4:Pure Tryz.prog 54 [.sl 4 V2] (.sl 4 V3)) (c5:Pure Tryz.prog 55 [.agg [iv k,iv a3,iv a4,.v (.bool false)],iv a0] (.sl 4 V4)) (c6:Pure Tryz.prog 52 [.sl 4 V4,.sl 4 V3] (.sl 4 V5)) (c7:Pure Tryz.prog 20 [iv 1] (.sl 4 V6)):Pure Tryz.prog 21 [iv a0,iv a1,iv a2,.agg [iv k,iv a3,iv a4,.v (.bool false)]] (.agg [.sl 4 V5,.sl 4 V6]):=by
 refine Zaa (tok:=0) Tryz.func21 rfl Tryz.ntmps21 Tryz.results21 Tryz.call21 (by rfl) (by simp) ?_;(focus (refine wkad (w_1 hk) (w_7 c1 c2 c3 c4 c5 c6 c7) (w_1 (w_d 2 [(4,.sl 4 V0),(9,.sl 4 V1),(10,.sl 4 V2),(11,.sl 4 V3)] [] [])) ?_;(repeat' first|exact w_t|apply w_l);all_goals intros));all_goals exact gL
theorem Zxw (k:Int) (hk:¬k=1) (a0 a1 a2 a3 a4:Int) (h0:0≤a0∧a0 < 40) (h1:0≤a1∧a1 < 40) (h2:0≤a2∧a2 < 40) (h3:0≤a3∧a3 < 40) (h4:0≤a4∧a4 < 40):Pure Tryz.prog 21 [iv a0,iv a1,iv a2,.agg [iv k,iv a3,iv a4,.v (.bool false)]] (.agg [qpA (Zav (pX a0 a3 a4) (twX (subX (aX a1 a2 a4) (aX a1 a2 a3)))),qpA (nX 1)]):=by
 have x0:=Zba (Zak (.inl rfl) h1 h2 h4);have x1:=Zba (Zak (.inl rfl) h1 h2 h3);have x2:=x0.sub x1;have x3:=Zba (Zak (.inr rfl) h0 h3 h4);have x4:=(Zcc Zd4).mul x2;exact Zt1 k hk a0 a1 a2 a3 a4 _ _ _ _ _ _ _ (Zjb _ _ _ (Zak (.inl rfl) h1 h2 h4)) (Zjb _ _ _ (Zak (.inl rfl) h1 h2 h3)) (Zie (x0.s) (x1.s)) (Zt0 x2) ((show Pl.at ⟨k,a3,a4,false⟩ a0=pX a0 a3 a4 from by unfold Pl.at;rw [if_neg hk,if_neg (by simp)]) ▸ elAt k a3 a4 a0 false ⟨λ_=>Zak (.inl rfl) h0 h3 h4,λ_ _=>Zak (.inr rfl) h3 h0 h4,λ_ _=>Zak (.inr rfl) h0 h3 h4⟩) (Zi9 (x3.s) (x4.s)) (Zif)
theorem elTurned (p:Pl) (a0 a1 a2:Int) (h0:0≤a0∧a0 < 40) (h1:0≤a1∧a1 < 40) (h2:0≤a2∧a2 < 40) (h3:0≤p.q∧p.q < 40) (h4:0≤p.r∧p.r < 40):Pure Tryz.prog 21 [iv a0,iv a1,iv a2,p.av] (.agg [qpA (tuX a0 a1 a2 p),qpA (nX 1)]):=by
 obtain⟨k,q,r,m⟩:=p;unfold tuX;simp only;split
 ·rename_i hk;obtain rfl:=hk;exact Zxy m a0 a1 a2 q r h0 h1 h2 h3 h4
 ·rename_i hk
  cases m with
  | true=>rw [if_pos rfl];exact Zxx k hk a0 a1 a2 q r h0 h1 h2 h3 h4
  | false=>rw [if_neg (by simp)];exact Zxw k hk a0 a1 a2 q r h0 h1 h2 h3 h4
theorem rfHalf:Pure Tryz.prog 39 [iv 1,iv 2] (ratQ (1/2)):=by
 have h:=qFrac 1 2 (by omega) (by omega) (by omega)
 rwa [show mkRat ((1:Nat):Int) 2=(1/2:Rat) from by decide +kernel] at h
theorem Zx5 (k q r:Int) (mid:Bool) (ps:List Int) (hn:ps.length≤100) (AB AT MU AS OT:Nat→List AV) (W PY PR IN:Nat→Nat→List AV) (BE DD AA:List AV) (hA:∀i,i < ps.length→AA.getD i .u=.sl 4 (AB i)) (hlA:AA.length=ps.length)
 (cAt:∀i,i < ps.length→Pure Tryz.prog 55 [.agg [iv k,iv q,iv r,.v (.bool mid)],iv (gI ps i)] (.sl 4 (AT i)))
 (cMu:∀i,i < ps.length→Pure Tryz.prog 25 [.sl 4 (AB i),.sl 4 (AT i)] (.sl 4 (MU i)))
 (cAd:∀i,i < ps.length→Pure Tryz.prog 52 [.sl 4 (AS i),.sl 4 (MU i)] (.sl 4 (AS (i+1)))) (h0:AS 0=[])
 (cB:mid=true→Pure Tryz.prog 25 [.sl 4 (BE),.sl 4 (AS ps.length)] (.sl 4 (OT 0))) (cW:∀i j,mid=true→i < j→j < ps.length→Pure Tryz.prog 25 [.sl 4 (AB i),.sl 4 (AB j)] (.sl 4 (W i j)))
 (cP:∀i j,mid=true→i < j→j < ps.length→Pure Tryz.prog 51 [iv (gI ps i),iv (gI ps j),iv (gI ps i)] (.sl 4 (PY i j)))
 (cT:∀i j,mid=true→i < j→j < ps.length→Pure Tryz.prog 25 [.sl 4 (W i j),.sl 4 (PY i j)] (.sl 4 (PR i j)))
 (cS:∀i d,mid=true→i+1+d < ps.length→Pure Tryz.prog 50 [.sl 4 (IN i d),.sl 4 (PR i (i+1+d))] (.sl 4 (IN i (d+1))))
 (hI:∀i,IN i 0=OT i) (hO:∀i,i < ps.length→IN i (ps.length - (i+1))=OT (i+1)) (cD:mid=true→Pure Tryz.prog 25 [.sl 4 (BE),.sl 4 (BE)] (.sl 4 (DD))) :
 Pure Tryz.prog 24 [.agg [.sl 1 (ps.map iv),.sl 1 AA,.sl 4 BE],.agg [iv k,iv q,iv r,.v (.bool mid)]] (if mid=true then .agg [.sl 4 (OT ps.length),.sl 4 DD] else .agg [.sl 4 (AS ps.length),.sl 4 BE]):=by
 have hlp:(ps.map iv).length=ps.length:=List.length_map ..;have hg:∀i,i < ps.length→(ps.map iv).getD i .u=iv (gI ps i):=λi h=>by rw [Zex h];exact Zap iv h
 generalize ps.map iv=PS at *;refine Zaa (tok:=0) Tryz.func24 rfl Tryz.ntmps24 Tryz.results24 Tryz.call24 (by rfl) (by simp) ?_;(focus (refine wkad (w_1 hlp) w_t w_t ?_;(repeat' first|exact w_t|apply w_l);all_goals intros));rename_i g2 g3 g4;refine Zeu (Frz.nil (d:=5) 4 (by exact gC)) ?_;refine Zac (ι:=Nat) (λi e m=>i≤ps.length∧((e 2=.pbox 2 g2 0∧m 2=some (.box g2 72 [.sl 1 PS,.sl 1 AA,.sl 4 BE] false))∧(e 3=.pbox 3 g3 0∧m 3=some (.box g3 68 [iv k,iv q,iv r,.v (.bool mid)] false))∧(e 4=.pbox 4 g4 0∧m 4=some (.box g4 33 [.v (.slice none 0 0),.v (.slice none 0 0)] false)))∧(e 12=.sl 1 PS∧e 13=iv ps.length∧e 14=iv i)∧e 5=.sl 4 (AS i)) (λi=>ps.length - i) 0 (by rfl) ?_ ?_
 ·rintro i e m ⟨hi,⟨⟨e2,m2⟩,⟨e3,m3⟩,⟨e4,m4⟩⟩,⟨e12,e13,e14⟩,e5⟩
  by_cases hlt:i < ps.length
  ·have hgi:=hg i hlt;have hai:=hA i hlt;have c1:=cAt i hlt;have c2:=cMu i hlt;have c3:=cAd i hlt;clear cAt cMu cAd cB cW cP cT cS hI hO cD hA hg h0;(focus (refine wkad (w_14 e2 m2 e3 m3 e4 m4 e12 e13 e14 e5 hlp hgi hai hlA) (w_3 c1 c2 c3) (w_1 (w_d 5 [(8,.sl 4 (AT i)),(9,.sl 4 (MU i)),(10,.sl 4 (AS (i+1)))] [] [])) ?_;(repeat' first|exact w_t|apply w_l);all_goals intros));exact⟨i+1,⟨by omega,⟨⟨by exact gW e2,by exact gW m2⟩,⟨by exact gW e3,by exact gW m3⟩,⟨by exact gW e4,by exact gW m4⟩⟩,⟨by exact gW e12,by exact gW e13,by exact gS⟩,by exact gC⟩,by omega⟩
  ·have:i=ps.length:=by omega
   subst this
   cases mid with
   | false =>
     rw [if_neg (by simp)];clear cAt cMu cAd cB cW cP cT cS hI hO cD hA hg h0;(focus (refine wkad (w_11 e2 m2 e3 m3 e4 m4 e12 e13 e14 e5 hlp) w_t w_t ?_;(repeat' first|exact w_t|apply w_l);all_goals intros));all_goals (all_goals (try simp (disch:=omega) only [go_sem,e4,m4,decide_eq_true,decide_eq_false,if_pos,if_neg,Int.reduceAdd,Int.reduceSub,Int.reduceToNat,Int.zero_add]));(all_goals first|done|rfl|(congr 2;first|done|omega|(rw [Bool.eq_iff_iff];simp only [bool_to_prop,Bool.false_eq_true,iff_true,true_iff,iff_false,false_iff];omega))|skip)
   | true =>
     rw [if_pos rfl];have cb:=cB rfl;have cd:=cD rfl;clear cAt cMu cAd cB cD h0;(focus (refine wkad (w_11 e2 m2 e3 m3 e4 m4 e12 e13 e14 e5 hlp) (w_1 cb) w_t ?_;(repeat' first|exact w_t|apply w_l);all_goals intros));refine Zac (ι:=Nat) (λi e m=>i≤ps.length∧((e 2=.pbox 2 g2 0∧m 2=some (.box g2 72 [.sl 1 PS,.sl 1 AA,.sl 4 BE] false))∧(e 3=.pbox 3 g3 0∧m 3=some (.box g3 68 [iv k,iv q,iv r,.v (.bool true)] false))∧(e 4=.pbox 4 g4 0∧m 4=some (.box g4 33 [.v (.slice none 0 0),.v (.slice none 0 0)] false)))∧(e 44=iv ps.length∧e 45=iv i)∧e 5=.sl 4 (OT i)) (λi=>ps.length - i) 0 (by rfl) ?_ ?_
     ·clear e2 m2 e3 m3 e4 m4 e12 e13 e14 e5 cb
      rintro i e m ⟨hi,⟨⟨e2,m2⟩,⟨e3,m3⟩,⟨e4,m4⟩⟩,⟨e44,e45⟩,e5⟩
      by_cases hlt:i < ps.length
      ·have hai:=hA i hlt;have hgi:=hg i hlt
       (repeat' (first|(fail)|(with_reducible first|refine stp ?_|apply gx1|apply gx2|apply gx3|apply gx4|apply gx5|apply gx6|apply gx7|apply gy8|apply gz2|apply gz3)|(with_reducible refine Zbb ?_;intro _)|((with_reducible refine gE ?_);(try simp (disch:=omega) only [go_sem,e2,m2,e3,m3,e4,m4,e44,e45,e5,hlp,decide_eq_true,decide_eq_false,if_pos,if_neg,Int.reduceAdd,Int.reduceSub,Int.reduceToNat,Int.zero_add])<;>first|rfl|omega)|with_reducible refine Zab (by decide) ?_|((with_reducible apply gy1);iterate 3 focus rfl)|((with_reducible apply gy2);iterate 3 focus rfl)|((with_reducible apply gy3);iterate 2 focus rfl)|((with_reducible apply gy4);iterate 1 focus rfl)|((with_reducible apply gy5);iterate 4 focus rfl)|((with_reducible apply gy5c);iterate 4 focus rfl)|((with_reducible apply gy6);iterate 4 focus rfl)|((with_reducible apply Zb8);iterate 3 focus rfl)|((with_reducible apply Zb6);iterate 1 focus rfl)|((with_reducible apply gy7);iterate 1 focus rfl)|((with_reducible apply gy9);(focus ((with_reducible refine gE ?_);(try simp (disch:=omega) only [go_sem,e2,m2,e3,m3,e4,m4,e44,e45,e5,hlp,decide_eq_true,decide_eq_false,if_pos,if_neg,Int.reduceAdd,Int.reduceSub,Int.reduceToNat,Int.zero_add])<;>rfl)))|((with_reducible apply gz1);(focus first|rfl|(simp (disch:=omega) only [go_sem,e2,m2,e3,m3,e4,m4,e44,e45,e5,hlp,decide_eq_true,decide_eq_false,if_pos,if_neg,Int.reduceAdd,Int.reduceSub,Int.reduceToNat,Int.zero_add];done)))|((with_reducible apply Zan (Zbi []) [] []);(focus kernel_rfl);(focus rfl);(focus kernel_rfl);(focus (simp only [List.length_cons,List.length_nil,Nat.reduceAdd];rfl)))|((with_reducible first|apply Zay|apply Za5|apply Zaz);all_goals (intro hc;(try simp only [bool_to_prop] at hc);try (exfalso;omega)))))
       rw [←hI i] at e5;refine Zac (ι:=Nat) (λd e m=>i+1+d≤ps.length∧((e 2=.pbox 2 g2 0∧m 2=some (.box g2 72 [.sl 1 PS,.sl 1 AA,.sl 4 BE] false))∧(e 3=.pbox 3 g3 0∧m 3=some (.box g3 68 [iv k,iv q,iv r,.v (.bool true)] false))∧(e 4=.pbox 4 g4 0∧m 4=some (.box g4 33 [.v (.slice none 0 0),.v (.slice none 0 0)] false)))∧(e 44=iv ps.length∧e 45=iv i∧e 8=iv i∧e 9=iv ((i+1+d:Nat):Int))∧e 5=.sl 4 (IN i d)) (λd=>ps.length - (i+1+d)) 0 (by rfl) ?_ ?_
       ·clear e2 m2 e3 m3 e4 m4 e44 e45 e5
        rintro d e m ⟨hd,⟨⟨e2,m2⟩,⟨e3,m3⟩,⟨e4,m4⟩⟩,⟨e44,e45,e8,e9⟩,e5⟩
        by_cases hld:i+1+d < ps.length
        ·have haj:=hA (i+1+d) hld;have hgj:=hg (i+1+d) hld;have c1:=cW i (i+1+d) rfl (by omega) hld;have c2:=cP i (i+1+d) rfl (by omega) hld;have c3:=cT i (i+1+d) rfl (by omega) hld;have c4:=cS i d rfl hld;have hs:((i+1+d:Nat):Int)+1=((i+1+(d+1):Nat):Int):=by omega
         clear cW cP cT cS hI hO hA hg;generalize hj:i+1+d=j at *;(focus (refine wkad (w_18 e2 m2 e3 m3 e4 m4 e44 e45 e8 e9 e5 hlp hlA hai hgi haj hgj hs) (w_4 c1 c2 c3 c4) (w_2 (w_d 16 [(10,.sl 4 (W i j))] [] []) (w_d 17 [(17,.sl 4 (PY i j)),(18,.sl 4 (PR i j)),(19,.sl 4 (IN i (d+1)))] [] [])) ?_;(repeat' first|exact w_t|apply w_l);all_goals intros));exact⟨d+1,⟨by omega,⟨⟨by exact gW e2,by exact gW m2⟩,⟨by exact gW e3,by exact gW m3⟩,⟨by exact gW e4,by exact gW m4⟩⟩,⟨by exact gW e44,by exact gW e45,by exact gW e8,by exact gW hs⟩,by exact gC⟩,by omega⟩
        ·have hd2:d=ps.length - (i+1):=by omega
         rw [hd2,hO i hlt] at e5;have hjN:((i+1+d:Nat):Int)=(ps.length:Int):=by omega
         rw [hjN] at e9;clear cW cP cT cS hI hO hA hg;(focus (refine wkad (w_12 e2 m2 e3 m3 e4 m4 e44 e45 e8 e9 e5 hlp) w_t w_t ?_;(repeat' first|exact w_t|apply w_l);all_goals intros));exact⟨i+1,⟨by omega,⟨⟨by exact gW e2,by exact gW m2⟩,⟨by exact gW e3,by exact gW m3⟩,⟨by exact gW e4,by exact gW m4⟩⟩,⟨by exact gW e44,by exact gS⟩,by exact gW e5⟩,by omega⟩
       ·exact⟨by omega,⟨⟨by exact gW e2,by exact gW m2⟩,⟨by exact gW e3,by exact gW m3⟩,⟨by exact gW e4,by exact gW m4⟩⟩,⟨by exact gW e44,by exact gW e45,by exact gC,by exact gS⟩,by exact gW e5⟩
      ·have:i=ps.length:=by omega
       subst this;clear cW cP cT cS hI hO hA hg;(focus (refine wkad (w_10 e2 m2 e3 m3 e4 m4 e44 e45 e5 hlp) (w_1 cd) w_t ?_;(repeat' first|exact w_t|apply w_l);all_goals intros));all_goals (all_goals (try simp (disch:=omega) only [go_sem,e4,m4,decide_eq_true,decide_eq_false,if_pos,if_neg,Int.reduceAdd,Int.reduceSub,Int.reduceToNat,Int.zero_add]));(all_goals first|done|rfl|(congr 2;first|done|omega|(rw [Bool.eq_iff_iff];simp only [bool_to_prop,Bool.false_eq_true,iff_true,true_iff,iff_false,false_iff];omega))|skip)
     ·exact⟨Nat.zero_le _,⟨⟨by exact gW e2,by exact gW m2⟩,⟨by exact gW e3,by exact gW m3⟩,⟨by exact gW e4,by exact gW m4⟩⟩,⟨by exact gW hlp,by exact gC⟩,by exact gC⟩
 ·exact⟨Nat.zero_le _,⟨⟨by exact gC,by exact gC⟩,⟨by exact gC,by exact gC⟩,⟨by exact gC,by exact gC⟩⟩,⟨by exact gC,by exact gW hlp,by exact gC⟩,by rw [h0];exact gC⟩
section
attribute [local go_sem] Tryz.underlying3 Tryz.underlying4 Tryz.underlying160 Tryz.underlying49 Tryz.underlying51 Tryz.underlying53 Tryz.underlying27 Tryz.underlying54 Tryz.underlying56 Tryz.underlying30 Tryz.underlying31 sz3 by3 z3 szB zB Zax zRat Za3 zInt Za2 zNat Zag Zaq Zah Bool.and_self Zal Zbh zSlQ szQT byQT zQT Zbj zSlT szQP zQP Tryz.underlying70 Tryz.underlying33 szFr byFr zFr Zce Zcj zSQP Tryz.underlying9 Tryz.underlying39 Tryz.underlying34 Tryz.underlying65 Tryz.underlying22 Tryz.underlying25 Tryz.underlying87 Tryz.underlying23 Zcf zErr Zbq Zct zStr szL byL zL Zca Zcb Zdq Zdv zFig Zdu zSlI Zdt zSlS Zcl Zco Zd7 Zd8 zSlF Tryz.underlying72 Tryz.underlying103 Tryz.underlying68 Tryz.underlying101 Tryz.underlying40 Zfi Zfr zCmb Zfg zSch szFn zFn Zfh zPlc Zc5 Zff
end
theorem cbl_b {c:Cb} (h:CbL c) (p:Pl):c.be.length*(afS c p c.ps.length).length≤12:=by
 obtain⟨hb,h⟩:=h;rcases h with⟨u,v,e,hp,h1,h2⟩ | ⟨u,v,w,e,hp,h1,h2⟩
 ·have s1:=Zfe c p 0;have s2:=Zfe c p 1;rw [e] at s1 s2;have s0:(afS c p 0).length=0:=rfl;have s1:(afS c p 1).length≤(afS c p 0).length+u.length:=s1;have s2:(afS c p 2).length≤(afS c p 1).length+v.length:=s2;rw [hp];have:=Nat.mul_le_mul_left c.be.length (show(afS c p 2).length≤u.length+v.length by omega);omega
 ·have s1:=Zfe c p 0;have s2:=Zfe c p 1;have s3:=Zfe c p 2;rw [e] at s1 s2 s3;have s0:(afS c p 0).length=0:=rfl;have s1:(afS c p 1).length≤(afS c p 0).length+u.length:=s1;have s2:(afS c p 2).length≤(afS c p 1).length+v.length:=s2;have s3:(afS c p 3).length≤(afS c p 2).length+w.length:=s3;rw [hp];have:=Nat.mul_le_mul_left c.be.length (show(afS c p 3).length≤u.length+v.length+w.length by omega);omega
theorem cbl_w {c:Cb} (h:CbL c) {i j:Nat} (hij:i < j) (hj:j < c.ps.length):(c.ab.getD i []).length*(c.ab.getD j []).length≤12:=by
 obtain⟨hb,h⟩:=h;rcases h with⟨u,v,e,hp,h1,h2⟩ | ⟨u,v,w,e,hp,h1,h2⟩
 ·rw [e];obtain rfl:i=0:=by omega
  obtain rfl:j=1:=by omega
  show u.length*v.length≤12;omega
 ·rw [e];have:(i=0∧j=1)∨(i=0∧j=2)∨(i=1∧j=2):=by omega
  rcases this with⟨rfl,rfl⟩ | ⟨rfl,rfl⟩ | ⟨rfl,rfl⟩
  ·show u.length*v.length≤12;omega
  ·show u.length*w.length≤12;omega
  ·show v.length*w.length≤12;omega
theorem af_res (c:Cb) (p:Pl):(if p.mid=true then AV.agg [.sl 4 ((out2 c c.ps.length (mulX c.be (afS c p c.ps.length)) c.ps.length).map qtA),.sl 4 ((mulX c.be c.be).map qtA)] else .agg [.sl 4 ((afS c p c.ps.length).map qtA),.sl 4 (c.be.map qtA)])=.agg [qpA (afN c p),qpA (afD c p)]:=by
 unfold afN afD;split<;>rfl
theorem aa_at (c:Cb) {i:Nat} (h:i < c.ab.length):(c.ab.map qpA).getD i .u=.sl 4 ((c.ab.getD i []).map qtA):=by
 rw [Zgq h];exact Zap qpA h
theorem elAffine (c:Cb) (p:Pl) {n:Int} (hc:CbOk c n) (hl:CbL c) (hp:PlOk p n) (hn:n≤40):Pure Tryz.prog 24 [c.av,p.av] (.agg [qpA (afN c p),qpA (afD c p)]):=by
 have h3:=hc.few;have b40:∀{z:Int},(0≤z∧z < n)→0≤z∧z < 40:=λh=>by omega
 have hq:=b40 hp.q;have hr:=b40 hp.r;have key:=Zx5 p.k p.q p.r p.mid c.ps (by omega) (λi=>(c.ab.getD i []).map qtA) (λi=>(p.at (gI c.ps i)).map qtA) (λi=>(mulX (c.ab.getD i []) (p.at (gI c.ps i))).map qtA) (λi=>(afS c p i).map qtA) (λi=>(out2 c c.ps.length (mulX c.be (afS c p c.ps.length)) i).map qtA)
  (λi j=>(mulX (c.ab.getD i []) (c.ab.getD j [])).map qtA) (λi j=>(pX (gI c.ps i) (gI c.ps j) (gI c.ps i)).map qtA) (λi j=>(prT c i j).map qtA) (λi d=>(in2 c i (out2 c c.ps.length (mulX c.be (afS c p c.ps.length)) i) d).map qtA) (c.be.map qtA) ((mulX c.be c.be).map qtA) (c.ab.map qpA) (λi hi=>aa_at c (by rw [hc.len];exact hi)) (by rw [List.length_map];exact hc.len)
  (λi hi=>elAt p.k p.q p.r (gI c.ps i) p.mid ⟨λ_=>Zak (.inl rfl) (b40 (Zdw hc hi)) hq hr,λ_ _=>Zak (.inr rfl) hq (b40 (Zdw hc hi)) hr,λ_ _=>Zak (.inr rfl) (b40 (Zdw hc hi)) hq hr⟩)
  (λi hi=>Zhn (Zhk hc hi).s (Zuf hp (Zdw hc hi) hn).s (Nat.le_trans (Nat.mul_le_mul (Zhk hc hi).l (Zuf hp (Zdw hc hi) hn).l) (by decide))) (λi hi=>Zi9 ((Zk2 hc hp hn i (by omega)).mono (by omega) (by decide) (by omega)) ((Zhk hc hi).mul (Zuf hp (Zdw hc hi) hn)).s) rfl
  (λ_=>Zhn hc.be.s ((Zk2 hc hp hn _ (Nat.le_refl _)).mono (by omega) (by decide) (by omega)) (cbl_b hl p)) (λi j _ hij hj=>Zhn (Zhk hc (by omega)).s (Zhk hc hj).s (cbl_w hl hij hj))
  (λi j _ hij hj=>Zdl _ _ _ (Zak (.inr rfl) (b40 (Zdw hc (by omega))) (b40 (Zdw hc hj)) (b40 (Zdw hc (by omega)))))
  (λi j _ hij hj=>Zhn ((Zhk hc (show i < _ by omega)).mul (Zhk hc hj)).s (xs_of (Zak (.inr rfl) (b40 (Zdw hc (by omega))) (b40 (Zdw hc hj)) (b40 (Zdw hc (by omega))))) (Nat.le_trans (Nat.mul_le_mul (Nat.le_trans (Ziq _ _) (cbl_w hl hij hj)) (Zio _)) (by decide)))
  (λi d _ hd=>Zie ((Zsi hc hn (Zmr hc hn (Zyv hc hp hn) i (by omega)) d (by omega)).mono (by omega) (by decide) (by omega)) (Zwe hc hn (by omega) hd).s)
  (λ_=>rfl) (λ_ _=>rfl) (λ_=>Zhn hc.be.s hc.be.s (Nat.le_trans (Nat.mul_le_mul hl.1 hl.1) (by decide)))
 rw [af_res] at key;exact key
abbrev wA (be:QTs) (w:QTs):AV:=.agg [qpA w,qpA be]
theorem elWtsR (M G:List AV) (p:Int) (h:p < 0∨(M.length:Int)≤p):Pure Tryz.prog 10 [.agg [.sl 6 M,.sl 5 G],iv p] (.tup [.v (.slice none 0 0),.v (.slice none 0 0),iv 2]):=by
 rcases h with h | h
 all_goals
  refine Zaa (tok:=0) Tryz.func10 rfl Tryz.ntmps10 Tryz.results10 Tryz.call10 (by rfl) (by simp) ?_;(focus (refine wkap (w_1 h) w_t (w_r 0) ?_;(repeat' first|exact w_t|apply w_l);all_goals intros));all_goals exact gL
theorem elWtsE (M G:List AV) (i:Nat) (z:Int) (hz:¬z=0) (hi:i < M.length) (c:Pure Tryz.prog 23 [.agg [.sl 6 M,.sl 5 G],iv i] (.tup [.agg [.v (.slice none 0 0),.v (.slice none 0 0),.v (.slice none 0 0)],iv z])):Pure Tryz.prog 10 [.agg [.sl 6 M,.sl 5 G],iv i] (.tup [.v (.slice none 0 0),.v (.slice none 0 0),iv z]):=by
 refine Zaa (tok:=0) Tryz.func10 rfl Tryz.ntmps10 Tryz.results10 Tryz.call10 (by rfl) (by simp) ?_;(focus (refine wkap (w_2 hz hi) (w_1 c) (w_r 0) ?_;(repeat' first|exact w_t|apply w_l);all_goals intros));all_goals exact gL
theorem elWtsO (M G:List AV) (i:Nat) (hi:i < M.length) (ps:List Int) (ab:List QTs) (be:QTs) (hab:ab.length≤100) (hbe:be.length≤100) (c:Pure Tryz.prog 23 [.agg [.sl 6 M,.sl 5 G],iv i] (.tup [.agg [.sl 1 (ps.map iv),.sl 1 (ab.map qpA),.sl 4 (be.map qtA)],iv 0])):Pure Tryz.prog 10 [.agg [.sl 6 M,.sl 5 G],iv i] (.tup [.sl 1 (ps.map iv),.sl 2 (ab.map (wA be)),iv 0]):=by
 have hlm:(ab.map qpA).length=ab.length:=List.length_map ..;have hg:∀k (h:k < ab.length),(ab.map qpA).getD k .u=.sl 4 (ab[k].map qtA):=λk h=>Zap qpA h;have hts:∀k (h:k < ab.length),(ab.take (k+1)).map (wA be)=(ab.take k).map (wA be)++[.agg [.sl 4 (ab[k].map qtA),.sl 4 (be.map qtA)]]:=λk h=>by rw [List.take_succ_eq_append_getElem h,List.map_append];rfl
 have hwl:∀k,((ab.take k).map (wA be)).length≤100:=λk=>by rw [List.length_map,List.length_take];omega
 have hf:ab.take ab.length=ab:=List.take_length;generalize hWW:(λk=>(ab.take k).map (wA be))=W at *;have hW:∀k,(ab.take k).map (wA be)=W k:=λk=>by rw [←hWW]
 have hR:ab.map (wA be)=W ab.length:=by rw [←hW,hf]
 have hW0:W 0=[]:=by rw [←hW];rfl
 simp only [hW] at hts hwl;rw [hR];generalize ab.map qpA=A at *;generalize ps.map iv=PS at *;generalize be.map qtA=B at *;clear hWW hW hR hf;refine Zaa (tok:=0) Tryz.func10 rfl Tryz.ntmps10 Tryz.results10 Tryz.call10 (by rfl) (by simp) ?_;(focus (refine wkap (w_2 hi hlm) (w_1 c) (w_r 0) ?_;(repeat' first|exact w_t|apply w_l);all_goals intros));rename_i g7;refine Zeu (Frz.nilOwn (d:=5) 41 2 33 (by exact gC)) ?_;refine Zac (ι:=Nat) (λk e m=>k≤ab.length∧(e 7=.pbox 7 g7 0∧m 7=some (.box g7 72 [.sl 1 PS,.sl 1 A,.sl 4 B] false))∧(e 29=.sl 1 A∧e 30=iv ab.length∧e 31=iv k)∧∃sv,e 5=.own 41 sv∧m 41=some (.row sv 33 2 (W k) 0)) (λk=>ab.length - k) 0 (by rfl) ?_ ?_
 ·rintro k e m ⟨hk,⟨e7,m7⟩,⟨e29,e30,e31⟩,sv,e5,m41⟩
  by_cases hlt:k < ab.length
  ·have hgk:=hg k hlt;have htk:=hts k hlt;have hwk:=hwl k;clear hg hts hwl;generalize ab[k].map qtA=Y at *;(focus (refine wkap (w_9 e7 m7 e29 e30 e31 e5 m41 hlm hgk) w_t (w_r 0) ?_;(repeat' first|exact w_t|apply w_l);all_goals intros));exact⟨k+1,⟨by omega,⟨by exact gW e7,by exact gW m7⟩,⟨by exact gW e29,by exact gW e30,by exact gS⟩,_,by exact gC,by rw [htk];exact gC⟩,by omega⟩
  ·have:k=ab.length:=by omega
   subst this;have hwk:=hwl ab.length;(focus (refine wkap (w_8 e7 m7 e29 e30 e31 e5 m41 hlm) w_t (w_r 0) ?_;(repeat' first|exact w_t|apply w_l);all_goals intros));all_goals (all_goals (try simp (disch:=omega) only [go_sem,m41,decide_eq_true,decide_eq_false,if_pos,if_neg,Int.reduceAdd,Int.reduceSub,Int.reduceToNat,Int.zero_add]));(all_goals first|done|rfl|(congr 2;first|done|omega|(rw [Bool.eq_iff_iff];simp only [bool_to_prop,Bool.false_eq_true,iff_true,true_iff,iff_false,false_iff];omega))|skip)
 ·exact⟨Nat.zero_le _,⟨by exact gC,by exact gC⟩,⟨by exact gC,by exact gW hlm,by exact gC⟩,_,by exact gC,by rw [hW0];exact gC⟩
theorem Zlg (M G:List AV) (i:Nat) (hi:i < M.length):Pure Tryz.prog 26 [.agg [.sl 6 M,.sl 5 G],iv i] (iv 0):=by
 refine Zaa (tok:=0) Tryz.func26 rfl Tryz.ntmps26 Tryz.results26 Tryz.call26 (by rfl) (by simp) ?_;(focus (refine wkap (w_1 hi) w_t (w_r 0) ?_;(repeat' first|exact w_t|apply w_l);all_goals intros));all_goals exact gL
theorem rlChkR (M G:List AV) (p:Int) (h:p < 0∨(M.length:Int)≤p):Pure Tryz.prog 26 [.agg [.sl 6 M,.sl 5 G],iv p] (iv 2):=by
 rcases h with h | h
 all_goals
  refine Zaa (tok:=0) Tryz.func26 rfl Tryz.ntmps26 Tryz.results26 Tryz.call26 (by rfl) (by simp) ?_;(focus (refine wkap (w_1 h) w_t (w_r 0) ?_;(repeat' first|exact w_t|apply w_l);all_goals intros));all_goals exact gL
theorem rlWtsR (M G:List AV) (p:Int) (h:p < 0∨(M.length:Int)≤p):Pure Tryz.prog 11 [.agg [.sl 6 M,.sl 5 G],iv p] (.tup [.v (.slice none 0 0),.v (.slice none 0 0),iv 2]):=by
 have c:=rlChkR M G p h;clear h;refine Zaa (tok:=0) Tryz.func11 rfl Tryz.ntmps11 Tryz.results11 Tryz.call11 (by rfl) (by simp) ?_;(focus (refine wkap w_t (w_1 c) (w_r 0) ?_;(repeat' first|exact w_t|apply w_l);all_goals intros));all_goals exact gL
theorem rlWtsN (M G:List AV) (i:Nat) (hi:i < M.length) (c:Pure Tryz.prog 36 [.agg [.sl 6 M,.sl 5 G],iv i] (.tup [.v (.slice none 0 0),.v (.slice none 0 0),.v (.slice none 0 0),iv 8])):Pure Tryz.prog 11 [.agg [.sl 6 M,.sl 5 G],iv i] (.tup [.v (.slice none 0 0),.v (.slice none 0 0),iv 8]):=by
 have c0:=Zlg M G i hi;clear hi;refine Zaa (tok:=0) Tryz.func11 rfl Tryz.ntmps11 Tryz.results11 Tryz.call11 (by rfl) (by simp) ?_;(focus (refine wkap w_t (w_2 c0 c) (w_r 0) ?_;(repeat' first|exact w_t|apply w_l);all_goals intros));all_goals exact gL
theorem rlWtsZ (M G:List AV) (i:Nat) (hi:i < M.length) (PS A B:List AV) (hB:B.length=0) (c:Pure Tryz.prog 36 [.agg [.sl 6 M,.sl 5 G],iv i] (.tup [.sl 1 PS,.sl 1 A,.sl 4 B,iv 0])):Pure Tryz.prog 11 [.agg [.sl 6 M,.sl 5 G],iv i] (.tup [.v (.slice none 0 0),.v (.slice none 0 0),iv 3]):=by
 have c0:=Zlg M G i hi;clear hi;refine Zaa (tok:=0) Tryz.func11 rfl Tryz.ntmps11 Tryz.results11 Tryz.call11 (by rfl) (by simp) ?_;(focus (refine wkap (w_1 hB) (w_2 c0 c) (w_r 0) ?_;(repeat' first|exact w_t|apply w_l);all_goals intros));all_goals exact gL
theorem rlWtsO (M G:List AV) (i:Nat) (hi:i < M.length) (ps:List Int) (ab:List QTs) (be:QTs) (hab:ab.length≤100) (hps:ps.length≤100) (hbe:be.length≤100) (hb0:¬be.length=0) (c:Pure Tryz.prog 36 [.agg [.sl 6 M,.sl 5 G],iv i] (.tup [.sl 1 (ps.map iv),.sl 1 (ab.map qpA),.sl 4 (be.map qtA),iv 0])):Pure Tryz.prog 11 [.agg [.sl 6 M,.sl 5 G],iv i] (.tup [.sl 1 (ps.map iv),.sl 2 (ab.map (wA be)),iv 0]):=by
 have c0:=Zlg M G i hi;clear hi;have hlm:(ab.map qpA).length=ab.length:=List.length_map ..;have hlb:(be.map qtA).length=be.length:=List.length_map ..;have hlp:(ps.map iv).length≤100:=by rw [List.length_map];exact hps
 have hg:∀k (h:k < ab.length),(ab.map qpA).getD k .u=.sl 4 (ab[k].map qtA):=λk h=>Zap qpA h;have hts:∀k (h:k < ab.length),(ab.take (k+1)).map (wA be)=(ab.take k).map (wA be)++[.agg [.sl 4 (ab[k].map qtA),.sl 4 (be.map qtA)]]:=λk h=>by rw [List.take_succ_eq_append_getElem h,List.map_append];rfl
 have hwl:∀k,((ab.take k).map (wA be)).length≤100:=λk=>by rw [List.length_map,List.length_take];omega
 have hf:ab.take ab.length=ab:=List.take_length;generalize hWW:(λk=>(ab.take k).map (wA be))=W at *;have hW:∀k,(ab.take k).map (wA be)=W k:=λk=>by rw [←hWW]
 have hR:ab.map (wA be)=W ab.length:=by rw [←hW,hf]
 have hW0:W 0=[]:=by rw [←hW];rfl
 simp only [hW] at hts hwl;rw [hR];generalize ab.map qpA=A at *;generalize ps.map iv=PS at *;generalize be.map qtA=B at *;clear hWW hW hR hf;have hB0:¬B.length=0:=by omega
 refine Zaa (tok:=0) Tryz.func11 rfl Tryz.ntmps11 Tryz.results11 Tryz.call11 (by rfl) (by simp) ?_;(focus (refine wkap (w_2 hlm hB0) (w_2 c0 c) (w_r 0) ?_;(repeat' first|exact w_t|apply w_l);all_goals intros));refine Zeu (Frz.nilOwn (d:=12) 48 2 33 (by exact gC)) ?_;refine Zac (ι:=Nat) (λk e m=>k≤ab.length∧(e 8=.sl 1 PS∧e 9=.sl 1 A∧e 10=.sl 4 B∧e 13=iv k)∧∃sv,e 12=.own 48 sv∧m 48=some (.row sv 33 2 (W k) 0)) (λk=>ab.length - k) 0 (by rfl) ?_ ?_
 ·rintro k e m ⟨hk,⟨e8,e9,e10,e13⟩,sv,e12,m48⟩
  by_cases hlt:k < ab.length
  ·have hgk:=hg k hlt;have htk:=hts k hlt;have hwk:=hwl k;clear hg hts hwl c0 c;generalize ab[k].map qtA=Y at *;(focus (refine wkap (w_8 e8 e9 e10 e13 e12 m48 hlm hgk) w_t (w_r 0) ?_;(repeat' first|exact w_t|apply w_l);all_goals intros));exact⟨k+1,⟨by omega,⟨by exact gW e8,by exact gW e9,by exact gW e10,by exact gS⟩,_,by exact gC,by rw [htk];exact gC⟩,by omega⟩
  ·have:k=ab.length:=by omega
   subst this;have hwk:=hwl ab.length;(focus (refine wkap (w_8 e8 e9 e10 e13 e12 m48 hlm hlp) w_t (w_r 0) ?_;(repeat' first|exact w_t|apply w_l);all_goals intros));all_goals (all_goals (try simp (disch:=omega) only [go_sem,m48,decide_eq_true,decide_eq_false,if_pos,if_neg,Int.reduceAdd,Int.reduceSub,Int.reduceToNat,Int.zero_add]));(all_goals first|done|rfl|(congr 2;first|done|omega|(rw [Bool.eq_iff_iff];simp only [bool_to_prop,Bool.false_eq_true,iff_true,true_iff,iff_false,false_iff];omega))|skip)
 ·exact⟨Nat.zero_le _,⟨by exact gC,by exact gC,by exact gC,by exact gC⟩,_,by exact gC,by rw [hW0];exact gC⟩
theorem few25 (ss:List RS) (gs:List RG) (b:Bool) (c:Pure Tryz.prog 12 [figA ss gs] (.v (.bool b))):Pure Tryz.prog 5 [.agg [.sl 6 (ss.map RS.av),.sl 5 (gs.map RG.av)]] (.v (.bool b)):=by
 have c:Pure Tryz.prog 12 [.agg [.sl 6 (ss.map RS.av),.sl 5 (gs.map RG.av)]] (.v (.bool b)):=c;generalize ss.map RS.av=M at *;generalize gs.map RG.av=N at *;refine Zaa (tok:=0) Tryz.func5 rfl Tryz.ntmps5 Tryz.results5 Tryz.call5 (by rfl) (by simp) ?_;(focus (refine wkap w_t (w_1 c) (w_r 0) ?_;(repeat' first|exact w_t|apply w_l);all_goals intros));all_goals exact gL
theorem lwWtsN (M G:List AV) (p:Int) (cf:Pure Tryz.prog 5 [.agg [.sl 6 M,.sl 5 G]] (.v (.bool false))) (ca:Pure Tryz.prog 6 [] (.v (.bool true))):Pure Tryz.prog 4 [.agg [.sl 6 M,.sl 5 G],iv p] (.v (.bool true)):=by
 refine Zaa (tok:=0) Tryz.func4 rfl Tryz.ntmps4 Tryz.results4 Tryz.call4 (by rfl) (by simp) ?_;(focus (refine wkad w_t (w_2 cf ca) w_t ?_;(repeat' first|exact w_t|apply w_l);all_goals intros));all_goals exact gL
theorem Zw6 (M G:List AV) (p z:Int) (cf:Pure Tryz.prog 5 [.agg [.sl 6 M,.sl 5 G]] (.v (.bool true))) (ca:Pure Tryz.prog 6 [] (.v (.bool true)))
 (c1:Pure Tryz.prog 10 [.agg [.sl 6 M,.sl 5 G],iv p] (.tup [.v (.slice none 0 0),.v (.slice none 0 0),iv z])) (c2:Pure Tryz.prog 11 [.agg [.sl 6 M,.sl 5 G],iv p] (.tup [.v (.slice none 0 0),.v (.slice none 0 0),iv z])):Pure Tryz.prog 4 [.agg [.sl 6 M,.sl 5 G],iv p] (.v (.bool true)):=by
 refine Zaa (tok:=0) Tryz.func4 rfl Tryz.ntmps4 Tryz.results4 Tryz.call4 (by rfl) (by simp) ?_;(focus (refine wkax w_t (w_4 cf c1 c2 ca) w_t w_t w_t w_t (w_r 2) ?_;(repeat' first|exact w_t|apply w_l);all_goals intros));all_goals exact gL
theorem lwWtsO (M G:List AV) (p:Int) (ps:List Int) (ab:List QTs) (be:QTs) (hab:ab.length=ps.length) (hps:ps.length≤100) (hbe:be.length≤100) (cf:Pure Tryz.prog 5 [.agg [.sl 6 M,.sl 5 G]] (.v (.bool true))) (ca:Pure Tryz.prog 6 [] (.v (.bool true)))
 (c1:Pure Tryz.prog 10 [.agg [.sl 6 M,.sl 5 G],iv p] (.tup [.sl 1 (ps.map iv),.sl 2 (ab.map (wA be)),iv 0])) (c2:Pure Tryz.prog 11 [.agg [.sl 6 M,.sl 5 G],iv p] (.tup [.sl 1 (ps.map iv),.sl 2 (ab.map (wA be)),iv 0]))
 (cs:∀w∈ab,Pure Tryz.prog 9 [wA be w,wA be w] (.v (.bool true))):Pure Tryz.prog 4 [.agg [.sl 6 M,.sl 5 G],iv p] (.v (.bool true)):=by
 have hlp:(ps.map iv).length=ps.length:=List.length_map ..;have hlw:(ab.map (wA be)).length=ps.length:=by rw [List.length_map];exact hab
 have hg:∀k (h:k < ps.length),(ps.map iv).getD k .u=iv ps[k]:=λk h=>Zap iv h;have hw:∀k,k < ps.length→(ab.map (wA be)).getD k .u=.agg [.sl 4 ((ab.getD k []).map qtA),.sl 4 (be.map qtA)]:=λk h=>by
  have h':k < ab.length:=by omega
  rw [Zgq h'];exact Zap (wA be) h'
 have cs':∀k,k < ps.length→Pure Tryz.prog 9 [.agg [.sl 4 ((ab.getD k []).map qtA),.sl 4 (be.map qtA)],.agg [.sl 4 ((ab.getD k []).map qtA),.sl 4 (be.map qtA)]] (.v (.bool true)):=λk h=>by
  have h':k < ab.length:=by omega
  rw [Zgq h'];exact cs _ (List.getElem_mem h')
 clear cs;generalize ab.map (wA be)=W at *;generalize ps.map iv=PS at *;generalize be.map qtA=B at *;refine Zaa (tok:=0) Tryz.func4 rfl Tryz.ntmps4 Tryz.results4 Tryz.call4 (by rfl) (by simp) ?_;(focus (refine wkad (w_2 hlp hlw) (w_3 cf c1 c2) w_t ?_;(repeat' first|exact w_t|apply w_l);all_goals intros));refine Zac (ι:=Nat) (λk e m=>k≤ps.length∧e 5=.sl 1 PS∧e 6=.sl 2 W∧e 8=.sl 1 PS∧e 9=.sl 2 W∧e 11=iv k) (λk=>ps.length - k) 0 (by rfl) ?_ ?_
 ·rintro k e m ⟨hk,e5,e6,e8,e9,e11⟩
  by_cases hlt:k < ps.length
  ·have hgk:=hg k hlt;have hwk:=hw k hlt;have csk:=cs' k hlt;clear hg hw cs' c1 c2 cf ca;generalize (ab.getD k []).map qtA=Y at *;generalize ps[k]=z at *;(focus (refine wkad (w_9 e5 e6 e8 e9 e11 hlp hlw hgk hwk) (w_1 csk) (w_1 (w_d 10 [(18,.v (.bool true))] [] [])) ?_;(repeat' first|exact w_t|apply w_l);all_goals intros));exact⟨k+1,⟨by omega,by exact gW e5,by exact gW e6,by exact gW e8,by exact gW e9,by exact gS⟩,by omega⟩
  ·have:k=ps.length:=by omega
   subst this;(focus (refine wkad (w_7 e5 e6 e8 e9 e11 hlp hlw) (w_1 ca) w_t ?_;(repeat' first|exact w_t|apply w_l);all_goals intros));all_goals exact gL
 ·exact⟨Nat.zero_le _,by exact gC,by exact gC,by exact gC,by exact gC,by exact gC⟩
theorem elLmA (M G:List AV) (i:Nat) (k a b c:Int) (hi:i < M.length) (c1:Pure Tryz.prog 15 [.agg [iv k,iv a,iv b,iv c]] (.v (.bool false))):Pure Tryz.prog 7 [.agg [.sl 6 M,.sl 5 G],iv i,.agg [iv k,iv a,iv b,iv c]] (.tup [.agg [.v (.slice none 0 0),.v (.slice none 0 0)],iv 1]):=by
 refine Zaa (tok:=0) Tryz.func7 rfl Tryz.ntmps7 Tryz.results7 Tryz.call7 (by rfl) (by simp) ?_;(focus (refine wkad (w_1 hi) (w_1 c1) w_t ?_;(repeat' first|exact w_t|apply w_l);all_goals intros));all_goals exact gL
theorem elLmV (M G:List AV) (i:Nat) (k a b c:Int) (R:AV) (pq:List Int) (nk na nb nc sg sk:Int) (nm:ByteArray) (A0:List AV) (rb:Bool) (rn rd:List Nat) (hi:i < M.length) (hs:M.getD i .u=.agg [iv sk,strA nm,.sl 1 A0,.v (.bool rb),lim rn,lim rd]) (hpl:pq.length≤100)
 (c1:Pure Tryz.prog 15 [.agg [iv k,iv a,iv b,iv c]] (.v (.bool true))) (c2:Pure Tryz.prog 16 [.agg [iv k,iv a,iv b,iv c]] (.sl 1 (pq.map iv))) (c3:Pure Tryz.prog 17 [.agg [iv k,iv a,iv b,iv c]] (.tup [.agg [iv nk,iv na,iv nb,iv nc],iv sg]))
 (hP:∀j,j < pq.length→(M.length:Int)≤gI pq j→R=.tup [.agg [.v (.slice none 0 0),.v (.slice none 0 0)],iv 2])
 (hD:(∀j,j < pq.length→gI pq j < (M.length:Int)) →
  (sg=0∧∃O N,Pure Tryz.prog 19 [.agg [iv k,iv a,iv b,iv c]] (.sl 4 O)∧Pure Tryz.prog 20 [iv 1] (.sl 4 N)∧R=.tup [.agg [.sl 4 O,.sl 4 N],iv 0])
  ∨ (¬sg=0∧∃PN O N,Pure Tryz.prog 16 [.agg [iv nk,iv na,iv nb,iv nc]] (.sl 1 PN)∧Pure Tryz.prog 18 [.sl 1 PN,iv i] (.v (.bool false))∧Pure Tryz.prog 19 [.agg [iv k,iv a,iv b,iv c]] (.sl 4 O)∧Pure Tryz.prog 20 [iv 1] (.sl 4 N)∧R=.tup [.agg [.sl 4 O,.sl 4 N],iv 0])
  ∨ (¬sg=0∧∃PN,Pure Tryz.prog 16 [.agg [iv nk,iv na,iv nb,iv nc]] (.sl 1 PN)∧Pure Tryz.prog 18 [.sl 1 PN,iv i] (.v (.bool true)) ∧
    ((sk=4∧∃a0 a1 a2 pk pq pr pm T N SG TT,A0=[iv a0,iv a1,iv a2]∧Pure Tryz.prog 22 [.agg [iv nk,iv na,iv nb,iv nc],iv i] (.agg [iv pk,iv pq,iv pr,.v (.bool pm)])∧Pure Tryz.prog 21 [iv a0,iv a1,iv a2,.agg [iv pk,iv pq,iv pr,.v (.bool pm)]] (.agg [.sl 4 T,.sl 4 N])∧Pure Tryz.prog 20 [iv sg] (.sl 4 SG)∧Pure Tryz.prog 25 [.sl 4 SG,.sl 4 T] (.sl 4 TT)∧R=.tup [.agg [.sl 4 TT,.sl 4 N],iv 0])
    ∨ (¬sk=4∧∃z,¬z=0∧Pure Tryz.prog 23 [.agg [.sl 6 M,.sl 5 G],iv i] (.tup [.agg [.v (.slice none 0 0),.v (.slice none 0 0),.v (.slice none 0 0)],iv z])∧R=.tup [.agg [.v (.slice none 0 0),.v (.slice none 0 0)],iv z])
    ∨ (¬sk=4∧∃PS AB BE pk pq pr pm T N SG TT,Pure Tryz.prog 23 [.agg [.sl 6 M,.sl 5 G],iv i] (.tup [.agg [.sl 1 PS,.sl 1 AB,.sl 4 BE],iv 0])∧Pure Tryz.prog 22 [.agg [iv nk,iv na,iv nb,iv nc],iv i] (.agg [iv pk,iv pq,iv pr,.v (.bool pm)])∧Pure Tryz.prog 24 [.agg [.sl 1 PS,.sl 1 AB,.sl 4 BE],.agg [iv pk,iv pq,iv pr,.v (.bool pm)]] (.agg [.sl 4 T,.sl 4 N])∧Pure Tryz.prog 20 [iv sg] (.sl 4 SG)∧Pure Tryz.prog 25 [.sl 4 SG,.sl 4 T] (.sl 4 TT)∧R=.tup [.agg [.sl 4 TT,.sl 4 N],iv 0])))) :
 Pure Tryz.prog 7 [.agg [.sl 6 M,.sl 5 G],iv i,.agg [iv k,iv a,iv b,iv c]] (R):=by
 have hlp:(pq.map iv).length=pq.length:=List.length_map ..;have hg:∀j,j < pq.length→(pq.map iv).getD j .u=iv (gI pq j):=λj h=>by rw [Zex h];exact Zap iv h
 generalize pq.map iv=PQ at *;refine Zaa (tok:=0) Tryz.func7 rfl Tryz.ntmps7 Tryz.results7 Tryz.call7 (by rfl) (by simp) ?_;(focus (refine wkad (w_2 hi hlp) (w_2 c1 c2) w_t ?_;(repeat' first|exact w_t|apply w_l);all_goals intros));rename_i g3 g5 g6;refine Zac (ι:=Nat) (λj e m=>j≤pq.length∧(e 1=iv i∧(e 3=.pbox 3 g3 0∧m 3=some (.box g3 25 [.sl 6 M,.sl 5 G] false))∧(e 5=.pbox 5 g5 0∧m 5=some (.box g5 27 [iv k,iv a,iv b,iv c] false))∧(e 6=.pbox 6 g6 0∧m 6=some (.box g6 33 [.v (.slice none 0 0),.v (.slice none 0 0)] false)))∧(e 31=.sl 1 PQ∧e 32=iv pq.length∧e 33=iv j)∧∀j',j' < j→gI pq j' < (M.length:Int)) (λj=>pq.length - j) 0 (by rfl) ?_ ?_
 ·rintro j e m ⟨hj,⟨e1,⟨e3,m3⟩,⟨e5,m5⟩,⟨e6,m6⟩⟩,⟨e31,e32,e33⟩,hall⟩
  by_cases hlt:j < pq.length
  ·have hgj:=hg j hlt;have hPj:=hP j hlt;clear hP hD hg c1 c2 c3;by_cases hb:(M.length:Int)≤gI pq j
   ·obtain rfl:=hPj hb;clear hall;generalize gI pq j=z at *;(focus (refine wkad (w_13 e1 e3 m3 e5 m5 e6 m6 e31 e32 e33 hlp hgj hb) w_t w_t ?_;(repeat' first|exact w_t|apply w_l);all_goals intros));all_goals (all_goals (try simp (disch:=omega) only [go_sem,e6,m6,decide_eq_true,decide_eq_false,if_pos,if_neg,Int.reduceAdd,Int.reduceSub,Int.reduceToNat,Int.zero_add]));(all_goals first|done|rfl|(congr 2;first|done|omega|(rw [Bool.eq_iff_iff];simp only [bool_to_prop,Bool.false_eq_true,iff_true,true_iff,iff_false,false_iff];omega))|skip)
   ·have hall2:∀j',j' < j+1→gI pq j' < (M.length:Int):=λj' h'=>by
     by_cases h2:j'=j
     ·rw [h2];omega
     ·exact hall j' (by omega)
    clear hall hPj;have hb':¬(M.length:Int)≤gI pq j:=hb;generalize hz:gI pq j=z at hgj hb';(focus (refine wkad (w_13 e1 e3 m3 e5 m5 e6 m6 e31 e32 e33 hlp hgj hb') w_t w_t ?_;(repeat' first|exact w_t|apply w_l);all_goals intros));exact⟨j+1,⟨by omega,⟨by exact gW e1,⟨by exact gW e3,by exact gW m3⟩,⟨by exact gW e5,by exact gW m5⟩,⟨by exact gW e6,by exact gW m6⟩⟩,⟨by exact gW e31,by exact gW e32,by exact gS⟩,hall2⟩,by omega⟩
  ·have hjn:j=pq.length:=by omega
   subst hjn;have hD:=hD hall;clear hP hall hg c1 c2;rcases hD with⟨hg0,O,N,d1,d2,rfl⟩ | ⟨hg0,PN,O,N,d1,d2,d3,d4,rfl⟩ | ⟨hg0,PN,d1,d2,hD⟩
   ·(focus (refine wkad (w_12 e1 e3 m3 e5 m5 e6 m6 e31 e32 e33 hlp hg0) (w_3 c3 d1 d2) w_t ?_;(repeat' first|exact w_t|apply w_l);all_goals intros));all_goals (all_goals (try simp (disch:=omega) only [go_sem,e6,m6,decide_eq_true,decide_eq_false,if_pos,if_neg,Int.reduceAdd,Int.reduceSub,Int.reduceToNat,Int.zero_add]));(all_goals first|done|rfl|(congr 2;first|done|omega|(rw [Bool.eq_iff_iff];simp only [bool_to_prop,Bool.false_eq_true,iff_true,true_iff,iff_false,false_iff];omega))|skip)
   ·(focus (refine wkad (w_12 e1 e3 m3 e5 m5 e6 m6 e31 e32 e33 hlp hg0) (w_5 c3 d1 d2 d3 d4) w_t ?_;(repeat' first|exact w_t|apply w_l);all_goals intros));all_goals (all_goals (try simp (disch:=omega) only [go_sem,e6,m6,decide_eq_true,decide_eq_false,if_pos,if_neg,Int.reduceAdd,Int.reduceSub,Int.reduceToNat,Int.zero_add]));(all_goals first|done|rfl|(congr 2;first|done|omega|(rw [Bool.eq_iff_iff];simp only [bool_to_prop,Bool.false_eq_true,iff_true,true_iff,iff_false,false_iff];omega))|skip)
   ·rcases hD with⟨h4,a0,a1,a2,pk,pq,pr,pm,T,N,SG,TT,rfl,f1,f2,f3,f4,rfl⟩ | ⟨h4,z,hz,f1,rfl⟩ | ⟨h4,PS,AB,BE,pk,pq,pr,pm,T,N,SG,TT,f0,f1,f2,f3,f4,rfl⟩
    ·(focus (refine wkad (w_15 e1 e3 m3 e5 m5 e6 m6 e31 e32 e33 hlp hg0 h4 hi hs) (w_7 c3 d1 d2 f1 f2 f3 f4) (w_2 (w_d 17 [(14,.agg [iv pk,iv pq,iv pr,.v (.bool pm)]),(15,.agg [.sl 4 T,.sl 4 N])] [] [13]) (w_d 22 [(1,.sl 4 SG),(4,.sl 4 TT)] [6] [])) ?_;(repeat' first|exact w_t|apply w_l);all_goals intros));all_goals (all_goals (try simp (disch:=omega) only [go_sem,e6,m6,decide_eq_true,decide_eq_false,if_pos,if_neg,Int.reduceAdd,Int.reduceSub,Int.reduceToNat,Int.zero_add]));(all_goals first|done|rfl|(congr 2;first|done|omega|(rw [Bool.eq_iff_iff];simp only [bool_to_prop,Bool.false_eq_true,iff_true,true_iff,iff_false,false_iff];omega))|skip)
    ·(focus (refine wkad (w_16 e1 e3 m3 e5 m5 e6 m6 e31 e32 e33 hlp hg0 h4 hz hi hs) (w_4 c3 d1 d2 f1) w_t ?_;(repeat' first|exact w_t|apply w_l);all_goals intros));all_goals (all_goals (try simp (disch:=omega) only [go_sem,e6,m6,decide_eq_true,decide_eq_false,if_pos,if_neg,Int.reduceAdd,Int.reduceSub,Int.reduceToNat,Int.zero_add]));(all_goals first|done|rfl|(congr 2;first|done|omega|(rw [Bool.eq_iff_iff];simp only [bool_to_prop,Bool.false_eq_true,iff_true,true_iff,iff_false,false_iff];omega))|skip)
    ·(focus (refine wkad (w_15 e1 e3 m3 e5 m5 e6 m6 e31 e32 e33 hlp hg0 h4 hi hs) (w_8 c3 d1 d2 f0 f1 f2 f3 f4) (w_2 (w_d 21 [(3,.agg [iv pk,iv pq,iv pr,.v (.bool pm)]),(4,.agg [.sl 4 T,.sl 4 N])] [] [13]) (w_d 22 [(1,.sl 4 SG),(4,.sl 4 TT)] [6] [])) ?_;(repeat' first|exact w_t|apply w_l);all_goals intros));all_goals (all_goals (try simp (disch:=omega) only [go_sem,e6,m6,decide_eq_true,decide_eq_false,if_pos,if_neg,Int.reduceAdd,Int.reduceSub,Int.reduceToNat,Int.zero_add]));(all_goals first|done|rfl|(congr 2;first|done|omega|(rw [Bool.eq_iff_iff];simp only [bool_to_prop,Bool.false_eq_true,iff_true,true_iff,iff_false,false_iff];omega))|skip)
 ·exact⟨Nat.zero_le _,⟨by exact gC,⟨by exact gC,by exact gC⟩,⟨by exact gC,by exact gC⟩,⟨by exact gC,by exact gC⟩⟩,⟨by exact gC,by exact gW hlp,by exact gC⟩,λj' h=>absurd h (by omega)⟩
section
attribute [local go_sem] Tryz.underlying3 Tryz.underlying4 Tryz.underlying160 Tryz.underlying49 Tryz.underlying51 Tryz.underlying53 Tryz.underlying27 Tryz.underlying54 Tryz.underlying56 Tryz.underlying30 Tryz.underlying31 sz3 by3 z3 szB zB Zax zRat Za3 zInt Za2 zNat Zag Zaq Zah Bool.and_self Zal Zbh zSlQ szQT byQT zQT Zbj zSlT szQP zQP Tryz.underlying70 Tryz.underlying33 szFr byFr zFr Zce Zcj zSQP Tryz.underlying9 Tryz.underlying39 Tryz.underlying34 Tryz.underlying65 Tryz.underlying22 Tryz.underlying25 Tryz.underlying87 Tryz.underlying23 Zcf zErr Zbq Zct zStr szL byL zL Zca Zcb Zdq Zdv zFig Zdu zSlI Zdt zSlS Zcl Zco Zd7 Zd8 zSlF Tryz.underlying72 Tryz.underlying103 Tryz.underlying68 Tryz.underlying101 Tryz.underlying40 Zfi Zfr zCmb Zfg zSch szFn zFn Zfh zPlc Zc5 Zff
end
theorem chk_0 {q:Qt} {n:Int} (hok:q.ok=true) (h:∀j,j < q.pts.length→gI q.pts j < n):q.chk n 64=0:=by
 unfold Qt.chk;rw [if_pos hok];have hr:=hok;unfold Qt.ok at hr;simp at hr;by_cases h3:q.k=3
 ·rw [if_pos h3,if_neg (by omega)]
 ·rw [if_neg h3,if_neg λhb=>?_]
  obtain⟨y,hy,hn⟩:∃y,(y=q.a∨y=q.b∨y=q.c)∧n≤y:=by
   rcases hb with hb | hb | hb
   ·exact⟨q.a,.inl rfl,hb⟩
   ·exact⟨q.b,.inr (.inl rfl),hb⟩
   ·exact⟨q.c,.inr (.inr rfl),hb⟩
  have:=Zsj hok h3 hy;obtain⟨t,ht,e⟩:=List.any_eq_true.1 this;obtain rfl:y=t:=by simpa using e
  obtain⟨j,hj,e⟩:=List.mem_iff_getElem.1 ht;have:=h j hj;rw [Zex hj,e] at this;omega
theorem chk_2 {q:Qt} {n:Int} {j:Nat} (hj:j < q.pts.length) (h:n≤gI q.pts j):q.chk n 64=2:=by
 have hm:gI q.pts j∈q.pts:=by rw [Zex hj];exact List.getElem_mem hj
 have hh:hasQ (gI q.pts j) q=true:=List.any_eq_true.2 ⟨_,hm,by simp⟩;obtain⟨hok,h3,ho⟩:=Zlu hh;unfold Qt.chk;rw [if_pos hok,if_neg h3,if_pos (by omega)]
theorem Zqg {q:Qt} {n x:Int} (hc:q.chk n 64=0) (hs:q.norm.2≠0) (hx:hasQ x q.norm.1=true):0≤q.norm.1.a∧q.norm.1.a < n∧0≤q.norm.1.b∧q.norm.1.b < n∧0≤q.norm.1.c∧q.norm.1.c < n:=by
 obtain⟨h1,h2,_⟩:=Zlu hx;have ha:=Zjp hs (Zsj h1 h2 (.inl rfl));have hb:=Zjp hs (Zsj h1 h2 (.inr (.inl rfl)));have hcc:=Zjp hs (Zsj h1 h2 (.inr (.inr rfl)))
 have hok:q.ok=true:=by
  cases h:q.ok with
  | true=>rfl
  | false=>unfold Qt.norm at hs;rw [if_neg (by rw [h];simp)] at hs;exact absurd rfl hs
 have h3:¬q.k=3:=λh=>by
  unfold Qt.norm at h2;rw [if_pos hok,if_neg (by omega),if_neg (by omega)] at h2;exact h2 h
 unfold Qt.chk at hc;rw [if_pos hok,if_neg h3] at hc;have hr:=hok;unfold Qt.ok at hr;simp at hr;split at hc
 ·omega
 ·omega
theorem Zn5 {s:Int} (h:s=-1∨s=1):Sz (s:Rat) 2:=by
 rcases h with rfl | rfl
 ·exact sz_m1.mono (by decide)
 ·exact Zi2.mono (by decide)
def lmA (q:Qt) (n:Int) (z:Int × XX) (N:AV):AV:=if q.chk n 64=0 then (if z.1=0 then .tup [.agg [qpA z.2.1,qpA z.2.2],iv 0] else .tup [.agg [N,.v (.slice none 0 0)],iv z.1]) else .tup [.agg [.v (.slice none 0 0),.v (.slice none 0 0)],iv (q.chk n 64)]
abbrev lmS (ss:List RS) (i:Nat) (hi:i < ss.length) (q:Qt):Int × XX:=lmX ss[i].k ss[i].ar ss[i].r.q (tOf ss i) i q
theorem nx1:nX 1=onX:=by decide +kernel
theorem scl_no (s:Int) (p:QTs) (h:EX p) (hs:s=-1∨s=1):mulX (nX (s:Rat)) p=sclT (s:Rat) p:=by
 show mulX (cstT (s:Rat)) p=_;rw [Zng h,if_neg (by rcases hs with rfl | rfl<;>decide +kernel)]
theorem sg_of {q:Qt} (h:q.norm.2≠0):q.norm.2=-1∨q.norm.2=1:=by
 rcases Zhs q with g | g | g
 ·exact .inl g
 ·exact absurd g h
 ·exact .inr g
theorem XS.l12 {p q:QTs} (hp:p.length≤1) (hq:q.length≤12):p.length*q.length≤12:=Nat.le_trans (Nat.mul_le_mul hp hq) (by decide)
theorem elNumS {s:Int} (h:s=-1∨s=1):Pure Tryz.prog 20 [iv s] (qpA (nX (s:Rat))):=by
 rcases h with rfl | rfl
 ·exact elNumM
 ·exact Zif
theorem Zq1 (ss:List RS) (gs:List RG) (i:Nat) (hi:i < ss.length) (h8:ss.length≤8) (he:errS ss i=0) (hr:ss[i].r.lm 2) (k a b c:Int):Pure Tryz.prog 7 [figA ss gs,iv i,.agg [iv k,iv a,iv b,iv c]] (lmA ⟨k,a,b,c⟩ ss.length (lmS ss i hi ⟨k,a,b,c⟩) (.v (.slice none 0 0))):=by
 have hM:(ss.map RS.av).getD i .u=.agg [iv ss[i].k,strA ss[i].nm,ivs ss[i].ar,.v (.bool ss[i].r.s),lim ss[i].r.l,lim ss[i].r.d]:=Zap RS.av hi;have hl:i < (ss.map RS.av).length:=by rw [List.length_map];exact hi
 have hlm:((ss.map RS.av).length:Int)=ss.length:=by rw [List.length_map]
 have hA:=st_a hi h8 he hr;have cc:=elComb ss gs i hi h8 he hr;have c1:=Zke k a b c;generalize hq:(⟨k,a,b,c⟩:Qt)=q at *;have hqv:q.av=.agg [iv k,iv a,iv b,iv c]:=by rw [←hq]
 cases hok:q.ok with
 | false =>
   rw [hok] at c1;have h1:q.chk ss.length 64=1:=by unfold Qt.chk;rw [if_neg (by rw [hok];simp)]
   unfold lmA;rw [if_neg (by rw [h1];decide),h1];exact elLmA _ _ i k a b c hl (by rw [←hqv];exact c1)
 | true =>
   rw [hok] at c1;have c2:Pure Tryz.prog 16 [q.av] (ivs q.pts):=by rw [←hq];exact Zru k a b c
   have c3:Pure Tryz.prog 17 [q.av] (.tup [q.norm.1.av,iv q.norm.2]):=by rw [←hq];exact quNorm k a b c
   have co:=exOfS hok;have cN:Pure Tryz.prog 16 [q.norm.1.av] (ivs q.norm.1.pts):=Zru q.norm.1.k q.norm.1.a q.norm.1.b q.norm.1.c;have cs:=slConI q.norm.1.pts i (by have:=Zwd q.norm.1;omega);have cs:Pure Tryz.prog 18 [ivs q.norm.1.pts,iv i] (.v (.bool (hasQ i q.norm.1))):=cs;have cp:Pure Tryz.prog 22 [q.norm.1.av,iv i] (Pl.av (plOf q.norm.1 i)):=elPlaced q.norm.1.k q.norm.1.a q.norm.1.b q.norm.1.c i;rw [hqv] at c1 c2 c3 co;refine elLmV _ _ i k a b c _ q.pts q.norm.1.k q.norm.1.a q.norm.1.b q.norm.1.c q.norm.2 ss[i].k ss[i].nm (ss[i].ar.map iv) ss[i].r.s ss[i].r.l ss[i].r.d hl hM (by have:=Zwd q;omega) c1 c2 c3 (λj hj hle=>?_) (λhall=>?_)
   ·rw [hlm] at hle;have h2:=chk_2 hj hle;unfold lmA;rw [if_neg (by rw [h2];decide),h2]
   ·rw [hlm] at hall;have h0:=chk_0 hok hall;have hlA:∀z N,lmA q ss.length z N=if z.1=0 then .tup [.agg [qpA z.2.1,qpA z.2.2],iv 0] else .tup [.agg [N,.v (.slice none 0 0)],iv z.1]:=λz N=>by unfold lmA;rw [if_pos h0]
    rw [hlA];by_cases hs:q.norm.2=0
    ·refine .inl ⟨hs,_,_,co,Zif,?_⟩;rw [show lmS ss i hi q=(0,(ofX q,[((1:Rat),[])])) from by unfold lmS lmX;rw [if_pos (Or.inl hs)],if_pos rfl,nx1]
    ·cases hh:hasQ i q.norm.1 with
     | false =>
       rw [hh] at cs;refine .inr (.inl ⟨hs,_,_,_,cN,cs,co,Zif,?_⟩);rw [show lmS ss i hi q=(0,(ofX q,[((1:Rat),[])])) from by unfold lmS lmX;rw [if_pos (Or.inr hh)],if_pos rfl,nx1]
     | true =>
       rw [hh] at cs;have hsg:=sg_of hs;have hpl:=Zmv hs (Zqg h0 hs hh) (i:Int);have hln:lmS ss i hi q=if ss[i].k=4 then ((0:Int),(sclT (q.norm.2:Rat) (tuX (gI ss[i].ar 0) (gI ss[i].ar 1) (gI ss[i].ar 2) (plOf q.norm.1 i)),[((1:Rat),[])]))
        else match cbOf ss[i].k ss[i].ar ss[i].r.q (tOf ss i) with
         | none=>((8:Int),(([]:QTs),([]:QTs)))
         | some c=>if c.be=[] then (3,([],[])) else (0,(sclT (q.norm.2:Rat) (afN c (plOf q.norm.1 i)),afD c (plOf q.norm.1 i))):=by
        show lmX _ _ _ _ _ _=_;unfold lmX;rw [if_neg (by rintro (h | h);exact hs h;rw [hh] at h;cases h)];rfl
       refine .inr (.inr ⟨hs,_,cN,cs,?_⟩);rw [hln];have b40:∀{z:Int},(0≤z∧z < (ss.length:Int))→0≤z∧z < 40:=λh=>by omega
       by_cases h4:ss[i].k=4
       ·refine .inl ⟨h4,?_⟩;have h3:=hA.l4 h4;obtain⟨a0,a1,a2,har⟩:=l3 h3;have g:∀j,j < 3→0≤gI ss[i].ar j∧gI ss[i].ar j < 40:=λj hj=>b40 (hA.rg j (by omega));rw [har] at g;have g0:0≤a0∧a0 < 40:=g 0 (by decide);have g1:0≤a1∧a1 < 40:=g 1 (by decide);have g2:0≤a2∧a2 < 40:=g 2 (by decide);have hx:=tu_xl hpl hA.n40 (by have:=hA.rg 0 (by omega);rw [har] at this;exact this:0≤a0∧a0 < (ss.length:Int)) (by have:=hA.rg 1 (by omega);rw [har] at this;exact this:0≤a1∧a1 < (ss.length:Int)) (by have:=hA.rg 2 (by omega);rw [har] at this;exact this:0≤a2∧a2 < (ss.length:Int));refine⟨a0,a1,a2,_,_,_,_,_,_,_,_,by rw [har];rfl,cp,elTurned (plOf q.norm.1 i) a0 a1 a2 g0 g1 g2 (b40 hpl.q) (b40 hpl.r),elNumS hsg,Zhn (Zq6 (Zn5 hsg)) hx.s (XS.l12 (Zf6 _) (Nat.le_trans hx.l (by decide))),?_⟩
        rw [if_pos h4,if_pos rfl,har];show AV.tup [.agg [qpA (sclT (q.norm.2:Rat) (tuX a0 a1 a2 (plOf q.norm.1 i))),qpA onX],iv 0]=_;rw [←scl_no _ _ hx.x.1 hsg,nx1]
       ·refine .inr ?_;rw [if_neg h4]
        cases hc:cbOf ss[i].k ss[i].ar ss[i].r.q (tOf ss i) with
        | none =>
          rw [hc] at cc;exact .inl ⟨h4,8,by decide,cc,by simp only;rw [if_neg (by decide)]⟩
        | some cb =>
          rw [hc] at cc;have ok:=Zji hc hA.sz hA.rg hA.n40 hA.tr hA.l;have cl:=Zyk hc (λg=>by rcases g with g | g;exact hA.l.1 g;exact hA.l.2.1 g);simp only;by_cases hb:cb.be=[]
          ·have cc:Pure Tryz.prog 23 [figA ss gs,iv i] (.tup [.agg [.v (.slice none 0 0),.v (.slice none 0 0),.v (.slice none 0 0)],iv 3]):=by
            have h:=cc;unfold cmR at h;simp only at h;rw [if_pos (by rw [hb];rfl)] at h;exact h
           rw [if_pos hb];exact .inl ⟨h4,3,by decide,cc,by simp only;rw [if_neg (by decide)]⟩
          ·have cc:Pure Tryz.prog 23 [figA ss gs,iv i] (.tup [cb.av,iv 0]):=by
            have h:=cc;unfold cmR at h;simp only at h;rw [if_neg (λh=>hb (List.length_eq_zero_iff.1 h))] at h;exact h
           rw [if_neg hb,if_pos rfl];have hl12:=af_len (plOf q.norm.1 i) cl;have hx:=Zyu ok hpl hA.n40;refine .inr ⟨h4,_,_,_,_,_,_,_,_,_,_,_,cc,cp,elAffine cb (plOf q.norm.1 i) ok cl hpl hA.n40,elNumS hsg,Zhn (Zq6 (Zn5 hsg)) hx.s (XS.l12 (Zf6 _) hl12.1),?_⟩;rw [←scl_no _ _ hx.x.1 hsg]
attribute [local go_sem] Tryz.underlying5 Tryz.underlying89 szU8 byU8 zU8 Zre zSlU8
abbrev midS:List RS:=[⟨1,⟨#[65]⟩,[],⟨false,[],[]⟩⟩,⟨1,⟨#[66]⟩,[],⟨false,[],[]⟩⟩,⟨1,⟨#[67]⟩,[],⟨false,[],[]⟩⟩,⟨2,⟨#[77]⟩,[1,2],⟨false,[1],[2]⟩⟩]
def midL:Nat→List AV
 | 0=>[.agg [iv 1,strA .empty,.v (.slice none 0 0),.v (.bool false),.v (.slice none 0 0),.v (.slice none 0 0)],.agg [iv 1,strA .empty,.v (.slice none 0 0),.v (.bool false),.v (.slice none 0 0),.v (.slice none 0 0)],.agg [iv 1,strA .empty,.v (.slice none 0 0),.v (.bool false),.v (.slice none 0 0),.v (.slice none 0 0)],.agg [iv 2,strA .empty,.sl 1 [iv 1,iv 2],.v (.bool false),lim [1],lim [2]]]
 | 1=>[.agg [iv 1,strA ⟨#[65]⟩,.v (.slice none 0 0),.v (.bool false),.v (.slice none 0 0),.v (.slice none 0 0)],.agg [iv 1,strA .empty,.v (.slice none 0 0),.v (.bool false),.v (.slice none 0 0),.v (.slice none 0 0)],.agg [iv 1,strA .empty,.v (.slice none 0 0),.v (.bool false),.v (.slice none 0 0),.v (.slice none 0 0)],.agg [iv 2,strA .empty,.sl 1 [iv 1,iv 2],.v (.bool false),lim [1],lim [2]]]
 | 2=>[.agg [iv 1,strA ⟨#[65]⟩,.v (.slice none 0 0),.v (.bool false),.v (.slice none 0 0),.v (.slice none 0 0)],.agg [iv 1,strA ⟨#[66]⟩,.v (.slice none 0 0),.v (.bool false),.v (.slice none 0 0),.v (.slice none 0 0)],.agg [iv 1,strA .empty,.v (.slice none 0 0),.v (.bool false),.v (.slice none 0 0),.v (.slice none 0 0)],.agg [iv 2,strA .empty,.sl 1 [iv 1,iv 2],.v (.bool false),lim [1],lim [2]]]
 | 3=>[.agg [iv 1,strA ⟨#[65]⟩,.v (.slice none 0 0),.v (.bool false),.v (.slice none 0 0),.v (.slice none 0 0)],.agg [iv 1,strA ⟨#[66]⟩,.v (.slice none 0 0),.v (.bool false),.v (.slice none 0 0),.v (.slice none 0 0)],.agg [iv 1,strA ⟨#[67]⟩,.v (.slice none 0 0),.v (.bool false),.v (.slice none 0 0),.v (.slice none 0 0)],.agg [iv 2,strA .empty,.sl 1 [iv 1,iv 2],.v (.bool false),lim [1],lim [2]]]
 | _=>[.agg [iv 1,strA ⟨#[65]⟩,.v (.slice none 0 0),.v (.bool false),.v (.slice none 0 0),.v (.slice none 0 0)],.agg [iv 1,strA ⟨#[66]⟩,.v (.slice none 0 0),.v (.bool false),.v (.slice none 0 0),.v (.slice none 0 0)],.agg [iv 1,strA ⟨#[67]⟩,.v (.slice none 0 0),.v (.bool false),.v (.slice none 0 0),.v (.slice none 0 0)],.agg [iv 2,strA ⟨#[77]⟩,.sl 1 [iv 1,iv 2],.v (.bool false),lim [1],lim [2]]]
theorem lwMid:Pure Tryz.prog 13 [] (figA midS []):=by
 have cF:Pure Tryz.prog 39 [iv 1,iv 2] (.agg [.v (.bool false),lim [1],lim [2]]):=by
  have h:=rfHalf
  rwa [show ratQ (1/2)=.agg [.v (.bool false),lim [1],lim [2]] from by
   show AV.agg [.v (.bool (decide ((1/2:Rat).num < 0))),lim (toL (1/2:Rat).num.natAbs),lim (toL (1/2:Rat).den)]=_;rw [show(1/2:Rat).num=1 from by decide +kernel,show(1/2:Rat).den=2 from by decide +kernel,show toL 2=[2] from by decide +kernel,show toL (Int.natAbs 1)=[1] from by decide +kernel];rfl] at h
 refine Zg4 (r:=.agg [.sl 6 [.agg [iv 1,strA ⟨#[65]⟩,.v (.slice none 0 0),.v (.bool false),.v (.slice none 0 0),.v (.slice none 0 0)],.agg [iv 1,strA ⟨#[66]⟩,.v (.slice none 0 0),.v (.bool false),.v (.slice none 0 0),.v (.slice none 0 0)],.agg [iv 1,strA ⟨#[67]⟩,.v (.slice none 0 0),.v (.bool false),.v (.slice none 0 0),.v (.slice none 0 0)],.agg [iv 2,strA ⟨#[77]⟩,.sl 1 [iv 1,iv 2],.v (.bool false),lim [1],lim [2]]],.v (.slice none 0 0)]) ?_ (Vk.aggL (.cons (Vk.slL rfl (by decide) (by decide) ?_) (.cons (.nil 5) .nil)))
 ·refine Zaa (tok:=0) Tryz.func13 rfl Tryz.ntmps13 Tryz.results13 Tryz.call13 (by rfl) (by simp) ?_;(focus (refine wkad w_t (w_1 cF) (w_1 (w_d 2 [(3,.sl 1 [iv 1,iv 2]),(4,.agg [.v (.bool false),lim [1],lim [2]])] [] [2])) ?_;(repeat' first|exact w_t|apply w_l);all_goals intros));rename_i g0 g1 s11 g2;refine Zac (ι:=Nat) (λi e m=>i≤4∧(e 2=.pbox 2 g2 0∧m 2=some (.box g2 25 [.own 11 s11,.v (.slice none 0 0)] false))∧(e 0=.pbox 0 g0 0∧m 0=some (.box g0 25 [.v (.slice none 0 0),.v (.slice none 0 0)] false))∧e 3=iv i∧m 11=some (.row s11 65 6 (midL i) 0)) (λi=>4 - i) 0 (by rfl) ?_ ?_
  ·rintro i e m ⟨hi,⟨e2,m2⟩,⟨e0,m0'⟩,e3,m11⟩
   have h5:i=0∨i=1∨i=2∨i=3∨i=4:=by omega
   rcases h5 with rfl | rfl | rfl | rfl | rfl
   ·rw [show midL 0=[.agg [iv 1,strA .empty,.v (.slice none 0 0),.v (.bool false),.v (.slice none 0 0),.v (.slice none 0 0)],.agg [iv 1,strA .empty,.v (.slice none 0 0),.v (.bool false),.v (.slice none 0 0),.v (.slice none 0 0)],.agg [iv 1,strA .empty,.v (.slice none 0 0),.v (.bool false),.v (.slice none 0 0),.v (.slice none 0 0)],.agg [iv 2,strA .empty,.sl 1 [iv 1,iv 2],.v (.bool false),lim [1],lim [2]]] from rfl] at m11;(focus (refine wkad (w_4 e2 m2 e3 m11) w_t (w_1 (w_d 6 [(5,.sl 1 [.v (.int .u8 65)])] [9] [])) ?_;(repeat' first|exact w_t|apply w_l);all_goals intros));exact⟨1,⟨by omega,⟨by exact gW e2,by exact gW m2⟩,⟨by exact gW e0,by exact gW m0'⟩,by exact gC,by rw [show midL 1=[.agg [iv 1,strA ⟨#[65]⟩,.v (.slice none 0 0),.v (.bool false),.v (.slice none 0 0),.v (.slice none 0 0)],.agg [iv 1,strA .empty,.v (.slice none 0 0),.v (.bool false),.v (.slice none 0 0),.v (.slice none 0 0)],.agg [iv 1,strA .empty,.v (.slice none 0 0),.v (.bool false),.v (.slice none 0 0),.v (.slice none 0 0)],.agg [iv 2,strA .empty,.sl 1 [iv 1,iv 2],.v (.bool false),lim [1],lim [2]]] from rfl];exact gW m11⟩,by omega⟩
   ·rw [show midL 1=[.agg [iv 1,strA ⟨#[65]⟩,.v (.slice none 0 0),.v (.bool false),.v (.slice none 0 0),.v (.slice none 0 0)],.agg [iv 1,strA .empty,.v (.slice none 0 0),.v (.bool false),.v (.slice none 0 0),.v (.slice none 0 0)],.agg [iv 1,strA .empty,.v (.slice none 0 0),.v (.bool false),.v (.slice none 0 0),.v (.slice none 0 0)],.agg [iv 2,strA .empty,.sl 1 [iv 1,iv 2],.v (.bool false),lim [1],lim [2]]] from rfl] at m11;(focus (refine wkad (w_4 e2 m2 e3 m11) w_t (w_1 (w_d 6 [(5,.sl 1 [.v (.int .u8 66)])] [9] [])) ?_;(repeat' first|exact w_t|apply w_l);all_goals intros));exact⟨2,⟨by omega,⟨by exact gW e2,by exact gW m2⟩,⟨by exact gW e0,by exact gW m0'⟩,by exact gC,by rw [show midL 2=[.agg [iv 1,strA ⟨#[65]⟩,.v (.slice none 0 0),.v (.bool false),.v (.slice none 0 0),.v (.slice none 0 0)],.agg [iv 1,strA ⟨#[66]⟩,.v (.slice none 0 0),.v (.bool false),.v (.slice none 0 0),.v (.slice none 0 0)],.agg [iv 1,strA .empty,.v (.slice none 0 0),.v (.bool false),.v (.slice none 0 0),.v (.slice none 0 0)],.agg [iv 2,strA .empty,.sl 1 [iv 1,iv 2],.v (.bool false),lim [1],lim [2]]] from rfl];exact gW m11⟩,by omega⟩
   ·rw [show midL 2=[.agg [iv 1,strA ⟨#[65]⟩,.v (.slice none 0 0),.v (.bool false),.v (.slice none 0 0),.v (.slice none 0 0)],.agg [iv 1,strA ⟨#[66]⟩,.v (.slice none 0 0),.v (.bool false),.v (.slice none 0 0),.v (.slice none 0 0)],.agg [iv 1,strA .empty,.v (.slice none 0 0),.v (.bool false),.v (.slice none 0 0),.v (.slice none 0 0)],.agg [iv 2,strA .empty,.sl 1 [iv 1,iv 2],.v (.bool false),lim [1],lim [2]]] from rfl] at m11;(focus (refine wkad (w_4 e2 m2 e3 m11) w_t (w_1 (w_d 6 [(5,.sl 1 [.v (.int .u8 67)])] [9] [])) ?_;(repeat' first|exact w_t|apply w_l);all_goals intros));exact⟨3,⟨by omega,⟨by exact gW e2,by exact gW m2⟩,⟨by exact gW e0,by exact gW m0'⟩,by exact gC,by rw [show midL 3=[.agg [iv 1,strA ⟨#[65]⟩,.v (.slice none 0 0),.v (.bool false),.v (.slice none 0 0),.v (.slice none 0 0)],.agg [iv 1,strA ⟨#[66]⟩,.v (.slice none 0 0),.v (.bool false),.v (.slice none 0 0),.v (.slice none 0 0)],.agg [iv 1,strA ⟨#[67]⟩,.v (.slice none 0 0),.v (.bool false),.v (.slice none 0 0),.v (.slice none 0 0)],.agg [iv 2,strA .empty,.sl 1 [iv 1,iv 2],.v (.bool false),lim [1],lim [2]]] from rfl];exact gW m11⟩,by omega⟩
   ·rw [show midL 3=[.agg [iv 1,strA ⟨#[65]⟩,.v (.slice none 0 0),.v (.bool false),.v (.slice none 0 0),.v (.slice none 0 0)],.agg [iv 1,strA ⟨#[66]⟩,.v (.slice none 0 0),.v (.bool false),.v (.slice none 0 0),.v (.slice none 0 0)],.agg [iv 1,strA ⟨#[67]⟩,.v (.slice none 0 0),.v (.bool false),.v (.slice none 0 0),.v (.slice none 0 0)],.agg [iv 2,strA .empty,.sl 1 [iv 1,iv 2],.v (.bool false),lim [1],lim [2]]] from rfl] at m11;(focus (refine wkad (w_4 e2 m2 e3 m11) w_t (w_1 (w_d 6 [(5,.sl 1 [.v (.int .u8 77)])] [9] [])) ?_;(repeat' first|exact w_t|apply w_l);all_goals intros));exact⟨4,⟨by omega,⟨by exact gW e2,by exact gW m2⟩,⟨by exact gW e0,by exact gW m0'⟩,by exact gC,by rw [show midL 4=[.agg [iv 1,strA ⟨#[65]⟩,.v (.slice none 0 0),.v (.bool false),.v (.slice none 0 0),.v (.slice none 0 0)],.agg [iv 1,strA ⟨#[66]⟩,.v (.slice none 0 0),.v (.bool false),.v (.slice none 0 0),.v (.slice none 0 0)],.agg [iv 1,strA ⟨#[67]⟩,.v (.slice none 0 0),.v (.bool false),.v (.slice none 0 0),.v (.slice none 0 0)],.agg [iv 2,strA ⟨#[77]⟩,.sl 1 [iv 1,iv 2],.v (.bool false),lim [1],lim [2]]] from rfl];exact gW m11⟩,by omega⟩
   ·rw [show midL 4=[.agg [iv 1,strA ⟨#[65]⟩,.v (.slice none 0 0),.v (.bool false),.v (.slice none 0 0),.v (.slice none 0 0)],.agg [iv 1,strA ⟨#[66]⟩,.v (.slice none 0 0),.v (.bool false),.v (.slice none 0 0),.v (.slice none 0 0)],.agg [iv 1,strA ⟨#[67]⟩,.v (.slice none 0 0),.v (.bool false),.v (.slice none 0 0),.v (.slice none 0 0)],.agg [iv 2,strA ⟨#[77]⟩,.sl 1 [iv 1,iv 2],.v (.bool false),lim [1],lim [2]]] from rfl] at m11;(focus (refine wkad (w_6 e2 m2 e0 m0' e3 m11) w_t w_t ?_;(repeat' first|exact w_t|apply w_l);all_goals intros));all_goals (all_goals (try simp (disch:=omega) only [go_sem,e0,m0',m11,decide_eq_true,decide_eq_false,if_pos,if_neg,Int.reduceAdd,Int.reduceSub,Int.reduceToNat,Int.zero_add]));(all_goals first|done|rfl|(congr 2;first|done|omega|(rw [Bool.eq_iff_iff];simp only [bool_to_prop,Bool.false_eq_true,iff_true,true_iff,iff_false,false_iff];omega))|skip)
  ·exact⟨by omega,⟨by exact gC,by exact gC⟩,⟨by exact gC,by exact gC⟩,by exact gC,by rw [show midL 0=[.agg [iv 1,strA .empty,.v (.slice none 0 0),.v (.bool false),.v (.slice none 0 0),.v (.slice none 0 0)],.agg [iv 1,strA .empty,.v (.slice none 0 0),.v (.bool false),.v (.slice none 0 0),.v (.slice none 0 0)],.agg [iv 1,strA .empty,.v (.slice none 0 0),.v (.bool false),.v (.slice none 0 0),.v (.slice none 0 0)],.agg [iv 2,strA .empty,.sl 1 [iv 1,iv 2],.v (.bool false),lim [1],lim [2]]] from rfl];exact gC⟩
 ·exact(.cons (.refl _) (.cons (.refl _) (.cons (.nil 1) (.cons (.refl _) (.cons (.nil 1) (.cons (.nil 1) (.cons (.refl _) (.cons (.refl _) (.cons (.nil 1) (.cons (.refl _) (.cons (.nil 1) (.cons (.nil 1) (.cons (.refl _) (.cons (.refl _) (.cons (.nil 1) (.cons (.refl _) (.cons (.nil 1) (.cons (.nil 1) (.cons (.refl _) (.cons (.refl _) (.cons (.refl _) (.cons (.refl _) (.cons (.refl _) (.cons (.refl _) .nil))))))))))))))))))))))))
attribute [local go_sem] Tryz.underlying44 szSlStr zSlStr
theorem mid_e:∀i,i < midS.length→errS midS i=0:=by decide +kernel
theorem mid_r:∀s∈midS,s.r.lm 2:=by
 intro s hs;have h:∀s∈midS,(∀x∈s.r.l,x < 65536)∧(∀x∈s.r.d,x < 65536)∧s.r.l.length≤2∧s.r.d.length≤2:=by decide
 obtain⟨h1,h2,h3,h4⟩:=h s hs;exact⟨h1,h2,h3,h4⟩
theorem mid_L (q:Qt) (r:Int × XX) (h:lmX 2 [1,2] (1/2) 0 3 q=r):lmS midS 3 (by decide) q=r:=by
 rw [←h];show lmX 2 [1,2] (RQ.q ⟨false,[1],[2]⟩) _ 3 q=_;rw [show RQ.q ⟨false,[1],[2]⟩=(1/2:Rat) from by decide +kernel];rfl
theorem awL1:Pure Tryz.prog 7 [figA midS [],iv 3,.agg [iv 1,iv 3,iv 0,iv 1]] (.tup [.agg [qpA [((1/2:Rat),[(⟨1,0,1,2⟩:Qt)])],qpA onX],iv 0]):=by
 have c:=Zq1 midS [] 3 (by decide) (by decide) (mid_e 3 (by decide)) (mid_r _ (List.getElem_mem _)) 1 3 0 1;rw [mid_L _ _ mid1] at c;exact c
theorem awL2:Pure Tryz.prog 7 [figA midS [],iv 3,.agg [iv 2,iv 3,iv 0,iv 3]] (.tup [.agg [qpA [((1/2:Rat),pM 0 1),((1/2:Rat),pM 0 2),((-1/4:Rat),pM 1 2)],qpA onX],iv 0]):=by
 have c:=Zq1 midS [] 3 (by decide) (by decide) (mid_e 3 (by decide)) (mid_r _ (List.getElem_mem _)) 2 3 0 3;rw [mid_L _ _ mid2] at c;exact c
theorem awT1:Pure Tryz.prog 14 [qpA [((1/2:Rat),[(⟨1,0,1,2⟩:Qt)])],.sl 1 [strA ⟨#[65]⟩,strA ⟨#[66]⟩,strA ⟨#[67]⟩,strA ⟨#[77]⟩]] (.tup [strA ⟨#[49,47,50,42,83,40,65,44,32,66,44,32,67,41]⟩,iv 0]):=by
 have c:=exText [((1/2:Rat),[(⟨1,0,1,2⟩:Qt)])] [⟨#[65]⟩,⟨#[66]⟩,⟨#[67]⟩,⟨#[77]⟩] (by decide) (by decide) (by decide) (k:=1) (by omega) (λt ht=>by
  rw [List.mem_singleton.1 ht];exact⟨by decide,by decide +kernel,by decide +kernel⟩)
 rw [if_pos (by decide +kernel),show eTxt [⟨#[65]⟩,⟨#[66]⟩,⟨#[67]⟩,⟨#[77]⟩] [((1/2:Rat),[(⟨1,0,1,2⟩:Qt)])]=⟨#[49,47,50,42,83,40,65,44,32,66,44,32,67,41]⟩from by decide +kernel] at c;exact c
theorem awT2:Pure Tryz.prog 14 [qpA [((1/2:Rat),pM 0 1),((1/2:Rat),pM 0 2),((-1/4:Rat),pM 1 2)],.sl 1 [strA ⟨#[65]⟩,strA ⟨#[66]⟩,strA ⟨#[67]⟩,strA ⟨#[77]⟩]] (.tup [strA ⟨#[49,47,50,42,80,40,65,44,32,66,44,32,65,41,32,43,32,49,47,50,42,80,40,65,44,32,67,44,32,65,41,32,45,32,49,47,52,42,80,40,66,44,32,67,44,32,66,41]⟩,iv 0]):=by
 have c:=exText [((1/2:Rat),pM 0 1),((1/2:Rat),pM 0 2),((-1/4:Rat),pM 1 2)] [⟨#[65]⟩,⟨#[66]⟩,⟨#[67]⟩,⟨#[77]⟩] (by decide) (by decide) (by decide) (k:=1) (by omega) (λt ht=>by
  rcases List.mem_cons.1 ht with rfl | ht
  ·exact⟨by decide,by decide +kernel,by decide +kernel⟩
  rcases List.mem_cons.1 ht with rfl | ht
  ·exact⟨by decide,by decide +kernel,by decide +kernel⟩
  rw [List.mem_singleton.1 ht];exact⟨by decide,by decide +kernel,by decide +kernel⟩)
 rw [if_pos (by decide +kernel),show eTxt [⟨#[65]⟩,⟨#[66]⟩,⟨#[67]⟩,⟨#[77]⟩] [((1/2:Rat),pM 0 1),((1/2:Rat),pM 0 2),((-1/4:Rat),pM 1 2)]=⟨#[49,47,50,42,80,40,65,44,32,66,44,32,65,41,32,43,32,49,47,50,42,80,40,65,44,32,67,44,32,65,41,32,45,32,49,47,52,42,80,40,66,44,32,67,44,32,66,41]⟩from by decide +kernel] at c;exact c
theorem awake34V (M A1 A2 D1:List AV) (cm:Pure Tryz.prog 13 [] (.agg [.sl 6 M,.sl 5 []])) (c1:Pure Tryz.prog 7 [.agg [.sl 6 M,.sl 5 []],iv 3,.agg [iv 1,iv 3,iv 0,iv 1]] (.tup [.agg [.sl 4 A1,.sl 4 D1],iv 0]))
 (c2:Pure Tryz.prog 7 [.agg [.sl 6 M,.sl 5 []],iv 3,.agg [iv 2,iv 3,iv 0,iv 3]] (.tup [.agg [.sl 4 A2,.sl 4 [.agg [.v (.bool false),lim [1],lim [1],.sl 4 []]]],iv 0]))
 (t1:Pure Tryz.prog 14 [.sl 4 A1,.sl 1 [strA ⟨#[65]⟩,strA ⟨#[66]⟩,strA ⟨#[67]⟩,strA ⟨#[77]⟩]] (.tup [strA ⟨#[49,47,50,42,83,40,65,44,32,66,44,32,67,41]⟩,iv 0])) (t2:Pure Tryz.prog 14 [.sl 4 A2,.sl 1 [strA ⟨#[65]⟩,strA ⟨#[66]⟩,strA ⟨#[67]⟩,strA ⟨#[77]⟩]] (.tup [strA ⟨#[49,47,50,42,80,40,65,44,32,66,44,32,65,41,32,43,32,49,47,50,42,80,40,65,44,32,67,44,32,65,41,32,45,32,49,47,52,42,80,40,66,44,32,67,44,32,66,41]⟩,iv 0])) :
 Pure Tryz.prog 6 [] (.v (.bool true)):=by
 refine Zaa (tok:=0) Tryz.func6 rfl Tryz.ntmps6 Tryz.results6 Tryz.call6 (by rfl) (by simp) ?_;(focus (refine wkax w_t (w_3 cm c1 c2) w_t w_t (w_2 t1 t2) w_t (w_r 0) ?_;(repeat' first|exact w_t|apply w_l);all_goals intros));all_goals exact gL
theorem Zyq:Pure Tryz.prog 6 [] (.v (.bool true)):=by
 have h2:=awL2;rw [show qpA onX=.sl 4 [.agg [.v (.bool false),lim [1],lim [1],.sl 4 []]] from by show AV.sl 4 [qtA ((1:Rat),[])]=_;rw [qtA_one];rfl] at h2;exact awake34V _ _ _ _ lwMid awL1 h2 awT1 awT2
theorem lawWts (ss:List RS) (gs:List RG) (p:Int) (h1:ss.length≤1000000000) (h2:gs.length≤1000000000) (hs:∀s∈ss,s.sm) (hg:∀g∈gs,g.sm):Pure Tryz.prog 4 [figA ss gs,iv p] (.v (.bool true)):=by
 have cf:=few25 ss gs _ (rlFew ss gs (Zvn ss gs h1 h2 hs hg));have ca:=Zyq;have hml:(ss.map RS.av).length=ss.length:=List.length_map ..
 cases hf:fewB ss gs with
 | false =>
   rw [hf] at cf;exact lwWtsN _ _ p cf ca
 | true =>
   rw [hf] at cf;obtain⟨h8,he,hr⟩:=few_34 hs hf;have he:=Ziu he;by_cases hp:0≤p∧p < (ss.length:Int)
   ·obtain⟨i,rfl⟩:∃i:Nat,p=i:=⟨p.toNat,by omega⟩;have hi:i < ss.length:=by omega
    have hl:i < (ss.map RS.av).length:=by omega
    have c1:=elComb ss gs i hi h8 (he i hi) (hr _ (List.getElem_mem hi));have c2:=Zro ss gs i hi h8 (he i hi) (hr _ (List.getElem_mem hi));have hA:=st_a hi h8 (he i hi) (hr _ (List.getElem_mem hi))
    cases hc:cbOf ss[i].k ss[i].ar ss[i].r.q (tOf ss i) with
    | none =>
      rw [hc] at c1 c2;exact Zw6 _ _ _ 8 cf ca (elWtsE _ _ i 8 (by decide) hl c1) (rlWtsN _ _ i hl c2)
    | some cb =>
      rw [hc] at c1 c2;have ok:=Zji hc hA.sz hA.rg hA.n40 hA.tr hA.l;have f3:=ok.few;have bl:=ok.be.l;unfold cmR at c1;simp only at c1;by_cases hb:cb.be.length=0
      ·rw [if_pos hb] at c1;exact Zw6 _ _ _ 3 cf ca (elWtsE _ _ i 3 (by decide) hl c1) (rlWtsZ _ _ i hl _ _ _ (by rw [List.length_map];exact hb) c2)
      ·rw [if_neg hb] at c1;have hab:=ok.len;exact lwWtsO _ _ _ cb.ps cb.ab cb.be hab (by omega) (by omega) cf ca (elWtsO _ _ i hl cb.ps cb.ab cb.be (by omega) (by omega) c1) (rlWtsO _ _ i hl cb.ps cb.ab cb.be (by omega) (by omega) (by omega) hb c2) (λw hw=>Zvc (ok.ab w hw).s ok.be.s)
   ·have hb:p < 0∨((ss.map RS.av).length:Int)≤p:=by rw [hml];omega
    exact Zw6 _ _ p 2 cf ca (elWtsR _ _ p hb) (rlWtsR _ _ p hb)
theorem saidWeights (xs:List AV) (h:ShapeL Tryz.prog 1048576 9 [25,3] xs):Pure Tryz.prog 4 xs (.v (.bool true)):=by
 obtain⟨x,bs,rfl,h1,h⟩:=h.inv;obtain⟨y,bs,rfl,h2,h⟩:=h.inv;obtain rfl:=h.inv0;obtain⟨ss,gs,e,hl,kl,hq,kq⟩:=Zrh h1;obtain⟨p,rfl,_⟩:=Zcw Tryz.underlying3 h2;rw [e,Zhw agInt];exact lawWts ss gs p (by omega) (by omega) (λs hs=>⟨Zm0 (hq s hs).1 (by decide),Nat.le_trans (hq s hs).2.1 (by decide),Nat.le_trans (hq s hs).2.2 (by decide)⟩) (λg hg=>⟨Zm0 (kq g hg).1 (by decide),Nat.le_trans (kq g hg).2 (by decide)⟩)
end Go.Proofs.YtjgdomdhjphgbaaGreatDoor
