/- Contracts of the functions that the law reaches, and the rules by which they are walked. They say what a call hands back for every input within the bounds that each names; no other condition. -/
import Derived.Test.YtpkcophcldjboaaGreatDoorBf5
set_option linter.unusedSimpArgs false
set_option linter.unusedVariables false
set_option maxRecDepth 20000
set_option maxHeartbeats 16000000
namespace Go.Proofs.YtpkcophcldjboaaGreatDoor
open Go Go.RowKit Go.Pg Go.Pol Go.Proofs.Tryz
attribute [-bool_to_prop] Bool.and_eq_decide Bool.or_eq_decide Bool.decide_beq_decide decide_eq_decide
attribute [local go_sem] underlying3 underlying4 underlying128 underlying50 underlying52 underlying54 underlying39 underlying55 underlying57 underlying26 underlying27 sz3 by3 z3 szB zB Zas zRat Zay zInt Zax zNat Zah Zan Zai Bool.and_self Zal Za7 zSlQ szQT byQT zQT Za9 zSlT szQP zQP underlying81 underlying29 szFr byFr zFr Zb6 Zca zSQP underlying9 underlying69 underlying33 underlying76 underlying22 underlying25 underlying93 underlying23 Zce zErr Zbh Zcm zStr szL byL zL Zb3 Zb4 Zdh Zdk zFig Zdj zSlI Zdi zSlS Zcc Zcd Zd0 Zd2 zSlF underlying83 underlying119 underlying79 underlying117 Ze2 Ze4 zCmb Ze0 zSch szFn zFn Ze1 zPlc
theorem Zux (m:Bool) (a0 a1 a2 a3 a4:Int) (V0 V1 V2 V3 V4 V5 V6:List AV) (c1:Pure prog 81 [iv a4,iv a3,iv a2] (.sl 4 V0)) (c2:Pure prog 81 [iv a4,iv a3,iv a1] (.sl 4 V1)) (c3:Pure prog 80 [.sl 4 V0,.sl 4 V1] (.sl 4 V2)) (c4:Pure prog 79 [.sl 4 V2] (.sl 4 V3)) (c5:Pure prog 85 [.agg [iv 1,iv a3,iv a4,.v (.bool m)],iv a0] (.sl 4 V4)) (c6:Pure prog 82 [.sl 4 V4,.sl 4 V3] (.sl 4 V5)) (c7:Pure prog 20 [iv 1] (.sl 4 V6)):Pure prog 36 [iv a0,iv a1,iv a2,.agg [iv 1,iv a3,iv a4,.v (.bool m)]] (.agg [.sl 4 V5,.sl 4 V6]):=by
 refine Zaa (tok:=0) func36 rfl ntmps36 results36 call36 (by rfl) (by simp) ?_;(focus (refine wkad w_t (w_7 c1 c2 c3 c4 c5 c6 c7) (w_1 (w_d 4 [(5,.sl 4 V0),(11,.sl 4 V1),(12,.sl 4 V2),(13,.sl 4 V3)] [] [])) ?_;(repeat' first|exact w_t|apply w_l);all_goals intros));all_goals exact gL
theorem Zy1 (m:Bool) (a0 a1 a2 a3 a4:Int) (h0:0≤a0∧a0 < 40) (h1:0≤a1∧a1 < 40) (h2:0≤a2∧a2 < 40) (h3:0≤a3∧a3 < 40) (h4:0≤a4∧a4 < 40):Pure prog 36 [iv a0,iv a1,iv a2,.agg [iv 1,iv a3,iv a4,.v (.bool m)]] (.agg [qpA (Za6 (aX a0 a3 a4) (hfX (subX (pX a4 a3 a2) (pX a4 a3 a1)))),qpA (nX 1)]):=by
 have x0:=Zci (Za5 (.inr rfl) h4 h3 h2);have x1:=Zci (Za5 (.inr rfl) h4 h3 h1);have x2:=x0.sub x1;have x3:=Zci (Za5 (.inl rfl) h0 h3 h4);have x4:=(Zez Zme).mul x2;exact Zux m a0 a1 a2 a3 a4 _ _ _ _ _ _ _ (Zdn _ _ _ (Za5 (.inr rfl) h4 h3 h2)) (Zdn _ _ _ (Za5 (.inr rfl) h4 h3 h1)) (Zis (x0.s) (x1.s)) (elHfX x2) ((show Pl.at ⟨1,a3,a4,m⟩ a0=aX a0 a3 a4 from if_pos rfl) ▸ elAt 1 a3 a4 a0 m ⟨λ_=>Za5 (.inl rfl) h0 h3 h4,λ_ _=>Za5 (.inr rfl) h3 h0 h4,λ_ _=>Za5 (.inr rfl) h0 h3 h4⟩) (Zji (x3.s) (x4.s)) (Zhw)
theorem Zuw (k:Int) (hk:¬k=1) (a0 a1 a2 a3 a4:Int) (V0 V1 V2 V3 V4 V5 V6 V7 V8 V9 V10 V11:List AV) (c1:Pure prog 81 [iv a1,iv a2,iv a1] (.sl 4 V0)) (c2:Pure prog 83 [iv a1,iv a2,iv a3] (.sl 4 V1)) (c3:Pure prog 83 [iv a1,iv a2,iv a4] (.sl 4 V2)) (c4:Pure prog 82 [.sl 4 V1,.sl 4 V2] (.sl 4 V3)) (c5:Pure prog 83 [iv a1,iv a2,iv a0] (.sl 4 V4)) (c6:Pure prog 84 [.sl 4 V4] (.sl 4 V5)) (c7:Pure prog 80 [.sl 4 V3,.sl 4 V5] (.sl 4 V6)) (c8:Pure prog 84 [.sl 4 V6] (.sl 4 V7)) (c9:Pure prog 80 [.sl 4 V0,.sl 4 V7] (.sl 4 V8)) (c10:Pure prog 85 [.agg [iv k,iv a3,iv a4,.v (.bool true)],iv a0] (.sl 4 V9)) (c11:Pure prog 82 [.sl 4 V9,.sl 4 V8] (.sl 4 V10)) (c12:Pure prog 20 [iv 1] (.sl 4 V11)):Pure prog 36 [iv a0,iv a1,iv a2,.agg [iv k,iv a3,iv a4,.v (.bool true)]] (.agg [.sl 4 V10,.sl 4 V11]):=by
 refine Zaa (tok:=0) func36 rfl ntmps36 results36 call36 (by rfl) (by simp) ?_;(focus (refine wkax (w_1 hk) (w_12 c1 c2 c3 c4 c5 c6 c7 c8 c9 c10 c11 c12) (w_1 (w_d 6 [(4,.sl 4 V1),(9,.sl 4 V2),(10,.sl 4 V3),(14,.sl 4 V4),(15,.sl 4 V5),(16,.sl 4 V6)] [] [])) w_t w_t w_t w_y (w_r 0) ?_;(repeat' first|exact w_t|apply w_l);all_goals intros));all_goals exact gL
theorem Zy0 (k:Int) (hk:¬k=1) (a0 a1 a2 a3 a4:Int) (h0:0≤a0∧a0 < 40) (h1:0≤a1∧a1 < 40) (h2:0≤a2∧a2 < 40) (h3:0≤a3∧a3 < 40) (h4:0≤a4∧a4 < 40):Pure prog 36 [iv a0,iv a1,iv a2,.agg [iv k,iv a3,iv a4,.v (.bool true)]] (.agg [qpA (Za6 (pX a3 a0 a4) (subX (pX a1 a2 a1) (twX (subX (Za6 (aX a1 a2 a3) (aX a1 a2 a4)) (twX (aX a1 a2 a0)))))),qpA (nX 1)]):=by
 have x0:=Zci (Za5 (.inl rfl) h1 h2 h3);have x1:=Zci (Za5 (.inl rfl) h1 h2 h4);have x2:=Zci (Za5 (.inl rfl) h1 h2 h0);have x3:=x0.add x1;have x4:=(Zez Zjb).mul x2;have x5:=x3.sub x4;have x6:=Zci (Za5 (.inr rfl) h1 h2 h1);have x7:=(Zez Zjb).mul x5;have x8:=Zci (Za5 (.inr rfl) h3 h0 h4);have x9:=x6.sub x7;exact Zuw k hk a0 a1 a2 a3 a4 _ _ _ _ _ _ _ _ _ _ _ _ (Zdn _ _ _ (Za5 (.inr rfl) h1 h2 h1)) (Zjj _ _ _ (Za5 (.inl rfl) h1 h2 h3)) (Zjj _ _ _ (Za5 (.inl rfl) h1 h2 h4)) (Zji (x0.s) (x1.s)) (Zjj _ _ _ (Za5 (.inl rfl) h1 h2 h0)) (Zuu x2) (Zis (x3.s) (x4.s)) (Zuu x5) (Zis (x6.s) (x7.s)) ((show Pl.at ⟨k,a3,a4,true⟩ a0=pX a3 a0 a4 from by unfold Pl.at;rw [if_neg hk,if_pos rfl]) ▸ elAt k a3 a4 a0 true ⟨λ_=>Za5 (.inl rfl) h0 h3 h4,λ_ _=>Za5 (.inr rfl) h3 h0 h4,λ_ _=>Za5 (.inr rfl) h0 h3 h4⟩) (Zji (x8.s) (x9.s)) (Zhw)
theorem Zuv (k:Int) (hk:¬k=1) (a0 a1 a2 a3 a4:Int) (V0 V1 V2 V3 V4 V5 V6:List AV) (c1:Pure prog 83 [iv a1,iv a2,iv a4] (.sl 4 V0)) (c2:Pure prog 83 [iv a1,iv a2,iv a3] (.sl 4 V1)) (c3:Pure prog 80 [.sl 4 V0,.sl 4 V1] (.sl 4 V2)) (c4:Pure prog 84 [.sl 4 V2] (.sl 4 V3)) (c5:Pure prog 85 [.agg [iv k,iv a3,iv a4,.v (.bool false)],iv a0] (.sl 4 V4)) (c6:Pure prog 82 [.sl 4 V4,.sl 4 V3] (.sl 4 V5)) (c7:Pure prog 20 [iv 1] (.sl 4 V6)):Pure prog 36 [iv a0,iv a1,iv a2,.agg [iv k,iv a3,iv a4,.v (.bool false)]] (.agg [.sl 4 V5,.sl 4 V6]):=by
 refine Zaa (tok:=0) func36 rfl ntmps36 results36 call36 (by rfl) (by simp) ?_;(focus (refine wkad (w_1 hk) (w_7 c1 c2 c3 c4 c5 c6 c7) (w_1 (w_d 2 [(4,.sl 4 V0),(9,.sl 4 V1),(10,.sl 4 V2),(11,.sl 4 V3)] [] [])) ?_;(repeat' first|exact w_t|apply w_l);all_goals intros));all_goals exact gL
theorem Zyz (k:Int) (hk:¬k=1) (a0 a1 a2 a3 a4:Int) (h0:0≤a0∧a0 < 40) (h1:0≤a1∧a1 < 40) (h2:0≤a2∧a2 < 40) (h3:0≤a3∧a3 < 40) (h4:0≤a4∧a4 < 40):Pure prog 36 [iv a0,iv a1,iv a2,.agg [iv k,iv a3,iv a4,.v (.bool false)]] (.agg [qpA (Za6 (pX a0 a3 a4) (twX (subX (aX a1 a2 a4) (aX a1 a2 a3)))),qpA (nX 1)]):=by
 have x0:=Zci (Za5 (.inl rfl) h1 h2 h4);have x1:=Zci (Za5 (.inl rfl) h1 h2 h3);have x2:=x0.sub x1;have x3:=Zci (Za5 (.inr rfl) h0 h3 h4);have x4:=(Zez Zjb).mul x2;exact Zuv k hk a0 a1 a2 a3 a4 _ _ _ _ _ _ _ (Zjj _ _ _ (Za5 (.inl rfl) h1 h2 h4)) (Zjj _ _ _ (Za5 (.inl rfl) h1 h2 h3)) (Zis (x0.s) (x1.s)) (Zuu x2) ((show Pl.at ⟨k,a3,a4,false⟩ a0=pX a0 a3 a4 from by unfold Pl.at;rw [if_neg hk,if_neg (by simp)]) ▸ elAt k a3 a4 a0 false ⟨λ_=>Za5 (.inl rfl) h0 h3 h4,λ_ _=>Za5 (.inr rfl) h3 h0 h4,λ_ _=>Za5 (.inr rfl) h0 h3 h4⟩) (Zji (x3.s) (x4.s)) (Zhw)
theorem elTurned (p:Pl) (a0 a1 a2:Int) (h0:0≤a0∧a0 < 40) (h1:0≤a1∧a1 < 40) (h2:0≤a2∧a2 < 40) (h3:0≤p.q∧p.q < 40) (h4:0≤p.r∧p.r < 40):Pure prog 36 [iv a0,iv a1,iv a2,p.av] (.agg [qpA (tuX a0 a1 a2 p),qpA (nX 1)]):=by
 obtain⟨k,q,r,m⟩:=p;unfold tuX;simp only;split
 ·rename_i hk;obtain rfl:=hk;exact Zy1 m a0 a1 a2 q r h0 h1 h2 h3 h4
 ·rename_i hk
  cases m with
  | true=>rw [if_pos rfl];exact Zy0 k hk a0 a1 a2 q r h0 h1 h2 h3 h4
  | false=>rw [if_neg (by simp)];exact Zyz k hk a0 a1 a2 q r h0 h1 h2 h3 h4
theorem rfHalf:Pure prog 49 [iv 1,iv 2] (ratQ (1/2)):=by
 have h:=qFrac 1 2 (by omega) (by omega) (by omega)
 rwa [show mkRat ((1:Nat):Int) 2=(1/2:Rat) from by decide +kernel] at h
theorem Zy8 (k q r:Int) (mid:Bool) (ps:List Int) (hn:ps.length≤100) (AB AT MU AS OT:Nat→List AV) (W PY PR IN:Nat→Nat→List AV) (BE DD AA:List AV) (hA:∀i,i < ps.length→AA.getD i .u=.sl 4 (AB i)) (hlA:AA.length=ps.length)
 (cAt:∀i,i < ps.length→Pure prog 85 [.agg [iv k,iv q,iv r,.v (.bool mid)],iv (gI ps i)] (.sl 4 (AT i)))
 (cMu:∀i,i < ps.length→Pure prog 40 [.sl 4 (AB i),.sl 4 (AT i)] (.sl 4 (MU i)))
 (cAd:∀i,i < ps.length→Pure prog 82 [.sl 4 (AS i),.sl 4 (MU i)] (.sl 4 (AS (i+1)))) (h0:AS 0=[])
 (cB:mid=true→Pure prog 40 [.sl 4 (BE),.sl 4 (AS ps.length)] (.sl 4 (OT 0))) (cW:∀i j,mid=true→i < j→j < ps.length→Pure prog 40 [.sl 4 (AB i),.sl 4 (AB j)] (.sl 4 (W i j)))
 (cP:∀i j,mid=true→i < j→j < ps.length→Pure prog 81 [iv (gI ps i),iv (gI ps j),iv (gI ps i)] (.sl 4 (PY i j)))
 (cT:∀i j,mid=true→i < j→j < ps.length→Pure prog 40 [.sl 4 (W i j),.sl 4 (PY i j)] (.sl 4 (PR i j)))
 (cS:∀i d,mid=true→i+1+d < ps.length→Pure prog 80 [.sl 4 (IN i d),.sl 4 (PR i (i+1+d))] (.sl 4 (IN i (d+1))))
 (hI:∀i,IN i 0=OT i) (hO:∀i,i < ps.length→IN i (ps.length - (i+1))=OT (i+1)) (cD:mid=true→Pure prog 40 [.sl 4 (BE),.sl 4 (BE)] (.sl 4 (DD))) :
 Pure prog 39 [.agg [.sl 1 (ps.map iv),.sl 1 AA,.sl 4 BE],.agg [iv k,iv q,iv r,.v (.bool mid)]] (if mid=true then .agg [.sl 4 (OT ps.length),.sl 4 DD] else .agg [.sl 4 (AS ps.length),.sl 4 BE]):=by
 have hlp:(ps.map iv).length=ps.length:=List.length_map ..;have hg:∀i,i < ps.length→(ps.map iv).getD i .u=iv (gI ps i):=λi h=>by rw [Zfk h];exact Zat iv h
 generalize ps.map iv=PS at *;refine Zaa (tok:=0) func39 rfl ntmps39 results39 call39 (by rfl) (by simp) ?_;(focus (refine wkad (w_1 hlp) w_t w_t ?_;(repeat' first|exact w_t|apply w_l);all_goals intros));rename_i g2 g3 g4;refine Zgr (Frz.nil (d:=5) 4 (by exact gC)) ?_;refine Zae (ι:=Nat) (λi e m=>i≤ps.length∧((e 2=.pbox 2 g2 0∧m 2=some (.box g2 83 [.sl 1 PS,.sl 1 AA,.sl 4 BE] false))∧(e 3=.pbox 3 g3 0∧m 3=some (.box g3 79 [iv k,iv q,iv r,.v (.bool mid)] false))∧(e 4=.pbox 4 g4 0∧m 4=some (.box g4 29 [.v (.slice none 0 0),.v (.slice none 0 0)] false)))∧(e 12=.sl 1 PS∧e 13=iv ps.length∧e 14=iv i)∧e 5=.sl 4 (AS i)) (λi=>ps.length - i) 0 (by rfl) ?_ ?_
 ·rintro i e m ⟨hi,⟨⟨e2,m2⟩,⟨e3,m3⟩,⟨e4,m4⟩⟩,⟨e12,e13,e14⟩,e5⟩
  by_cases hlt:i < ps.length
  ·have hgi:=hg i hlt;have hai:=hA i hlt;have c1:=cAt i hlt;have c2:=cMu i hlt;have c3:=cAd i hlt;clear cAt cMu cAd cB cW cP cT cS hI hO cD hA hg h0;(focus (refine wkad (w_14 e2 m2 e3 m3 e4 m4 e12 e13 e14 e5 hlp hgi hai hlA) (w_3 c1 c2 c3) (w_1 (w_d 5 [(8,.sl 4 (AT i)),(9,.sl 4 (MU i)),(10,.sl 4 (AS (i+1)))] [] [])) ?_;(repeat' first|exact w_t|apply w_l);all_goals intros));exact⟨i+1,⟨by omega,⟨⟨by exact gW e2,by exact gW m2⟩,⟨by exact gW e3,by exact gW m3⟩,⟨by exact gW e4,by exact gW m4⟩⟩,⟨by exact gW e12,by exact gW e13,by exact gS⟩,by exact gC⟩,by omega⟩
  ·have:i=ps.length:=by omega
   subst this
   cases mid with
   | false =>
     rw [if_neg (by simp)];clear cAt cMu cAd cB cW cP cT cS hI hO cD hA hg h0;(focus (refine wkad (w_11 e2 m2 e3 m3 e4 m4 e12 e13 e14 e5 hlp) w_t w_t ?_;(repeat' first|exact w_t|apply w_l);all_goals intros));all_goals (all_goals (try simp (disch:=omega) only [go_sem,e4,m4,decide_eq_true,decide_eq_false,if_pos,if_neg,Int.reduceAdd,Int.reduceSub,Int.reduceToNat,Int.zero_add]));(all_goals first|done|rfl|(congr 2;first|done|omega|(rw [Bool.eq_iff_iff];simp only [bool_to_prop,Bool.false_eq_true,iff_true,true_iff,iff_false,false_iff];omega))|skip)
   | true =>
     rw [if_pos rfl];have cb:=cB rfl;have cd:=cD rfl;clear cAt cMu cAd cB cD h0;(focus (refine wkad (w_11 e2 m2 e3 m3 e4 m4 e12 e13 e14 e5 hlp) (w_1 cb) w_t ?_;(repeat' first|exact w_t|apply w_l);all_goals intros));refine Zae (ι:=Nat) (λi e m=>i≤ps.length∧((e 2=.pbox 2 g2 0∧m 2=some (.box g2 83 [.sl 1 PS,.sl 1 AA,.sl 4 BE] false))∧(e 3=.pbox 3 g3 0∧m 3=some (.box g3 79 [iv k,iv q,iv r,.v (.bool true)] false))∧(e 4=.pbox 4 g4 0∧m 4=some (.box g4 29 [.v (.slice none 0 0),.v (.slice none 0 0)] false)))∧(e 44=iv ps.length∧e 45=iv i)∧e 5=.sl 4 (OT i)) (λi=>ps.length - i) 0 (by rfl) ?_ ?_
     ·clear e2 m2 e3 m3 e4 m4 e12 e13 e14 e5 cb
      rintro i e m ⟨hi,⟨⟨e2,m2⟩,⟨e3,m3⟩,⟨e4,m4⟩⟩,⟨e44,e45⟩,e5⟩
      by_cases hlt:i < ps.length
      ·have hai:=hA i hlt;have hgi:=hg i hlt;(focus (refine wkax (w_10 e2 m2 e3 m3 e4 m4 e44 e45 e5 hlp) w_t w_t w_t w_t w_t w_t (w_r 0) ?_;(repeat' first|exact w_t|apply w_l);all_goals intros));rw [←hI i] at e5;refine Zae (ι:=Nat) (λd e m=>i+1+d≤ps.length∧((e 2=.pbox 2 g2 0∧m 2=some (.box g2 83 [.sl 1 PS,.sl 1 AA,.sl 4 BE] false))∧(e 3=.pbox 3 g3 0∧m 3=some (.box g3 79 [iv k,iv q,iv r,.v (.bool true)] false))∧(e 4=.pbox 4 g4 0∧m 4=some (.box g4 29 [.v (.slice none 0 0),.v (.slice none 0 0)] false)))∧(e 44=iv ps.length∧e 45=iv i∧e 8=iv i∧e 9=iv ((i+1+d:Nat):Int))∧e 5=.sl 4 (IN i d)) (λd=>ps.length - (i+1+d)) 0 (by rfl) ?_ ?_
       ·clear e2 m2 e3 m3 e4 m4 e44 e45 e5
        rintro d e m ⟨hd,⟨⟨e2,m2⟩,⟨e3,m3⟩,⟨e4,m4⟩⟩,⟨e44,e45,e8,e9⟩,e5⟩
        by_cases hld:i+1+d < ps.length
        ·have haj:=hA (i+1+d) hld;have hgj:=hg (i+1+d) hld;have c1:=cW i (i+1+d) rfl (by omega) hld;have c2:=cP i (i+1+d) rfl (by omega) hld;have c3:=cT i (i+1+d) rfl (by omega) hld;have c4:=cS i d rfl hld;have hs:((i+1+d:Nat):Int)+1=((i+1+(d+1):Nat):Int):=by omega
         clear cW cP cT cS hI hO hA hg;generalize hj:i+1+d=j at *;(focus (refine wkad (w_18 e2 m2 e3 m3 e4 m4 e44 e45 e8 e9 e5 hlp hlA hai hgi haj hgj hs) (w_4 c1 c2 c3 c4) (w_2 (w_d 16 [(10,.sl 4 (W i j))] [] []) (w_d 17 [(17,.sl 4 (PY i j)),(18,.sl 4 (PR i j)),(19,.sl 4 (IN i (d+1)))] [] [])) ?_;(repeat' first|exact w_t|apply w_l);all_goals intros));exact⟨d+1,⟨by omega,⟨⟨by exact gW e2,by exact gW m2⟩,⟨by exact gW e3,by exact gW m3⟩,⟨by exact gW e4,by exact gW m4⟩⟩,⟨by exact gW e44,by exact gW e45,by exact gW e8,by exact gW hs⟩,by exact gC⟩,by omega⟩
        ·have hd2:d=ps.length - (i+1):=by omega
         rw [hd2,hO i hlt] at e5;have hjN:((i+1+d:Nat):Int)=(ps.length:Int):=by omega
         rw [hjN] at e9;clear cW cP cT cS hI hO hA hg;(focus (refine wkad (w_12 e2 m2 e3 m3 e4 m4 e44 e45 e8 e9 e5 hlp) w_t w_t ?_;(repeat' first|exact w_t|apply w_l);all_goals intros));exact⟨i+1,⟨by omega,⟨⟨by exact gW e2,by exact gW m2⟩,⟨by exact gW e3,by exact gW m3⟩,⟨by exact gW e4,by exact gW m4⟩⟩,⟨by exact gW e44,by exact gS⟩,by exact gW e5⟩,by omega⟩
       ·exact⟨by omega,⟨⟨by exact gW e2,by exact gW m2⟩,⟨by exact gW e3,by exact gW m3⟩,⟨by exact gW e4,by exact gW m4⟩⟩,⟨by exact gW e44,by exact gW e45,by exact gC,by exact gS⟩,by exact gW e5⟩
      ·have:i=ps.length:=by omega
       subst this;clear cW cP cT cS hI hO hA hg;(focus (refine wkad (w_10 e2 m2 e3 m3 e4 m4 e44 e45 e5 hlp) (w_1 cd) w_t ?_;(repeat' first|exact w_t|apply w_l);all_goals intros));all_goals (all_goals (try simp (disch:=omega) only [go_sem,e4,m4,decide_eq_true,decide_eq_false,if_pos,if_neg,Int.reduceAdd,Int.reduceSub,Int.reduceToNat,Int.zero_add]));(all_goals first|done|rfl|(congr 2;first|done|omega|(rw [Bool.eq_iff_iff];simp only [bool_to_prop,Bool.false_eq_true,iff_true,true_iff,iff_false,false_iff];omega))|skip)
     ·exact⟨Nat.zero_le _,⟨⟨by exact gW e2,by exact gW m2⟩,⟨by exact gW e3,by exact gW m3⟩,⟨by exact gW e4,by exact gW m4⟩⟩,⟨by exact gW hlp,by exact gC⟩,by exact gC⟩
 ·exact⟨Nat.zero_le _,⟨⟨by exact gC,by exact gC⟩,⟨by exact gC,by exact gC⟩,⟨by exact gC,by exact gC⟩⟩,⟨by exact gC,by exact gW hlp,by exact gC⟩,by rw [h0];exact gC⟩
section
attribute [local go_sem] underlying3 underlying4 underlying128 underlying50 underlying52 underlying54 underlying39 underlying55 underlying57 underlying26 underlying27 sz3 by3 z3 szB zB Zas zRat Zay zInt Zax zNat Zah Zan Zai Bool.and_self Zal Za7 zSlQ szQT byQT zQT Za9 zSlT szQP zQP underlying81 underlying29 szFr byFr zFr Zb6 Zca zSQP underlying9 underlying69 underlying33 underlying76 underlying22 underlying25 underlying93 underlying23 Zce zErr Zbh Zcm zStr szL byL zL Zb3 Zb4 Zdh Zdk zFig Zdj zSlI Zdi zSlS Zcc Zcd Zd0 Zd2 zSlF underlying83 underlying119 underlying79 underlying117 Ze2 Ze4 zCmb Ze0 zSch szFn zFn Ze1 zPlc
end
theorem cbl_b {c:Cb} (h:CbL c) (p:Pl):c.be.length*(afS c p c.ps.length).length≤12:=by
 obtain⟨hb,h⟩:=h;rcases h with⟨u,v,e,hp,h1,h2⟩ | ⟨u,v,w,e,hp,h1,h2⟩
 ·have s1:=Zfp c p 0;have s2:=Zfp c p 1;rw [e] at s1 s2;have s0:(afS c p 0).length=0:=rfl;have s1:(afS c p 1).length≤(afS c p 0).length+u.length:=s1;have s2:(afS c p 2).length≤(afS c p 1).length+v.length:=s2;rw [hp];have:=Nat.mul_le_mul_left c.be.length (show(afS c p 2).length≤u.length+v.length by omega);omega
 ·have s1:=Zfp c p 0;have s2:=Zfp c p 1;have s3:=Zfp c p 2;rw [e] at s1 s2 s3;have s0:(afS c p 0).length=0:=rfl;have s1:(afS c p 1).length≤(afS c p 0).length+u.length:=s1;have s2:(afS c p 2).length≤(afS c p 1).length+v.length:=s2;have s3:(afS c p 3).length≤(afS c p 2).length+w.length:=s3;rw [hp];have:=Nat.mul_le_mul_left c.be.length (show(afS c p 3).length≤u.length+v.length+w.length by omega);omega
theorem cbl_w {c:Cb} (h:CbL c) {i j:Nat} (hij:i < j) (hj:j < c.ps.length):(c.ab.getD i []).length*(c.ab.getD j []).length≤12:=by
 obtain⟨hb,h⟩:=h;rcases h with⟨u,v,e,hp,h1,h2⟩ | ⟨u,v,w,e,hp,h1,h2⟩
 ·rw [e];obtain rfl:i=0:=by omega
  obtain rfl:j=1:=by omega
  show u.length*v.length≤12;omega
 ·rw [e];have:(i=0∧j=1)∨(i=0∧j=2)∨(i=1∧j=2):=by omega
  rcases this with⟨rfl,rfl⟩ | ⟨rfl,rfl⟩ | ⟨rfl,rfl⟩
  ·show u.length*v.length≤12;omega
  ·show u.length*w.length≤12;omega
  ·show v.length*w.length≤12;omega
theorem af_res (c:Cb) (p:Pl):(if p.mid=true then AV.agg [.sl 4 ((out2 c c.ps.length (mulX c.be (afS c p c.ps.length)) c.ps.length).map qtA),.sl 4 ((mulX c.be c.be).map qtA)] else .agg [.sl 4 ((afS c p c.ps.length).map qtA),.sl 4 (c.be.map qtA)])=.agg [qpA (afN c p),qpA (afD c p)]:=by
 unfold afN afD;split<;>rfl
theorem aa_at (c:Cb) {i:Nat} (h:i < c.ab.length):(c.ab.map qpA).getD i .u=.sl 4 ((c.ab.getD i []).map qtA):=by
 rw [Zcq h];exact Zat qpA h
theorem elAffine (c:Cb) (p:Pl) {n:Int} (hc:CbOk c n) (hl:CbL c) (hp:PlOk p n) (hn:n≤40):Pure prog 39 [c.av,p.av] (.agg [qpA (afN c p),qpA (afD c p)]):=by
 have h3:=hc.few;have b40:∀{z:Int},(0≤z∧z < n)→0≤z∧z < 40:=λh=>by omega
 have hq:=b40 hp.q;have hr:=b40 hp.r;have key:=Zy8 p.k p.q p.r p.mid c.ps (by omega) (λi=>(c.ab.getD i []).map qtA) (λi=>(p.at (gI c.ps i)).map qtA) (λi=>(mulX (c.ab.getD i []) (p.at (gI c.ps i))).map qtA) (λi=>(afS c p i).map qtA) (λi=>(out2 c c.ps.length (mulX c.be (afS c p c.ps.length)) i).map qtA)
  (λi j=>(mulX (c.ab.getD i []) (c.ab.getD j [])).map qtA) (λi j=>(pX (gI c.ps i) (gI c.ps j) (gI c.ps i)).map qtA) (λi j=>(prT c i j).map qtA) (λi d=>(in2 c i (out2 c c.ps.length (mulX c.be (afS c p c.ps.length)) i) d).map qtA) (c.be.map qtA) ((mulX c.be c.be).map qtA) (c.ab.map qpA) (λi hi=>aa_at c (by rw [hc.len];exact hi)) (by rw [List.length_map];exact hc.len)
  (λi hi=>elAt p.k p.q p.r (gI c.ps i) p.mid ⟨λ_=>Za5 (.inl rfl) (b40 (Zh1 hc hi)) hq hr,λ_ _=>Za5 (.inr rfl) hq (b40 (Zh1 hc hi)) hr,λ_ _=>Za5 (.inr rfl) (b40 (Zh1 hc hi)) hq hr⟩)
  (λi hi=>Zhv (Zlh hc hi).s (at_xl hp (Zh1 hc hi) hn).s (Nat.le_trans (Nat.mul_le_mul (Zlh hc hi).l (at_xl hp (Zh1 hc hi) hn).l) (by decide))) (λi hi=>Zji ((Zps hc hp hn i (by omega)).mono (by omega) (by decide) (by omega)) ((Zlh hc hi).mul (at_xl hp (Zh1 hc hi) hn)).s) rfl
  (λ_=>Zhv hc.be.s ((Zps hc hp hn _ (Nat.le_refl _)).mono (by omega) (by decide) (by omega)) (cbl_b hl p)) (λi j _ hij hj=>Zhv (Zlh hc (by omega)).s (Zlh hc hj).s (cbl_w hl hij hj))
  (λi j _ hij hj=>Zdn _ _ _ (Za5 (.inr rfl) (b40 (Zh1 hc (by omega))) (b40 (Zh1 hc hj)) (b40 (Zh1 hc (by omega)))))
  (λi j _ hij hj=>Zhv ((Zlh hc (show i < _ by omega)).mul (Zlh hc hj)).s (xs_of (Za5 (.inr rfl) (b40 (Zh1 hc (by omega))) (b40 (Zh1 hc hj)) (b40 (Zh1 hc (by omega))))) (Nat.le_trans (Nat.mul_le_mul (Nat.le_trans (Zds _ _) (cbl_w hl hij hj)) (Zi0 _)) (by decide)))
  (λi d _ hd=>Zis ((Zyb hc hn (Zqk hc hn (afM_xl hc hp hn) i (by omega)) d (by omega)).mono (by omega) (by decide) (by omega)) (prT_xl hc hn (by omega) hd).s)
  (λ_=>rfl) (λ_ _=>rfl) (λ_=>Zhv hc.be.s hc.be.s (Nat.le_trans (Nat.mul_le_mul hl.1 hl.1) (by decide)))
 rw [af_res] at key;exact key
abbrev wA (be:QTs) (w:QTs):AV:=.agg [qpA w,qpA be]
theorem few25 (ss:List RS) (gs:List RG) (b:Bool) (c:Pure prog 15 [figA ss gs] (.v (.bool b))):Pure prog 6 [.agg [.sl 6 (ss.map RS.av),.sl 5 (gs.map RG.av)]] (.v (.bool b)):=by
 have c:Pure prog 15 [.agg [.sl 6 (ss.map RS.av),.sl 5 (gs.map RG.av)]] (.v (.bool b)):=c;generalize ss.map RS.av=M at *;generalize gs.map RG.av=N at *;refine Zaa (tok:=0) func6 rfl ntmps6 results6 call6 (by rfl) (by simp) ?_;(focus (refine wkap w_t (w_1 c) (w_r 0) ?_;(repeat' first|exact w_t|apply w_l);all_goals intros));all_goals exact gL
theorem elLmR (M G:List AV) (p k a b c:Int) (h:p < 0∨(M.length:Int)≤p):Pure prog 11 [.agg [.sl 6 M,.sl 5 G],iv p,.agg [iv k,iv a,iv b,iv c]] (.tup [.agg [.v (.slice none 0 0),.v (.slice none 0 0)],iv 2]):=by
 rcases h with h | h
 all_goals
  refine Zaa (tok:=0) func11 rfl ntmps11 results11 call11 (by rfl) (by simp) ?_;(focus (refine wkad (w_1 h) w_t w_t ?_;(repeat' first|exact w_t|apply w_l);all_goals intros));all_goals exact gL
theorem elLmA (M G:List AV) (i:Nat) (k a b c:Int) (hi:i < M.length) (c1:Pure prog 31 [.agg [iv k,iv a,iv b,iv c]] (.v (.bool false))):Pure prog 11 [.agg [.sl 6 M,.sl 5 G],iv i,.agg [iv k,iv a,iv b,iv c]] (.tup [.agg [.v (.slice none 0 0),.v (.slice none 0 0)],iv 1]):=by
 refine Zaa (tok:=0) func11 rfl ntmps11 results11 call11 (by rfl) (by simp) ?_;(focus (refine wkad (w_1 hi) (w_1 c1) w_t ?_;(repeat' first|exact w_t|apply w_l);all_goals intros));all_goals exact gL
theorem elLmV (M G:List AV) (i:Nat) (k a b c:Int) (R:AV) (pq:List Int) (nk na nb nc sg sk:Int) (nm:ByteArray) (A0:List AV) (rb:Bool) (rn rd:List Nat) (hi:i < M.length) (hs:M.getD i .u=.agg [iv sk,strA nm,.sl 1 A0,.v (.bool rb),lim rn,lim rd]) (hpl:pq.length≤100)
 (c1:Pure prog 31 [.agg [iv k,iv a,iv b,iv c]] (.v (.bool true))) (c2:Pure prog 32 [.agg [iv k,iv a,iv b,iv c]] (.sl 1 (pq.map iv))) (c3:Pure prog 33 [.agg [iv k,iv a,iv b,iv c]] (.tup [.agg [iv nk,iv na,iv nb,iv nc],iv sg]))
 (hP:∀j,j < pq.length→(M.length:Int)≤gI pq j→R=.tup [.agg [.v (.slice none 0 0),.v (.slice none 0 0)],iv 2])
 (hD:(∀j,j < pq.length→gI pq j < (M.length:Int)) →
  (sg=0∧∃O N,Pure prog 35 [.agg [iv k,iv a,iv b,iv c]] (.sl 4 O)∧Pure prog 20 [iv 1] (.sl 4 N)∧R=.tup [.agg [.sl 4 O,.sl 4 N],iv 0])
  ∨ (¬sg=0∧∃PN O N,Pure prog 32 [.agg [iv nk,iv na,iv nb,iv nc]] (.sl 1 PN)∧Pure prog 34 [.sl 1 PN,iv i] (.v (.bool false))∧Pure prog 35 [.agg [iv k,iv a,iv b,iv c]] (.sl 4 O)∧Pure prog 20 [iv 1] (.sl 4 N)∧R=.tup [.agg [.sl 4 O,.sl 4 N],iv 0])
  ∨ (¬sg=0∧∃PN,Pure prog 32 [.agg [iv nk,iv na,iv nb,iv nc]] (.sl 1 PN)∧Pure prog 34 [.sl 1 PN,iv i] (.v (.bool true)) ∧
    ((sk=4∧∃a0 a1 a2 pk pq pr pm T N SG TT,A0=[iv a0,iv a1,iv a2]∧Pure prog 37 [.agg [iv nk,iv na,iv nb,iv nc],iv i] (.agg [iv pk,iv pq,iv pr,.v (.bool pm)])∧Pure prog 36 [iv a0,iv a1,iv a2,.agg [iv pk,iv pq,iv pr,.v (.bool pm)]] (.agg [.sl 4 T,.sl 4 N])∧Pure prog 20 [iv sg] (.sl 4 SG)∧Pure prog 40 [.sl 4 SG,.sl 4 T] (.sl 4 TT)∧R=.tup [.agg [.sl 4 TT,.sl 4 N],iv 0])
    ∨ (¬sk=4∧∃z,¬z=0∧Pure prog 38 [.agg [.sl 6 M,.sl 5 G],iv i] (.tup [.agg [.v (.slice none 0 0),.v (.slice none 0 0),.v (.slice none 0 0)],iv z])∧R=.tup [.agg [.v (.slice none 0 0),.v (.slice none 0 0)],iv z])
    ∨ (¬sk=4∧∃PS AB BE pk pq pr pm T N SG TT,Pure prog 38 [.agg [.sl 6 M,.sl 5 G],iv i] (.tup [.agg [.sl 1 PS,.sl 1 AB,.sl 4 BE],iv 0])∧Pure prog 37 [.agg [iv nk,iv na,iv nb,iv nc],iv i] (.agg [iv pk,iv pq,iv pr,.v (.bool pm)])∧Pure prog 39 [.agg [.sl 1 PS,.sl 1 AB,.sl 4 BE],.agg [iv pk,iv pq,iv pr,.v (.bool pm)]] (.agg [.sl 4 T,.sl 4 N])∧Pure prog 20 [iv sg] (.sl 4 SG)∧Pure prog 40 [.sl 4 SG,.sl 4 T] (.sl 4 TT)∧R=.tup [.agg [.sl 4 TT,.sl 4 N],iv 0])))) :
 Pure prog 11 [.agg [.sl 6 M,.sl 5 G],iv i,.agg [iv k,iv a,iv b,iv c]] (R):=by
 have hlp:(pq.map iv).length=pq.length:=List.length_map ..;have hg:∀j,j < pq.length→(pq.map iv).getD j .u=iv (gI pq j):=λj h=>by rw [Zfk h];exact Zat iv h
 generalize pq.map iv=PQ at *;refine Zaa (tok:=0) func11 rfl ntmps11 results11 call11 (by rfl) (by simp) ?_;(focus (refine wkad (w_2 hi hlp) (w_2 c1 c2) w_t ?_;(repeat' first|exact w_t|apply w_l);all_goals intros));rename_i g3 g5 g6;refine Zae (ι:=Nat) (λj e m=>j≤pq.length∧(e 1=iv i∧(e 3=.pbox 3 g3 0∧m 3=some (.box g3 25 [.sl 6 M,.sl 5 G] false))∧(e 5=.pbox 5 g5 0∧m 5=some (.box g5 39 [iv k,iv a,iv b,iv c] false))∧(e 6=.pbox 6 g6 0∧m 6=some (.box g6 29 [.v (.slice none 0 0),.v (.slice none 0 0)] false)))∧(e 31=.sl 1 PQ∧e 32=iv pq.length∧e 33=iv j)∧∀j',j' < j→gI pq j' < (M.length:Int)) (λj=>pq.length - j) 0 (by rfl) ?_ ?_
 ·rintro j e m ⟨hj,⟨e1,⟨e3,m3⟩,⟨e5,m5⟩,⟨e6,m6⟩⟩,⟨e31,e32,e33⟩,hall⟩
  by_cases hlt:j < pq.length
  ·have hgj:=hg j hlt;have hPj:=hP j hlt;clear hP hD hg c1 c2 c3;by_cases hb:(M.length:Int)≤gI pq j
   ·obtain rfl:=hPj hb;clear hall;generalize gI pq j=z at *;(focus (refine wkad (w_13 e1 e3 m3 e5 m5 e6 m6 e31 e32 e33 hlp hgj hb) w_t w_t ?_;(repeat' first|exact w_t|apply w_l);all_goals intros));all_goals (all_goals (try simp (disch:=omega) only [go_sem,e6,m6,decide_eq_true,decide_eq_false,if_pos,if_neg,Int.reduceAdd,Int.reduceSub,Int.reduceToNat,Int.zero_add]));(all_goals first|done|rfl|(congr 2;first|done|omega|(rw [Bool.eq_iff_iff];simp only [bool_to_prop,Bool.false_eq_true,iff_true,true_iff,iff_false,false_iff];omega))|skip)
   ·have hall2:∀j',j' < j+1→gI pq j' < (M.length:Int):=λj' h'=>by
     by_cases h2:j'=j
     ·rw [h2];omega
     ·exact hall j' (by omega)
    clear hall hPj;have hb':¬(M.length:Int)≤gI pq j:=hb;generalize hz:gI pq j=z at hgj hb';(focus (refine wkad (w_13 e1 e3 m3 e5 m5 e6 m6 e31 e32 e33 hlp hgj hb') w_t w_t ?_;(repeat' first|exact w_t|apply w_l);all_goals intros));exact⟨j+1,⟨by omega,⟨by exact gW e1,⟨by exact gW e3,by exact gW m3⟩,⟨by exact gW e5,by exact gW m5⟩,⟨by exact gW e6,by exact gW m6⟩⟩,⟨by exact gW e31,by exact gW e32,by exact gS⟩,hall2⟩,by omega⟩
  ·have hjn:j=pq.length:=by omega
   subst hjn;have hD:=hD hall;clear hP hall hg c1 c2;rcases hD with⟨hg0,O,N,d1,d2,rfl⟩ | ⟨hg0,PN,O,N,d1,d2,d3,d4,rfl⟩ | ⟨hg0,PN,d1,d2,hD⟩
   ·(focus (refine wkad (w_12 e1 e3 m3 e5 m5 e6 m6 e31 e32 e33 hlp hg0) (w_3 c3 d1 d2) w_t ?_;(repeat' first|exact w_t|apply w_l);all_goals intros));all_goals (all_goals (try simp (disch:=omega) only [go_sem,e6,m6,decide_eq_true,decide_eq_false,if_pos,if_neg,Int.reduceAdd,Int.reduceSub,Int.reduceToNat,Int.zero_add]));(all_goals first|done|rfl|(congr 2;first|done|omega|(rw [Bool.eq_iff_iff];simp only [bool_to_prop,Bool.false_eq_true,iff_true,true_iff,iff_false,false_iff];omega))|skip)
   ·(focus (refine wkad (w_12 e1 e3 m3 e5 m5 e6 m6 e31 e32 e33 hlp hg0) (w_5 c3 d1 d2 d3 d4) w_t ?_;(repeat' first|exact w_t|apply w_l);all_goals intros));all_goals (all_goals (try simp (disch:=omega) only [go_sem,e6,m6,decide_eq_true,decide_eq_false,if_pos,if_neg,Int.reduceAdd,Int.reduceSub,Int.reduceToNat,Int.zero_add]));(all_goals first|done|rfl|(congr 2;first|done|omega|(rw [Bool.eq_iff_iff];simp only [bool_to_prop,Bool.false_eq_true,iff_true,true_iff,iff_false,false_iff];omega))|skip)
   ·rcases hD with⟨h4,a0,a1,a2,pk,pq,pr,pm,T,N,SG,TT,rfl,f1,f2,f3,f4,rfl⟩ | ⟨h4,z,hz,f1,rfl⟩ | ⟨h4,PS,AB,BE,pk,pq,pr,pm,T,N,SG,TT,f0,f1,f2,f3,f4,rfl⟩
    ·(focus (refine wkad (w_15 e1 e3 m3 e5 m5 e6 m6 e31 e32 e33 hlp hg0 h4 hi hs) (w_7 c3 d1 d2 f1 f2 f3 f4) (w_2 (w_d 17 [(14,.agg [iv pk,iv pq,iv pr,.v (.bool pm)]),(15,.agg [.sl 4 T,.sl 4 N])] [] [13]) (w_d 22 [(1,.sl 4 SG),(4,.sl 4 TT)] [6] [])) ?_;(repeat' first|exact w_t|apply w_l);all_goals intros));all_goals (all_goals (try simp (disch:=omega) only [go_sem,e6,m6,decide_eq_true,decide_eq_false,if_pos,if_neg,Int.reduceAdd,Int.reduceSub,Int.reduceToNat,Int.zero_add]));(all_goals first|done|rfl|(congr 2;first|done|omega|(rw [Bool.eq_iff_iff];simp only [bool_to_prop,Bool.false_eq_true,iff_true,true_iff,iff_false,false_iff];omega))|skip)
    ·(focus (refine wkad (w_16 e1 e3 m3 e5 m5 e6 m6 e31 e32 e33 hlp hg0 h4 hz hi hs) (w_4 c3 d1 d2 f1) w_t ?_;(repeat' first|exact w_t|apply w_l);all_goals intros));all_goals (all_goals (try simp (disch:=omega) only [go_sem,e6,m6,decide_eq_true,decide_eq_false,if_pos,if_neg,Int.reduceAdd,Int.reduceSub,Int.reduceToNat,Int.zero_add]));(all_goals first|done|rfl|(congr 2;first|done|omega|(rw [Bool.eq_iff_iff];simp only [bool_to_prop,Bool.false_eq_true,iff_true,true_iff,iff_false,false_iff];omega))|skip)
    ·(focus (refine wkad (w_15 e1 e3 m3 e5 m5 e6 m6 e31 e32 e33 hlp hg0 h4 hi hs) (w_8 c3 d1 d2 f0 f1 f2 f3 f4) (w_2 (w_d 21 [(3,.agg [iv pk,iv pq,iv pr,.v (.bool pm)]),(4,.agg [.sl 4 T,.sl 4 N])] [] [13]) (w_d 22 [(1,.sl 4 SG),(4,.sl 4 TT)] [6] [])) ?_;(repeat' first|exact w_t|apply w_l);all_goals intros));all_goals (all_goals (try simp (disch:=omega) only [go_sem,e6,m6,decide_eq_true,decide_eq_false,if_pos,if_neg,Int.reduceAdd,Int.reduceSub,Int.reduceToNat,Int.zero_add]));(all_goals first|done|rfl|(congr 2;first|done|omega|(rw [Bool.eq_iff_iff];simp only [bool_to_prop,Bool.false_eq_true,iff_true,true_iff,iff_false,false_iff];omega))|skip)
 ·exact⟨Nat.zero_le _,⟨by exact gC,⟨by exact gC,by exact gC⟩,⟨by exact gC,by exact gC⟩,⟨by exact gC,by exact gC⟩⟩,⟨by exact gC,by exact gW hlp,by exact gC⟩,λj' h=>absurd h (by omega)⟩
section
attribute [local go_sem] underlying3 underlying4 underlying128 underlying50 underlying52 underlying54 underlying39 underlying55 underlying57 underlying26 underlying27 sz3 by3 z3 szB zB Zas zRat Zay zInt Zax zNat Zah Zan Zai Bool.and_self Zal Za7 zSlQ szQT byQT zQT Za9 zSlT szQP zQP underlying81 underlying29 szFr byFr zFr Zb6 Zca zSQP underlying9 underlying69 underlying33 underlying76 underlying22 underlying25 underlying93 underlying23 Zce zErr Zbh Zcm zStr szL byL zL Zb3 Zb4 Zdh Zdk zFig Zdj zSlI Zdi zSlS Zcc Zcd Zd0 Zd2 zSlF underlying83 underlying119 underlying79 underlying117 Ze2 Ze4 zCmb Ze0 zSch szFn zFn Ze1 zPlc
end
end Go.Proofs.YtpkcophcldjboaaGreatDoor
namespace Go.Proofs.YtpkcophcldjboaaGreatDoor
open Go Go.RowKit Go.Pg Go.Pol Go.Proofs.Tryz
theorem exC {p:QTs} (h:(∀t∈p,t.1≠0∧(t.2.Pairwise λa b=>Qt.cmp a b≤0)∧∀q∈t.2,q.norm=(q,1))∧p.Pairwise λs t=>ordQ s.2 t.2 < 0):EX p :=
 ⟨λt ht=>⟨(h.1 t ht).1,(h.1 t ht).2.1,(h.1 t ht).2.2⟩,h.2⟩
abbrev hlX:QTs:=[((1/2:Rat),[])]
abbrev onX:QTs:=[((1:Rat),[])]
theorem mid_c:cbOf 2 [1,2] (1/2) 0=some ⟨[1,2],[hlX,hlX],onX⟩:=by
 have e1:nX (1/2)=hlX:=by decide +kernel
 have e2:nX 1=onX:=by decide +kernel
 have e3:subX onX hlX=hlX:=Zva (exC (by decide +kernel)) (exC (by decide +kernel)) (by decide +kernel);show some (prC 1 2 (nX (1/2)) (nX 1))=_;unfold prC;rw [e1,e2,e3]
theorem mid1:lmX 2 [1,2] (1/2) 0 3 ⟨1,3,0,1⟩=(0,([((1/2:Rat),[(⟨1,0,1,2⟩:Qt)])],onX)):=by
 have hn:Qt.norm ⟨1,3,0,1⟩=(⟨1,0,1,3⟩,1):=by decide +kernel
 have hp:plOf ⟨1,0,1,3⟩ 3=⟨1,0,1,false⟩:=rfl;have a1:aX 1 0 1=[]:=by decide +kernel
 have a2:aX 2 0 1=[((1:Rat),[(⟨1,0,1,2⟩:Qt)])]:=by decide +kernel
 have m1:mulX hlX []=[]:=Zoz (by decide +kernel);have m2:mulX hlX [((1:Rat),[(⟨1,0,1,2⟩:Qt)])]=[((1/2:Rat),[(⟨1,0,1,2⟩:Qt)])]:=Zoz (by decide +kernel);have j1:Za6 [] []=[]:=Zva (exC (by decide +kernel)) (exC (by decide +kernel)) (by decide +kernel);have j2:Za6 [] [((1/2:Rat),[(⟨1,0,1,2⟩:Qt)])]=[((1/2:Rat),[(⟨1,0,1,2⟩:Qt)])]:=Zva (exC (by decide +kernel)) (exC (by decide +kernel)) (by decide +kernel);have s1:sclT ((1:Int):Rat) [((1/2:Rat),[(⟨1,0,1,2⟩:Qt)])]=[((1/2:Rat),[(⟨1,0,1,2⟩:Qt)])]:=by decide +kernel
 unfold lmX;rw [hn];simp only;rw [if_neg (by decide +kernel),if_neg (by decide),mid_c];simp only;rw [if_neg (by simp),hp];show((0:Int),(sclT ((1:Int):Rat) (Za6 (Za6 [] (mulX hlX (aX 1 0 1))) (mulX hlX (aX 2 0 1))),onX))=_;rw [a1,a2,m1,m2,j1,j2,s1]
abbrev pM (a b:Int):List Qt:=[⟨2,a,b,a⟩]
theorem mid2:lmX 2 [1,2] (1/2) 0 3 ⟨2,3,0,3⟩=(0,([((1/2:Rat),pM 0 1),((1/2:Rat),pM 0 2),((-1/4:Rat),pM 1 2)],onX)):=by
 have hn:Qt.norm ⟨2,3,0,3⟩=(⟨2,0,3,0⟩,1):=by decide +kernel
 have hp:plOf ⟨2,0,3,0⟩ 3=⟨2,0,0,true⟩:=rfl;have a1:pX 0 1 0=[((1:Rat),pM 0 1)]:=by decide +kernel
 have a2:pX 0 2 0=[((1:Rat),pM 0 2)]:=by decide +kernel
 have a3:pX 1 2 1=[((1:Rat),pM 1 2)]:=by decide +kernel
 have m1:mulX hlX [((1:Rat),pM 0 1)]=[((1/2:Rat),pM 0 1)]:=Zoz (by decide +kernel);have m2:mulX hlX [((1:Rat),pM 0 2)]=[((1/2:Rat),pM 0 2)]:=Zoz (by decide +kernel);have m3:mulX hlX hlX=[((1/4:Rat),[])]:=Zoz (by decide +kernel);have m4:mulX [((1/4:Rat),[])] [((1:Rat),pM 1 2)]=[((1/4:Rat),pM 1 2)]:=Zoz (by decide +kernel);have j1:Za6 [] [((1/2:Rat),pM 0 1)]=[((1/2:Rat),pM 0 1)]:=Zva (exC (by decide +kernel)) (exC (by decide +kernel)) (by decide +kernel);have j2:Za6 [((1/2:Rat),pM 0 1)] [((1/2:Rat),pM 0 2)]=[((1/2:Rat),pM 0 1),((1/2:Rat),pM 0 2)]:=Zva (exC (by decide +kernel)) (exC (by decide +kernel)) (by decide +kernel)
 have m5:mulX onX [((1/2:Rat),pM 0 1),((1/2:Rat),pM 0 2)]=[((1/2:Rat),pM 0 1),((1/2:Rat),pM 0 2)]:=Zoz (by decide +kernel);have m6:mulX onX onX=onX:=Zoz (by decide +kernel);have s2:sclT (-1) [((1/4:Rat),pM 1 2)]=[((-1/4:Rat),pM 1 2)]:=by decide +kernel
 have j3:Za6 [((1/2:Rat),pM 0 1),((1/2:Rat),pM 0 2)] [((-1/4:Rat),pM 1 2)]=[((1/2:Rat),pM 0 1),((1/2:Rat),pM 0 2),((-1/4:Rat),pM 1 2)]:=Zva (exC (by decide +kernel)) (exC (by decide +kernel)) (by decide +kernel);have s1:sclT ((1:Int):Rat) [((1/2:Rat),pM 0 1),((1/2:Rat),pM 0 2),((-1/4:Rat),pM 1 2)]=[((1/2:Rat),pM 0 1),((1/2:Rat),pM 0 2),((-1/4:Rat),pM 1 2)]:=by decide +kernel
 unfold lmX;rw [hn];simp only;rw [if_neg (by decide +kernel),if_neg (by decide),mid_c];simp only;rw [if_neg (by simp),hp];show((0:Int),(sclT ((1:Int):Rat) (subX (mulX onX (Za6 (Za6 [] (mulX hlX (pX 0 1 0))) (mulX hlX (pX 0 2 0)))) (mulX (mulX hlX hlX) (pX 1 2 1))),mulX onX onX))=_;rw [a1,a2,a3,m1,m2,m3,m4,j1,j2,m5,m6];show((0:Int),(sclT ((1:Int):Rat) (Za6 _ (sclT (-1) [((1/4:Rat),pM 1 2)])),onX))=_;rw [s2,j3,s1]
end Go.Proofs.YtpkcophcldjboaaGreatDoor
namespace Go.Proofs.YtpkcophcldjboaaGreatDoor
open Go Go.RowKit Go.Pg Go.Pol Go.Proofs.Tryz
attribute [-bool_to_prop] Bool.and_eq_decide Bool.or_eq_decide Bool.decide_beq_decide decide_eq_decide
attribute [local go_sem] underlying3 underlying4 underlying128 underlying50 underlying52 underlying54 underlying39 underlying55 underlying57 underlying26 underlying27 sz3 by3 z3 szB zB Zas zRat Zay zInt Zax zNat Zah Zan Zai Bool.and_self Zal Za7 zSlQ szQT byQT zQT Za9 zSlT szQP zQP underlying81 underlying29 szFr byFr zFr Zb6 Zca zSQP underlying9 underlying69 underlying33 underlying76 underlying22 underlying25 underlying93 underlying23 Zce zErr Zbh Zcm zStr szL byL zL Zb3 Zb4 Zdh Zdk zFig Zdj zSlI Zdi zSlS Zcc Zcd Zd0 Zd2 zSlF underlying83 underlying119 underlying79 underlying117 Ze2 Ze4 zCmb Ze0 zSch szFn zFn Ze1 zPlc
theorem chk_0 {q:Qt} {n:Int} (hok:q.ok=true) (h:∀j,j < q.pts.length→gI q.pts j < n):q.chk n 64=0:=by
 unfold Qt.chk;rw [if_pos hok];have hr:=hok;unfold Qt.ok at hr;simp at hr;by_cases h3:q.k=3
 ·rw [if_pos h3,if_neg (by omega)]
 ·rw [if_neg h3,if_neg λhb=>?_]
  obtain⟨y,hy,hn⟩:∃y,(y=q.a∨y=q.b∨y=q.c)∧n≤y:=by
   rcases hb with hb | hb | hb
   ·exact⟨q.a,.inl rfl,hb⟩
   ·exact⟨q.b,.inr (.inl rfl),hb⟩
   ·exact⟨q.c,.inr (.inr rfl),hb⟩
  have:=Zs9 hok h3 hy;obtain⟨t,ht,e⟩:=List.any_eq_true.1 this;obtain rfl:y=t:=by simpa using e
  obtain⟨j,hj,e⟩:=List.mem_iff_getElem.1 ht;have:=h j hj;rw [Zfk hj,e] at this;omega
theorem chk_2 {q:Qt} {n:Int} {j:Nat} (hj:j < q.pts.length) (h:n≤gI q.pts j):q.chk n 64=2:=by
 have hm:gI q.pts j∈q.pts:=by rw [Zfk hj];exact List.getElem_mem hj
 have hh:hasQ (gI q.pts j) q=true:=List.any_eq_true.2 ⟨_,hm,by simp⟩;obtain⟨hok,h3,ho⟩:=Zpb hh;unfold Qt.chk;rw [if_pos hok,if_neg h3,if_pos (by omega)]
theorem Zxh {q:Qt} {n x:Int} (hc:q.chk n 64=0) (hs:q.norm.2≠0) (hx:hasQ x q.norm.1=true):0≤q.norm.1.a∧q.norm.1.a < n∧0≤q.norm.1.b∧q.norm.1.b < n∧0≤q.norm.1.c∧q.norm.1.c < n:=by
 obtain⟨h1,h2,_⟩:=Zpb hx;have ha:=Zjx hs (Zs9 h1 h2 (.inl rfl));have hb:=Zjx hs (Zs9 h1 h2 (.inr (.inl rfl)));have hcc:=Zjx hs (Zs9 h1 h2 (.inr (.inr rfl)))
 have hok:q.ok=true:=by
  cases h:q.ok with
  | true=>rfl
  | false=>unfold Qt.norm at hs;rw [if_neg (by rw [h];simp)] at hs;exact absurd rfl hs
 have h3:¬q.k=3:=λh=>by
  unfold Qt.norm at h2;rw [if_pos hok,if_neg (by omega),if_neg (by omega)] at h2;exact h2 h
 unfold Qt.chk at hc;rw [if_pos hok,if_neg h3] at hc;have hr:=hok;unfold Qt.ok at hr;simp at hr;split at hc
 ·omega
 ·omega
theorem sg_sz2 {s:Int} (h:s=-1∨s=1):Sz (s:Rat) 2:=by
 rcases h with rfl | rfl
 ·exact sz_m1.mono (by decide)
 ·exact Zll.mono (by decide)
def lmA (q:Qt) (n:Int) (z:Int × XX) (N:AV):AV:=if q.chk n 64=0 then (if z.1=0 then .tup [.agg [qpA z.2.1,qpA z.2.2],iv 0] else .tup [.agg [N,.v (.slice none 0 0)],iv z.1]) else .tup [.agg [.v (.slice none 0 0),.v (.slice none 0 0)],iv (q.chk n 64)]
abbrev lmS (ss:List RS) (i:Nat) (hi:i < ss.length) (q:Qt):Int × XX:=lmX ss[i].k ss[i].ar ss[i].r.q (tOf ss i) i q
theorem nx1:nX 1=onX:=by decide +kernel
theorem scl_no (s:Int) (p:QTs) (h:EX p) (hs:s=-1∨s=1):mulX (nX (s:Rat)) p=sclT (s:Rat) p:=by
 show mulX (cstT (s:Rat)) p=_;rw [cstX_mul h,if_neg (by rcases hs with rfl | rfl<;>decide +kernel)]
theorem sg_of {q:Qt} (h:q.norm.2≠0):q.norm.2=-1∨q.norm.2=1:=by
 rcases Zh2 q with g | g | g
 ·exact .inl g
 ·exact absurd g h
 ·exact .inr g
theorem XS.l12 {p q:QTs} (hp:p.length≤1) (hq:q.length≤12):p.length*q.length≤12:=Nat.le_trans (Nat.mul_le_mul hp hq) (by decide)
theorem elNumS {s:Int} (h:s=-1∨s=1):Pure prog 20 [iv s] (qpA (nX (s:Rat))):=by
 rcases h with rfl | rfl
 ·exact elNumM
 ·exact Zhw
theorem Znl (ss:List RS) (gs:List RG) (i:Nat) (hi:i < ss.length) (h8:ss.length≤8) (he:errS ss i=0) (hr:ss[i].r.lm 2) (k a b c:Int):Pure prog 11 [figA ss gs,iv i,.agg [iv k,iv a,iv b,iv c]] (lmA ⟨k,a,b,c⟩ ss.length (lmS ss i hi ⟨k,a,b,c⟩) (.v (.slice none 0 0))):=by
 have hM:(ss.map RS.av).getD i .u=.agg [iv ss[i].k,strA ss[i].nm,ivs ss[i].ar,.v (.bool ss[i].r.s),lim ss[i].r.l,lim ss[i].r.d]:=Zat RS.av hi;have hl:i < (ss.map RS.av).length:=by rw [List.length_map];exact hi
 have hlm:((ss.map RS.av).length:Int)=ss.length:=by rw [List.length_map]
 have hA:=st_a hi h8 he hr;have cc:=elComb ss gs i hi h8 he hr;have c1:=Zkm k a b c;generalize hq:(⟨k,a,b,c⟩:Qt)=q at *;have hqv:q.av=.agg [iv k,iv a,iv b,iv c]:=by rw [←hq]
 cases hok:q.ok with
 | false =>
   rw [hok] at c1;have h1:q.chk ss.length 64=1:=by unfold Qt.chk;rw [if_neg (by rw [hok];simp)]
   unfold lmA;rw [if_neg (by rw [h1];decide),h1];exact elLmA _ _ i k a b c hl (by rw [←hqv];exact c1)
 | true =>
   rw [hok] at c1;have c2:Pure prog 32 [q.av] (ivs q.pts):=by rw [←hq];exact Zjt k a b c
   have c3:Pure prog 33 [q.av] (.tup [q.norm.1.av,iv q.norm.2]):=by rw [←hq];exact Zsd k a b c
   have co:=exOfS hok;have cN:Pure prog 32 [q.norm.1.av] (ivs q.norm.1.pts):=Zjt q.norm.1.k q.norm.1.a q.norm.1.b q.norm.1.c;have cs:=Zv5 q.norm.1.pts i (by have:=Zsh q.norm.1;omega);have cs:Pure prog 34 [ivs q.norm.1.pts,iv i] (.v (.bool (hasQ i q.norm.1))):=cs;have cp:Pure prog 37 [q.norm.1.av,iv i] (Pl.av (plOf q.norm.1 i)):=elPlaced q.norm.1.k q.norm.1.a q.norm.1.b q.norm.1.c i;rw [hqv] at c1 c2 c3 co;refine elLmV _ _ i k a b c _ q.pts q.norm.1.k q.norm.1.a q.norm.1.b q.norm.1.c q.norm.2 ss[i].k ss[i].nm (ss[i].ar.map iv) ss[i].r.s ss[i].r.l ss[i].r.d hl hM (by have:=Zsh q;omega) c1 c2 c3 (λj hj hle=>?_) (λhall=>?_)
   ·rw [hlm] at hle;have h2:=chk_2 hj hle;unfold lmA;rw [if_neg (by rw [h2];decide),h2]
   ·rw [hlm] at hall;have h0:=chk_0 hok hall;have hlA:∀z N,lmA q ss.length z N=if z.1=0 then .tup [.agg [qpA z.2.1,qpA z.2.2],iv 0] else .tup [.agg [N,.v (.slice none 0 0)],iv z.1]:=λz N=>by unfold lmA;rw [if_pos h0]
    rw [hlA];by_cases hs:q.norm.2=0
    ·refine .inl ⟨hs,_,_,co,Zhw,?_⟩;rw [show lmS ss i hi q=(0,(ofX q,[((1:Rat),[])])) from by unfold lmS lmX;rw [if_pos (Or.inl hs)],if_pos rfl,nx1]
    ·cases hh:hasQ i q.norm.1 with
     | false =>
       rw [hh] at cs;refine .inr (.inl ⟨hs,_,_,_,cN,cs,co,Zhw,?_⟩);rw [show lmS ss i hi q=(0,(ofX q,[((1:Rat),[])])) from by unfold lmS lmX;rw [if_pos (Or.inr hh)],if_pos rfl,nx1]
     | true =>
       rw [hh] at cs;have hsg:=sg_of hs;have hpl:=Zso hs (Zxh h0 hs hh) (i:Int);have hln:lmS ss i hi q=if ss[i].k=4 then ((0:Int),(sclT (q.norm.2:Rat) (tuX (gI ss[i].ar 0) (gI ss[i].ar 1) (gI ss[i].ar 2) (plOf q.norm.1 i)),[((1:Rat),[])]))
        else match cbOf ss[i].k ss[i].ar ss[i].r.q (tOf ss i) with
         | none=>((8:Int),(([]:QTs),([]:QTs)))
         | some c=>if c.be=[] then (3,([],[])) else (0,(sclT (q.norm.2:Rat) (afN c (plOf q.norm.1 i)),afD c (plOf q.norm.1 i))):=by
        show lmX _ _ _ _ _ _=_;unfold lmX;rw [if_neg (by rintro (h | h);exact hs h;rw [hh] at h;cases h)];rfl
       refine .inr (.inr ⟨hs,_,cN,cs,?_⟩);rw [hln];have b40:∀{z:Int},(0≤z∧z < (ss.length:Int))→0≤z∧z < 40:=λh=>by omega
       by_cases h4:ss[i].k=4
       ·refine .inl ⟨h4,?_⟩;have h3:=hA.l4 h4;obtain⟨a0,a1,a2,har⟩:=l3 h3;have g:∀j,j < 3→0≤gI ss[i].ar j∧gI ss[i].ar j < 40:=λj hj=>b40 (hA.rg j (by omega));rw [har] at g;have g0:0≤a0∧a0 < 40:=g 0 (by decide);have g1:0≤a1∧a1 < 40:=g 1 (by decide);have g2:0≤a2∧a2 < 40:=g 2 (by decide);have hx:=tu_xl hpl hA.n40 (by have:=hA.rg 0 (by omega);rw [har] at this;exact this:0≤a0∧a0 < (ss.length:Int)) (by have:=hA.rg 1 (by omega);rw [har] at this;exact this:0≤a1∧a1 < (ss.length:Int)) (by have:=hA.rg 2 (by omega);rw [har] at this;exact this:0≤a2∧a2 < (ss.length:Int));refine⟨a0,a1,a2,_,_,_,_,_,_,_,_,by rw [har];rfl,cp,elTurned (plOf q.norm.1 i) a0 a1 a2 g0 g1 g2 (b40 hpl.q) (b40 hpl.r),elNumS hsg,Zhv (Zrm (sg_sz2 hsg)) hx.s (XS.l12 (Zge _) (Nat.le_trans hx.l (by decide))),?_⟩
        rw [if_pos h4,if_pos rfl,har];show AV.tup [.agg [qpA (sclT (q.norm.2:Rat) (tuX a0 a1 a2 (plOf q.norm.1 i))),qpA onX],iv 0]=_;rw [←scl_no _ _ hx.x.1 hsg,nx1]
       ·refine .inr ?_;rw [if_neg h4]
        cases hc:cbOf ss[i].k ss[i].ar ss[i].r.q (tOf ss i) with
        | none =>
          rw [hc] at cc;exact .inl ⟨h4,8,by decide,cc,by simp only;rw [if_neg (by decide)]⟩
        | some cb =>
          rw [hc] at cc;have ok:=Zlg hc hA.sz hA.rg hA.n40 hA.tr hA.l;have cl:=cb_len hc (λg=>by rcases g with g | g;exact hA.l.1 g;exact hA.l.2.1 g);simp only;by_cases hb:cb.be=[]
          ·have cc:Pure prog 38 [figA ss gs,iv i] (.tup [.agg [.v (.slice none 0 0),.v (.slice none 0 0),.v (.slice none 0 0)],iv 3]):=by
            have h:=cc;unfold cmR at h;simp only at h;rw [if_pos (by rw [hb];rfl)] at h;exact h
           rw [if_pos hb];exact .inl ⟨h4,3,by decide,cc,by simp only;rw [if_neg (by decide)]⟩
          ·have cc:Pure prog 38 [figA ss gs,iv i] (.tup [cb.av,iv 0]):=by
            have h:=cc;unfold cmR at h;simp only at h;rw [if_neg (λh=>hb (List.length_eq_zero_iff.1 h))] at h;exact h
           rw [if_neg hb,if_pos rfl];have hl12:=af_len (plOf q.norm.1 i) cl;have hx:=afN_xl ok hpl hA.n40;refine .inr ⟨h4,_,_,_,_,_,_,_,_,_,_,_,cc,cp,elAffine cb (plOf q.norm.1 i) ok cl hpl hA.n40,elNumS hsg,Zhv (Zrm (sg_sz2 hsg)) hx.s (XS.l12 (Zge _) hl12.1),?_⟩;rw [←scl_no _ _ hx.x.1 hsg]
attribute [local go_sem] underlying5 underlying95 szU8 byU8 zU8 Zlm Ztx
theorem elReplV (A B BN BD N1 N2 D1 D2 R1 R2:List AV) (k a b c:Int) (i j:Nat) (hi:i≤1000000) (hj:j≤1000000) (h1:R1.length≤100000000) (h2:R2.length≤100000000)
 (c1:Pure prog 52 [.sl 4 A,.agg [iv k,iv a,iv b,iv c]] (iv i)) (c2:Pure prog 52 [.sl 4 B,.agg [iv k,iv a,iv b,iv c]] (iv j))
 (c3:Pure prog 54 [.sl 4 A,.agg [iv k,iv a,iv b,iv c],.agg [.sl 4 BN,.sl 4 BD]] (.agg [.sl 4 N1,.sl 4 N2])) (c4:Pure prog 54 [.sl 4 B,.agg [iv k,iv a,iv b,iv c],.agg [.sl 4 BN,.sl 4 BD]] (.agg [.sl 4 D1,.sl 4 D2]))
 (c5:Pure prog 53 [.sl 4 N1,.sl 4 BD,.v (.int .i64 ((j:Int) - (i:Int)))] (.sl 4 R1)) (c6:Pure prog 53 [.sl 4 D1,.sl 4 BD,.v (.int .i64 ((i:Int) - (j:Int)))] (.sl 4 R2)) :
 Pure prog 19 [.agg [.sl 4 A,.sl 4 B],.agg [iv k,iv a,iv b,iv c],.agg [.sl 4 BN,.sl 4 BD]] (if 4000 < R1.length∨4000 < R2.length then .tup [.agg [.v (.slice none 0 0),.v (.slice none 0 0)],iv 4] else .tup [.agg [.sl 4 R1,.sl 4 R2],iv 0]):=by
 by_cases g1:4000 < R1.length
 ·rw [if_pos (.inl g1)];have g1':(R1.length:Int) > 4000:=by omega
  refine Zaa (tok:=0) func19 rfl ntmps19 results19 call19 (by rfl) (by simp) ?_;(focus (refine wkax (w_1 g1') (w_6 c1 c2 c3 c5 c4 c6) (w_3 (w_d 1 [(3,iv i),(7,iv j)] [] []) (w_d 2 [(4,.agg [.sl 4 N1,.sl 4 N2]),(11,.sl 4 R1)] [] []) (w_d 3 [(4,.agg [.sl 4 D1,.sl 4 D2]),(11,.sl 4 R2)] [] [])) w_t w_t w_t w_y (w_r 0) ?_;(repeat' first|exact w_t|apply w_l);all_goals intros));all_goals exact gL
 ·by_cases g2:4000 < R2.length
  ·rw [if_pos (.inr g2)];have g1':¬(R1.length:Int) > 4000:=by omega
   have g2':(R2.length:Int) > 4000:=by omega
   refine Zaa (tok:=0) func19 rfl ntmps19 results19 call19 (by rfl) (by simp) ?_;(focus (refine wkax (w_2 g1' g2') (w_6 c1 c2 c3 c5 c4 c6) (w_3 (w_d 1 [(3,iv i),(7,iv j)] [] []) (w_d 2 [(4,.agg [.sl 4 N1,.sl 4 N2]),(11,.sl 4 R1)] [] []) (w_d 3 [(4,.agg [.sl 4 D1,.sl 4 D2]),(11,.sl 4 R2)] [] [])) w_t w_t w_t w_y (w_r 0) ?_;(repeat' first|exact w_t|apply w_l);all_goals intros));all_goals exact gL
  ·rw [if_neg (by omega)];have g1':¬(R1.length:Int) > 4000:=by omega
   have g2':¬(R2.length:Int) > 4000:=by omega
   refine Zaa (tok:=0) func19 rfl ntmps19 results19 call19 (by rfl) (by simp) ?_;(focus (refine wkax (w_2 g1' g2') (w_6 c1 c2 c3 c5 c4 c6) (w_3 (w_d 1 [(3,iv i),(7,iv j)] [] []) (w_d 2 [(4,.agg [.sl 4 N1,.sl 4 N2]),(11,.sl 4 R1)] [] []) (w_d 3 [(4,.agg [.sl 4 D1,.sl 4 D2]),(11,.sl 4 R2)] [] [])) w_t w_t w_t w_y (w_r 0) ?_;(repeat' first|exact w_t|apply w_l);all_goals intros));all_goals exact gL
def elR (z:Int × XX) (N:AV):AV:=if z.1=0 then .tup [.agg [if z.2.1=[] then N else qpA z.2.1,qpA z.2.2],iv 0] else .tup [.agg [.v (.slice none 0 0),.v (.slice none 0 0)],iv z.1]
theorem elR_e {z:Int × XX} (N:AV) {k:Int} {y:XX} (h:z=(k,y)) (hk:k≠0):elR z N=.tup [.agg [.v (.slice none 0 0),.v (.slice none 0 0)],iv k]:=by subst h;unfold elR;rw [if_neg hk]
theorem elT_e {k:Int} {y:XX} (hk:k≠0):elT (k,y)=(k,([],[])):=by unfold elT;rw [if_pos hk]
theorem elT_z {y:XX} (h:y.2=[]):elT (0,y)=(3,([],[])):=by unfold elT;rw [if_neg (by simp),if_pos h]
theorem elT_n {y:XX} (h:y.2≠[]) (h1:y.1=[]):elT (0,y)=(0,([],[((1:Rat),[])])):=by unfold elT;rw [if_neg (by simp),if_neg h,if_pos h1]
theorem elT_o {y:XX} (h:y.2≠[]) (h1:y.1≠[]):elT (0,y)=(0,y):=by unfold elT;rw [if_neg (by simp),if_neg h,if_neg h1]
theorem elF_l {lem:Qt→Int × XX} {q:Qt} {l:List Qt} {x:XX} (h:(lem q).1≠0):elF lem (q :: l) x=((lem q).1,([],[])):=by show(if _ then _ else _)=_;rw [if_pos h]
theorem elF_b {lem:Qt→Int × XX} {q:Qt} {l:List Qt} {x:XX} (h:(lem q).1=0) (hb:4000 < (elS q (lem q).2 x).1.length∨4000 < (elS q (lem q).2 x).2.length):elF lem (q :: l) x=(4,([],[])):=by show(if _ then _ else _)=_;rw [if_neg (by rw [h];simp),if_pos hb]
theorem elF_s {lem:Qt→Int × XX} {q:Qt} {l:List Qt} {x:XX} (h:(lem q).1=0) (hb:¬(4000 < (elS q (lem q).2 x).1.length∨4000 < (elS q (lem q).2 x).2.length)):elF lem (q :: l) x=elF lem l (elS q (lem q).2 x):=by
 show(if _ then _ else _)=_;rw [if_neg (by rw [h];simp),if_neg hb]
abbrev nilA:AV:=.v (.slice none 0 0)
theorem elElR (M G N D:List AV) (p:Int) (h:p < 0∨(M.length:Int)≤p):Pure prog 8 [.agg [.sl 6 M,.sl 5 G],iv p,.agg [.sl 4 N,.sl 4 D]] (.tup [.agg [.v (.slice none 0 0),.v (.slice none 0 0)],iv 2]):=by
 rcases h with h | h
 all_goals
  refine Zaa (tok:=0) func8 rfl ntmps8 results8 call8 (by rfl) (by simp) ?_;(focus (refine wkad (w_1 h) w_t w_t ?_;(repeat' first|exact w_t|apply w_l);all_goals intros));all_goals exact gL
theorem elElV (M G:List AV) (i:Nat) (hi:i < M.length) (l:List Qt) (x0:XX) (lem:Qt→Int × XX) (I:List Qt→XX→Prop) (hll:l.length≤1000000)
 (ch:Pure prog 18 [iv i,.sl 1 [qpA x0.1,qpA x0.2]] (.sl 4 (l.map Qt.av))) (cn:Pure prog 20 [iv 1] (.sl 4 [.agg [.v (.bool false),lim [1],lim [1],.sl 4 []]])) (h0:I l x0)
 (hb:∀l y,I l y→y.1.length≤1000000∧y.2.length≤1000000)
 (hI:∀q r y,I (q :: r) y→Pure prog 11 [.agg [.sl 6 M,.sl 5 G],iv i,q.av] (if (lem q).1=0 then .tup [.agg [qpA (lem q).2.1,qpA (lem q).2.2],iv 0] else .tup [.agg [.v (.slice none 0 0),.v (.slice none 0 0)],iv (lem q).1])
  ∧ ((lem q).1=0→Pure prog 19 [.agg [qpA y.1,qpA y.2],q.av,.agg [qpA (lem q).2.1,qpA (lem q).2.2]] (if 4000 < (elS q (lem q).2 y).1.length∨4000 < (elS q (lem q).2 y).2.length then .tup [.agg [.v (.slice none 0 0),.v (.slice none 0 0)],iv 4] else .tup [.agg [qpA (elS q (lem q).2 y).1,qpA (elS q (lem q).2 y).2],iv 0])
    ∧ (¬(4000 < (elS q (lem q).2 y).1.length∨4000 < (elS q (lem q).2 y).2.length)→I r (elS q (lem q).2 y)))) :
 Pure prog 8 [.agg [.sl 6 M,.sl 5 G],iv i,.agg [qpA x0.1,qpA x0.2]] (elR (elT (elF lem l x0)) nilA):=by
 have hg:∀j (h:j < l.length),(l.map Qt.av).getD j .u=Qt.av l[j]:=λj h=>Zat Qt.av h;have hlm:(l.map Qt.av).length=l.length:=List.length_map ..;obtain⟨R,hR⟩:∃R,R=elR (elT (elF lem l x0)) nilA:=⟨_,rfl⟩;rw [←hR];show Pure _ _ [_,_,.agg [.sl 4 (x0.1.map qtA),.sl 4 (x0.2.map qtA)]] _;have ch:Pure prog 18 [iv i,.sl 1 [.sl 4 (x0.1.map qtA),.sl 4 (x0.2.map qtA)]] (.sl 4 (l.map Qt.av)):=ch;obtain⟨y1,hy1⟩:∃y,y=x0.1.map qtA:=⟨_,rfl⟩;obtain⟨y2,hy2⟩:∃y,y=x0.2.map qtA:=⟨_,rfl⟩;rw [←hy1,←hy2] at ch ⊢;generalize l.map Qt.av=LA at *;refine Zaa (tok:=0) func8 rfl ntmps8 results8 call8 (by rfl) (by simp) ?_
 (focus (refine wkax (w_2 hi hlm) w_t w_t (w_1 ch) w_t w_t w_y (w_r 0) ?_;(repeat' first|exact w_t|apply w_l);all_goals intros));rename_i g3 g5 g6 svx;refine Zae (ι:=Nat × XX) (λs e m=>s.1≤l.length∧(e 1=iv i∧(e 3=.pbox 3 g3 0∧m 3=some (.box g3 25 [.sl 6 M,.sl 5 G] false))∧(e 5=.pbox 5 g5 0∧m 5=some (.box g5 29 [.sl 4 (s.2.1.map qtA),.sl 4 (s.2.2.map qtA)] false))∧(e 6=.pbox 6 g6 0∧m 6=some (.box g6 29 [.v (.slice none 0 0),.v (.slice none 0 0)] false)))∧(e 28=.sl 4 LA∧e 29=iv l.length∧e 30=iv s.1)∧I (l.drop s.1) s.2∧elF lem (l.drop s.1) s.2=elF lem l x0) (λs=>l.length - s.1) (0,x0) (by rfl) ?_ ?_
 ·rintro ⟨j,y⟩ e m ⟨hj,⟨e1,⟨e3,m3⟩,⟨e5,m5⟩,⟨e6,m6⟩⟩,⟨e28,e29,e30⟩,hIy,hF⟩
  simp only at hj e30 m5 hIy hF;by_cases hlt:j < l.length
  ·have hgj:=hg j hlt;have hdr:l.drop j=l[j] :: l.drop (j+1):=List.drop_eq_getElem_cons hlt;rw [hdr] at hIy hF;obtain⟨cL,h2⟩:=hI _ _ _ hIy;clear hI hg ch cn h0 hb hdr hIy;generalize l[j]=q at *;by_cases hz:(lem q).1=0
   ·rw [if_pos hz] at cL;obtain⟨cR,hn⟩:=h2 hz;clear h2;by_cases hbig:4000 < (elS q (lem q).2 y).1.length∨4000 < (elS q (lem q).2 y).2.length
    ·rw [if_pos hbig] at cR;have hres:R=.tup [.agg [.v (.slice none 0 0),.v (.slice none 0 0)],iv 4]:=by rw [hR,←hF,elF_b hz hbig,elT_e (by decide)];exact elR_e _ rfl (by decide)
     subst hres;have cL:Pure prog 11 [.agg [.sl 6 M,.sl 5 G],iv i,q.av] (.tup [.agg [.sl 4 ((lem q).2.1.map qtA),.sl 4 ((lem q).2.2.map qtA)],iv 0]):=cL;have cR:Pure prog 19 [.agg [.sl 4 (y.1.map qtA),.sl 4 (y.2.map qtA)],q.av,.agg [.sl 4 ((lem q).2.1.map qtA),.sl 4 ((lem q).2.2.map qtA)]] _:=cR;clear hF hR hn hz hbig hy1 hy2;generalize (lem q).2.1.map qtA=B1 at *;generalize (lem q).2.2.map qtA=B2 at *;generalize y.1.map qtA=Y1 at *;generalize y.2.map qtA=Y2 at *;obtain⟨q1,q2,q3,q4⟩:=q;have cL:Pure prog 11 [.agg [.sl 6 M,.sl 5 G],iv i,.agg [iv q1,iv q2,iv q3,iv q4]] _:=cL;have cR:Pure prog 19 [.agg [.sl 4 Y1,.sl 4 Y2],.agg [iv q1,iv q2,iv q3,iv q4],.agg [.sl 4 B1,.sl 4 B2]] _:=cR
     have hgj:LA.getD j .u=.agg [iv q1,iv q2,iv q3,iv q4]:=hgj;(focus (refine wkad (w_12 e1 e3 m3 e5 m5 e6 m6 e28 e29 e30 hlm hgj) (w_2 cL cR) w_t ?_;(repeat' first|exact w_t|apply w_l);all_goals intros));all_goals (all_goals (try simp (disch:=omega) only [go_sem,e6,m6,decide_eq_true,decide_eq_false,if_pos,if_neg,Int.reduceAdd,Int.reduceSub,Int.reduceToNat,Int.zero_add]));(all_goals first|done|rfl|(congr 2;first|done|omega|(rw [Bool.eq_iff_iff];simp only [bool_to_prop,Bool.false_eq_true,iff_true,true_iff,iff_false,false_iff];omega))|skip)
    ·rw [if_neg hbig] at cR;have hn:=hn hbig;rw [elF_s hz hbig] at hF;have cL:Pure prog 11 [.agg [.sl 6 M,.sl 5 G],iv i,q.av] (.tup [.agg [.sl 4 ((lem q).2.1.map qtA),.sl 4 ((lem q).2.2.map qtA)],iv 0]):=cL;have cR:Pure prog 19 [.agg [.sl 4 (y.1.map qtA),.sl 4 (y.2.map qtA)],q.av,.agg [.sl 4 ((lem q).2.1.map qtA),.sl 4 ((lem q).2.2.map qtA)]] (.tup [.agg [.sl 4 ((elS q (lem q).2 y).1.map qtA),.sl 4 ((elS q (lem q).2 y).2.map qtA)],iv 0]):=cR;generalize elS q (lem q).2 y=y' at *;obtain⟨Z1,hZ1⟩:∃Z,Z=y'.1.map qtA:=⟨_,rfl⟩;obtain⟨Z2,hZ2⟩:∃Z,Z=y'.2.map qtA:=⟨_,rfl⟩;rw [←hZ1,←hZ2] at cR;clear hR hz hbig hy1 hy2
     generalize (lem q).2.1.map qtA=B1 at *;generalize (lem q).2.2.map qtA=B2 at *;generalize y.1.map qtA=Y1 at *;generalize y.2.map qtA=Y2 at *;obtain⟨q1,q2,q3,q4⟩:=q;have cL:Pure prog 11 [.agg [.sl 6 M,.sl 5 G],iv i,.agg [iv q1,iv q2,iv q3,iv q4]] _:=cL;have cR:Pure prog 19 [.agg [.sl 4 Y1,.sl 4 Y2],.agg [iv q1,iv q2,iv q3,iv q4],.agg [.sl 4 B1,.sl 4 B2]] _:=cR;have hgj:LA.getD j .u=.agg [iv q1,iv q2,iv q3,iv q4]:=hgj;(focus (refine wkad (w_12 e1 e3 m3 e5 m5 e6 m6 e28 e29 e30 hlm hgj) (w_2 cL cR) w_t ?_;(repeat' first|exact w_t|apply w_l);all_goals intros));exact⟨(j+1,y'),⟨by show j+1≤_;omega,⟨by exact gW e1,⟨by exact gW e3,by exact gW m3⟩,⟨by exact gW e5,by rw [←hZ1,←hZ2];exact gW m5⟩,⟨by exact gW e6,by exact gW m6⟩⟩,⟨by exact gW e28,by exact gW e29,by exact gS⟩,hn,hF⟩,by simp only;omega⟩
   ·rw [if_neg hz] at cL;have hres:R=.tup [.agg [.v (.slice none 0 0),.v (.slice none 0 0)],iv (lem q).1]:=by rw [hR,←hF,elF_l hz,elT_e hz];exact elR_e _ rfl hz
    subst hres;clear hF h2 hR hy1 hy2;generalize (lem q).1=z at *;generalize y.1.map qtA=Y1 at *;generalize y.2.map qtA=Y2 at *;obtain⟨q1,q2,q3,q4⟩:=q;have cL:Pure prog 11 [.agg [.sl 6 M,.sl 5 G],iv i,.agg [iv q1,iv q2,iv q3,iv q4]] _:=cL;have hgj:LA.getD j .u=.agg [iv q1,iv q2,iv q3,iv q4]:=hgj;(focus (refine wkad (w_13 e1 e3 m3 e5 m5 e6 m6 e28 e29 e30 hlm hgj hz) (w_1 cL) w_t ?_;(repeat' first|exact w_t|apply w_l);all_goals intros));all_goals (all_goals (try simp (disch:=omega) only [go_sem,e6,m6,decide_eq_true,decide_eq_false,if_pos,if_neg,Int.reduceAdd,Int.reduceSub,Int.reduceToNat,Int.zero_add]));(all_goals first|done|rfl|(congr 2;first|done|omega|(rw [Bool.eq_iff_iff];simp only [bool_to_prop,Bool.false_eq_true,iff_true,true_iff,iff_false,false_iff];omega))|skip)
  ·have hjl:j=l.length:=by omega
   subst hjl;rw [List.drop_length] at hIy hF;have hF:(0,y)=elF lem l x0:=hF;obtain⟨b1,b2⟩:=hb _ _ hIy;have l1:(y.1.map qtA).length=y.1.length:=List.length_map ..;have l2:(y.2.map qtA).length=y.2.length:=List.length_map ..;clear hI hg ch h0 hb hIy hy1 hy2;by_cases n2:y.2=[]
   ·have hres:R=.tup [.agg [.v (.slice none 0 0),.v (.slice none 0 0)],iv 3]:=by rw [hR,←hF,elT_z n2];exact elR_e _ rfl (by decide)
    subst hres;rw [n2] at m5;clear cn hF hR l1 l2;have m5:m 5=some (.box g5 29 [.sl 4 (y.1.map qtA),.sl 4 []] false):=m5;generalize y.1.map qtA=Y1 at *;(focus (refine wkad (w_11 e1 e3 m3 e5 m5 e6 m6 e28 e29 e30 hlm) w_t w_t ?_;(repeat' first|exact w_t|apply w_l);all_goals intros));all_goals (all_goals (try simp (disch:=omega) only [go_sem,e6,m6,decide_eq_true,decide_eq_false,if_pos,if_neg,Int.reduceAdd,Int.reduceSub,Int.reduceToNat,Int.zero_add]));(all_goals first|done|rfl|(congr 2;first|done|omega|(rw [Bool.eq_iff_iff];simp only [bool_to_prop,Bool.false_eq_true,iff_true,true_iff,iff_false,false_iff];omega))|skip)
   ·have k2:¬y.2.length=0:=λh=>n2 (List.length_eq_zero_iff.1 h);have k2':¬(y.2.length:Int)=0:=by omega
    by_cases n1:y.1=[]
    ·have hres:R=.tup [.agg [.v (.slice none 0 0),.sl 4 [.agg [.v (.bool false),lim [1],lim [1],.sl 4 []]]],iv 0]:=by
      rw [hR,←hF,elT_n n2 n1];show AV.tup [.agg [.v (.slice none 0 0),.sl 4 [qtA ((1:Rat),[])]],iv 0]=_;rw [Ziz];rfl
     subst hres;rw [n1] at m5;have m5:m 5=some (.box g5 29 [.sl 4 [],.sl 4 (y.2.map qtA)] false):=m5;clear hF hR l1;generalize y.2.map qtA=Y2 at *;(focus (refine wkad (w_13 e1 e3 m3 e5 m5 e6 m6 e28 e29 e30 hlm l2 k2') (w_1 cn) w_t ?_;(repeat' first|exact w_t|apply w_l);all_goals intros));all_goals (all_goals (try simp (disch:=omega) only [go_sem,e6,m6,decide_eq_true,decide_eq_false,if_pos,if_neg,Int.reduceAdd,Int.reduceSub,Int.reduceToNat,Int.zero_add]));(all_goals first|done|rfl|(congr 2;first|done|omega|(rw [Bool.eq_iff_iff];simp only [bool_to_prop,Bool.false_eq_true,iff_true,true_iff,iff_false,false_iff];omega))|skip)
    ·have k1:¬y.1.length=0:=λh=>n1 (List.length_eq_zero_iff.1 h);have k1':¬(y.1.length:Int)=0:=by omega
     have hres:R=.tup [.agg [.sl 4 (y.1.map qtA),.sl 4 (y.2.map qtA)],iv 0]:=by
      rw [hR,←hF,elT_o n2 n1];unfold elR;rw [if_pos rfl,if_neg n1]
     subst hres;clear hF hR cn;generalize y.1.map qtA=Y1 at *;generalize y.2.map qtA=Y2 at *;(focus (refine wkad (w_15 e1 e3 m3 e5 m5 e6 m6 e28 e29 e30 hlm l1 l2 k1' k2') w_t w_t ?_;(repeat' first|exact w_t|apply w_l);all_goals intros));all_goals (all_goals (try simp (disch:=omega) only [go_sem,e5,m5,e6,m6,decide_eq_true,decide_eq_false,if_pos,if_neg,Int.reduceAdd,Int.reduceSub,Int.reduceToNat,Int.zero_add]));(all_goals first|done|rfl|(congr 2;first|done|omega|(rw [Bool.eq_iff_iff];simp only [bool_to_prop,Bool.false_eq_true,iff_true,true_iff,iff_false,false_iff];omega))|skip)
 ·exact⟨Nat.zero_le _,⟨by exact gC,⟨by exact gC,by exact gC⟩,⟨by exact gC,by rw [←hy1,←hy2];exact gC⟩,⟨by exact gC,by exact gC⟩⟩,⟨by exact gC,by exact gW hlm,by exact gC⟩,h0,rfl⟩
theorem scl_i1 (p:QTs):sclT ((1:Int):Rat) p=p:=by show sclT 1 p=_;exact Zke p
structure RoundOk (x:Int) (q:Qt) (l:List Qt) (K N:Nat) (y b:XX):Prop where
 h:EI x (q :: l) K N y
 hq:hasQ x q=true
 nf:q.norm=(q,1)
 b:LmOk x b
 k:K≤60000
 n:N≤900
section
variable {x:Int} {q:Qt} {l:List Qt} {K N:Nat} {y b:XX}
theorem RoundOk.l1 (h:RoundOk x q l K N y b):(elS q b y).1=rsX (rpN q y.1 b.1 b.2) b.2 (moQ q y.2 - moQ q y.1)∧(rsX (rpN q y.1 b.1 b.2) b.2 (moQ q y.2 - moQ q y.1)).length≤1728000:=by
 obtain⟨m1,m2⟩:=h.h.mo h.hq;refine⟨?_,Zwe h.h.l1 h.b.ln h.b.ld (by omega)⟩;exact(rs_pw (rs_xb (i:=0) h.h.x1 h.b.xn h.b.xd m1 (by omega)).1 h.b.xd.1 _).symm
theorem RoundOk.l2 (h:RoundOk x q l K N y b):(elS q b y).2=rsX (rpN q y.2 b.1 b.2) b.2 (moQ q y.1 - moQ q y.2)∧(rsX (rpN q y.2 b.1 b.2) b.2 (moQ q y.1 - moQ q y.2)).length≤1728000:=by
 obtain⟨m1,m2⟩:=h.h.mo h.hq;refine⟨?_,Zwe h.h.l2 h.b.ln h.b.ld (by omega)⟩;exact(rs_pw (rs_xb (i:=0) h.h.x2 h.b.xn h.b.xd m2 (by omega)).1 h.b.xd.1 _).symm
end
theorem elPart {x:Int} {q:Qt} {K N:Nat} {p:QTs} {b:XX} (z:Int) (hp:XB p K N) (lp:p.length≤4000) (hm:moQ q p≤2) (hz:(moQ q p:Int)+z≤2) (hz1:z≤2) (nf:q.norm=(q,1)) (hb:LmOk x b) (hK:K≤60000) (hN:N≤900) :
 Pure prog 52 [qpA p,q.av] (iv (moQ q p))∧Pure prog 54 [qpA p,q.av,.agg [qpA b.1,qpA b.2]] (.agg [qpA (rpN q p b.1 b.2),qpA (rpD q p b.2)])∧Pure prog 53 [qpA (rpN q p b.1 b.2),qpA b.2,iv z] (qpA (rsX (rpN q p b.1 b.2) b.2 z.toNat)):=by
 have hmq:maxQ=1000:=rfl;refine⟨elMost p q (n:=N) (by omega) hp.2.1 (by omega),?_,?_⟩
 ·have c:=Zyn p b.1 b.2 q (L:=12) (LA:=4000) (M:=2) hp hb.xn hb.xd lp (by decide) (by decide) (by rw [nf];exact hm) hb.ln hb.ld (by decide) (by omega) (by decide) (by omega);rw [nf] at c;simp only at c;rw [if_neg (by decide),scl_i1] at c;exact c
 ·refine elRaised _ _ z (by omega) λi hi=>?_;have hx:=rs_xb (i:=i) hp hb.xn hb.xd hm (by omega);have hl:=Zwe (i:=i) (q:=q) lp hb.ln hb.ld (by omega);have h12:=Nat.mul_le_mul hl hb.ld;exact Zyp _ _ hx hb.xd (by omega) (Nat.le_trans h12 (by decide)) (by omega) (by have:=hb.ld;omega) (by omega) (by omega)
theorem elRepl {x:Int} {q:Qt} {l:List Qt} {K N:Nat} {y b:XX} (h:RoundOk x q l K N y b):Pure prog 19 [.agg [qpA y.1,qpA y.2],q.av,.agg [qpA b.1,qpA b.2]] (if 4000 < (elS q b y).1.length∨4000 < (elS q b y).2.length then .tup [.agg [.v (.slice none 0 0),.v (.slice none 0 0)],iv 4] else .tup [.agg [qpA (elS q b y).1,qpA (elS q b y).2],iv 0]):=by
 obtain⟨m1,m2⟩:=h.h.mo h.hq;obtain⟨c1,c3,c5⟩:=elPart ((moQ q y.2:Int) - (moQ q y.1:Int)) h.h.x1 h.h.l1 m1 (by omega) (by omega) h.nf h.b h.k h.n;obtain⟨c2,c4,c6⟩:=elPart ((moQ q y.1:Int) - (moQ q y.2:Int)) h.h.x2 h.h.l2 m2 (by omega) (by omega) h.nf h.b h.k h.n;obtain⟨e1,l1⟩:=h.l1;obtain⟨e2,l2⟩:=h.l2;rw [show((moQ q y.2:Int) - (moQ q y.1:Int)).toNat=moQ q y.2 - moQ q y.1 by omega,←e1] at c5;rw [show((moQ q y.1:Int) - (moQ q y.2:Int)).toNat=moQ q y.1 - moQ q y.2 by omega,←e2] at c6;rw [←e1] at l1;rw [←e2] at l2;have k:=elReplV _ _ _ _ _ _ _ _ _ _ q.k q.a q.b q.c (moQ q y.1) (moQ q y.2) (by omega) (by omega) (by rw [List.length_map];omega) (by rw [List.length_map];omega) c1 c2 c3 c4 c5 c6
 rwa [List.length_map,List.length_map] at k
def lemQ (ss:List RS) (i:Nat) (hi:i < ss.length) (q:Qt):Int × XX:=if q.chk ss.length 64=0 then lmS ss i hi q else (q.chk ss.length 64,([],[]))
theorem Zx1 {ss:List RS} {i:Nat} {hi:i < ss.length} {q:Qt}:lmA q ss.length (lmS ss i hi q) nilA=if (lemQ ss i hi q).1=0 then .tup [.agg [qpA (lemQ ss i hi q).2.1,qpA (lemQ ss i hi q).2.2],iv 0] else .tup [.agg [nilA,nilA],iv (lemQ ss i hi q).1]:=by
 unfold lmA lemQ;by_cases h:q.chk ss.length 64=0
 ·rw [if_pos h,if_pos h]
 ·rw [if_neg h,if_neg h,if_neg h]
theorem chk_okQ {q:Qt} {n:Int} (h:q.chk n 64=0):q.ok=true:=by
 cases g:q.ok with
 | true=>rfl
 | false=>unfold Qt.chk at h;rw [if_neg (by rw [g];simp)] at h;cases h
theorem Zq3 {ss:List RS} {i:Nat} (hi:i < ss.length) (h8:ss.length≤8) (he:errS ss i=0) (hr:ss[i].r.lm 2) {q:Qt} (h0:(lemQ ss i hi q).1=0):LmOk i (lemQ ss i hi q).2:=by
 have hA:=st_a hi h8 he hr;unfold lemQ at h0 ⊢;by_cases h:q.chk ss.length 64=0
 ·rw [if_pos h] at h0 ⊢;exact lm_ok hA (chk_okQ h) (λhs hx=>Zxh h hs hx) h0
 ·rw [if_neg h] at h0;exact absurd h0 h
def Ahead (x:Int) (l:List Qt) (y:XX):Prop:=∃K N,EI x l K N y∧K+l.length*1472≤50000∧N+l.length*20≤900∧∀q∈l,hasQ x q=true∧q.norm=(q,1)
theorem Ahead.beg {x:Int} {K N:Nat} {n d:QTs} (h1:XB n K N) (h2:XB d K N) (l1:n.length≤4000) (l2:d.length≤4000) (c1:∀t∈n,t.2.length≤2) (c2:∀t∈d,t.2.length≤2) (hk:K+(flQ n++flQ d).length*1472≤50000) (hn:N+(flQ n++flQ d).length*20≤900):Ahead x (hvL x (flQ n++flQ d)) (n,d):=by
 have hl:=Zye x (flQ n++flQ d);have e1:(hvL x (flQ n++flQ d)).length*1472≤(flQ n++flQ d).length*1472:=Nat.mul_le_mul_right _ hl;have e2:(hvL x (flQ n++flQ d)).length*20≤(flQ n++flQ d).length*20:=Nat.mul_le_mul_right _ hl;refine⟨K,N,EI.beg h1 h2 l1 l2 c1 c2,by omega,by omega,λq hq=>?_⟩;obtain⟨hm,hx⟩:=Zqy.1 hq;refine⟨hx,?_⟩;rcases List.mem_append.1 hm with g | g
 ·obtain⟨t,ht,hqt⟩:=Zm2.1 g;exact(h1.1.1 t ht).2.2 q hqt
 ·obtain⟨t,ht,hqt⟩:=Zm2.1 g;exact(h2.1.1 t ht).2.2 q hqt
theorem Ahead.round {x:Int} {q:Qt} {l:List Qt} {y b:XX} (h:Ahead x (q :: l) y) (hb:LmOk x b):∃K N,RoundOk x q l K N y b:=by
 obtain⟨K,N,h1,h2,h3,h4⟩:=h;rw [List.length_cons] at h2 h3;exact⟨K,N,h1,(h4 q (.head _)).1,(h4 q (.head _)).2,hb,by omega,by omega⟩
theorem Ahead.step {x:Int} {q:Qt} {l:List Qt} {y b:XX} (h:Ahead x (q :: l) y) (hb:LmOk x b) (hn:¬(4000 < (elS q b y).1.length∨4000 < (elS q b y).2.length)):Ahead x l (elS q b y):=by
 obtain⟨K,N,h1,h2,h3,h4⟩:=h;rw [List.length_cons] at h2 h3;exact⟨K+1472,N+20,h1.step (h4 q (.head _)).1 hb (by omega) (by omega),by omega,by omega,λu hu=>h4 u (.tail _ hu)⟩
abbrev elZ (ss:List RS) (i:Nat) (hi:i < ss.length) (x:XX):Int × XX:=elF (lemQ ss i hi) (hvL i (flQ x.1++flQ x.2)) x
theorem elElim (ss:List RS) (gs:List RG) (i:Nat) (hi:i < ss.length) (h8:ss.length≤8) (he:errS ss i=0) (hr:ss[i].r.lm 2) (x:XX) (l1:x.1.length≤1000000) (l2:x.2.length≤1000000) (q1:∀t∈x.1,t.2.length≤1000000) (q2:∀t∈x.2,t.2.length≤1000000) (hf:(flQ x.1++flQ x.2).length≤1000000) (h0:Ahead i (hvL i (flQ x.1++flQ x.2)) x):Pure prog 8 [figA ss gs,iv i,.agg [qpA x.1,qpA x.2]] (elR (elT (elZ ss i hi x)) nilA):=by
 have hP:flP [x.1,x.2]=flQ x.1++flQ x.2:=by show flQ x.1++(flQ x.2++[])=_;rw [List.append_nil]
 have ch:=elHaving i [x.1,x.2] (by show 2≤1000000;decide) (λp hp=>by
  rcases List.mem_cons.1 hp with rfl | hp
  ·exact⟨l1,q1⟩
  ·rw [List.mem_singleton.1 hp];exact⟨l2,q2⟩) (by rw [hP];exact hf)
 rw [hP] at ch;have hn:=Zhw;rw [nx1,show qpA onX=.sl 4 [.agg [.v (.bool false),lim [1],lim [1],.sl 4 []]] from by show AV.sl 4 [qtA ((1:Rat),[])]=_;rw [Ziz];rfl] at hn;refine elElV (ss.map RS.av) (gs.map RG.av) i (by rw [List.length_map];exact hi) _ x (lemQ ss i hi) (Ahead i) (Nat.le_trans (Zye _ _) hf) ch hn h0 ?_ ?_
 ·rintro l y ⟨K,N,h1,-⟩
  have:=h1.l1;have:=h1.l2;exact⟨by omega,by omega⟩
 ·intro q r y hI;refine⟨?_,λhz=>?_⟩
  ·have c:=Znl ss gs i hi h8 he hr q.k q.a q.b q.c;have c:Pure prog 11 [figA ss gs,iv i,q.av] (lmA q ss.length (lmS ss i hi q) nilA):=c;rw [Zx1] at c;exact c
  ·have ok:=Zq3 hi h8 he hr hz;obtain⟨K,N,hR⟩:=hI.round ok;exact⟨elRepl hR,λhn=>hI.step ok hn⟩
theorem elZ_ok {ss:List RS} {i:Nat} (hi:i < ss.length) (h8:ss.length≤8) (he:errS ss i=0) (hr:ss[i].r.lm 2) {x:XX} (h0:Ahead i (hvL i (flQ x.1++flQ x.2)) x) {w:XX} (h:elT (elZ ss i hi x)=(0,w)):w.2≠[]∧alQ (noP i) w.1∧alQ (noP i) w.2∧XB w.1 50000 900∧XB w.2 50000 900∧w.1.length≤4000∧w.2.length≤4000:=by
 obtain⟨K,N,h1,h2,h3,h4⟩:=h0;refine el_free (K:=50000) (N:=900) h (λg=>?_) (by decide);have hz:elZ ss i hi x=(0,(elZ ss i hi x).2):=by rw [←g]
 have r:=el_run hz h1 λq hq=>⟨(h4 q hq).1,λh=>Zq3 hi h8 he hr h⟩;exact⟨r.x1.mono h2 h3,r.x2.mono h2 h3,r.l1,r.l2,r.c1,r.c2,r.a1,r.a2⟩
theorem ar2 {ar:List Int} {n:Nat} (hl:(ar.length:Int)=2) (h:∀k,k < ar.length→0≤gI ar k∧gI ar k < (n:Int)):∃a b:Nat,ar=[(a:Int),(b:Int)]∧a < n∧b < n:=by
 match ar,hl,h with
 | [x,y],_,h =>
   have h0:=h 0 (by simp);have h1:=h 1 (by simp);simp only [gI,List.getD_cons_zero,List.getD_cons_succ] at h0 h1;exact⟨x.toNat,y.toNat,by rw [Int.toNat_of_nonneg h0.1,Int.toNat_of_nonneg h1.1],by omega,by omega⟩
theorem ar3 {ar:List Int} {n:Nat} (hl:(ar.length:Int)=3) (h:∀k,k < ar.length→0≤gI ar k∧gI ar k < (n:Int)):∃a b c:Nat,ar=[(a:Int),(b:Int),(c:Int)]∧a < n∧b < n∧c < n:=by
 match ar,hl,h with
 | [x,y,z],_,h =>
   have h0:=h 0 (by simp);have h1:=h 1 (by simp);have h2:=h 2 (by simp);simp only [gI,List.getD_cons_zero,List.getD_cons_succ] at h0 h1 h2;exact⟨x.toNat,y.toNat,z.toNat,by rw [Int.toNat_of_nonneg h0.1,Int.toNat_of_nonneg h1.1,Int.toNat_of_nonneg h2.1],by omega,by omega,by omega⟩
def wOf (w:List Int) (s:RS):Int :=
 if s.k=2 then gI w (gI s.ar 0).toNat+gI w (gI s.ar 1).toNat
 else if s.k=3∨s.k=4 then gI w (gI s.ar 0).toNat+gI w (gI s.ar 1).toNat+gI w (gI s.ar 2).toNat
 else if s.k=5 then 2*gI w (gI s.ar 0).toNat+gI w (gI s.ar 1).toNat
 else 1
def wts (ss:List RS):Nat→List Int
 | 0=>[]
 | i+1=>wts ss i++[wOf (wts ss i) (ss.getD i RS.zero)]
theorem Zj6 (ss:List RS):∀i,(wts ss i).length=i
 | 0=>rfl
 | i+1=>by show(wts ss i++[_]).length=i+1;rw [List.length_append,Zj6 ss i];rfl
theorem gI_app (l:List Int) (x:Int) (n:Nat):gI (l++[x]) n=if n < l.length then gI l n else if n=l.length then x else 0:=by
 split
 ·rename_i h;rw [Zfk (by simp;omega),Zfk h,List.getElem_append_left h]
 ·split
  ·rename_i h1 h2;subst h2;rw [Zfk (by simp)];simp
  ·rw [Zew (by simp;omega)]
theorem Zlk (ss:List RS):∀i n,0≤gI (wts ss i) n∧gI (wts ss i) n≤((3 ^ i:Nat):Int)
 | 0,n=>by rw [Zew (Nat.zero_le _)];omega
 | i+1,n=>by
   show 0≤gI (wts ss i++[_]) n∧gI (wts ss i++[_]) n≤_;have hp:(3 ^ (i+1):Nat)=3*3 ^ i:=by rw [Nat.pow_succ,Nat.mul_comm]
   have hq:1≤3 ^ i:=Nat.one_le_pow _ _ (by omega);rw [gI_app,hp];have h0:=Zlk ss i n;have h1:=Zlk ss i (gI (ss.getD i RS.zero).ar 0).toNat;have h2:=Zlk ss i (gI (ss.getD i RS.zero).ar 1).toNat;have h3:=Zlk ss i (gI (ss.getD i RS.zero).ar 2).toNat;unfold wOf;generalize (3 ^ i:Nat)=z at *;split
   ·omega
   ·split
    ·split
     ·omega
     ·split
      ·omega
      ·split<;>omega
    ·omega
def Zvq (ss:List RS) (gs:List RG):Bool :=
 (wts ss ss.length).all (λw=>decide (w≤8)) && gs.all λg=>!(decide (g.k=6) || decide (g.k=7)) || g.ar.all λa=>decide (gI (wts ss ss.length) a.toNat≤3)
def rat2 (r:RQ):Bool:=decide (r.l.length≤2) && decide (r.d.length≤2)
def fewB (ss:List RS) (gs:List RG):Bool :=
 decide (ss.length≤8) && (decide (gs.length≤3) && (decide (figE ss gs=0) && (Zvq ss gs && (ss.all (λs=>rat2 s.r) && gs.all λg=>rat2 g.r))))
theorem few_34 {ss:List RS} {gs:List RG} (hs:∀s∈ss,s.sm) (h:fewB ss gs=true):ss.length≤8∧figE ss gs=0∧∀s∈ss,s.r.lm 2:=by
 unfold fewB at h;simp only [Bool.and_eq_true,decide_eq_true_eq,List.all_eq_true] at h;obtain⟨h1,h2,h3,h4,h5,h6⟩:=h;refine⟨h1,h3,λs hm=>?_⟩;have:=h5 s hm;unfold rat2 at this;simp only [Bool.and_eq_true,decide_eq_true_eq] at this;obtain⟨k1,k2,k3,k4⟩:=(hs s hm).1;exact⟨k1,k2,this.1,this.2⟩
def fitS (s:RS):Bool:=!(decide (2 < s.r.l.length) || decide (2 < s.r.d.length) || decide (8 < s.ar.length))
def fitsB (ss:List RS) (gs:List RG):Bool:=ss.all fitS && (decide (nfN ss ss.length≤12) && (decide (ss.length≤42) && decide (gs.length≤10)))
theorem Zpr {α:Type} {p:α→Bool} {l:List α} {i:Nat} (h:i < l.length) (hp:p l[i]=false):l.all p=false:=by
 rw [Bool.eq_false_iff];intro ha;rw [List.all_eq_true] at ha;rw [ha _ (List.getElem_mem h)] at hp;cases hp
theorem all_of {α:Type} {p:α→Bool} {l:List α} (h:∀j (hj:j < l.length),p l[j]=true):l.all p=true:=by
 rw [List.all_eq_true];intro x hx;obtain⟨j,hj,rfl⟩:=List.mem_iff_getElem.1 hx;exact h j hj
theorem wts_at {ss:List RS} {i a:Nat} (h:a < i):((wts ss i).map iv).getD a .u=iv (gI (wts ss i) a):=by
 rw [Zat iv (by rw [Zj6];exact h),Zfk (by rw [Zj6];exact h)]
theorem wts_succ {ss:List RS} {i:Nat} (hi:i < ss.length):(wts ss (i+1)).map iv=(wts ss i).map iv++[iv (wOf (wts ss i) ss[i])]:=by
 show(wts ss i++[_]).map iv=_;rw [List.map_append,show ss.getD i RS.zero=ss[i] from by rw [List.getD_eq_getElem?_getD,List.getElem?_eq_getElem hi];rfl];rfl
theorem Zwh (ss:List RS) (gs:List RG) (hl:ss.length≤8) (he:∀i,i < ss.length→errS ss i=0):Pure prog 106 [figA ss gs] (ivs (wts ss ss.length)):=by
 have hg:∀i (h:i < ss.length),(ss.map RS.av).getD i .u=ss[i].av:=λi h=>Zat RS.av h;have hls:(ss.map RS.av).length=ss.length:=List.length_map ..;have hok:∀i (h:i < ss.length),(ss[i].ar.length:Int)=arS ss[i].k∧∀k,k < ss[i].ar.length→0≤gI ss[i].ar k∧gI ss[i].ar k < (i:Int):=λi h=>⟨(Znk h (he i h)).2.1,(Znk h (he i h)).2.2.1⟩;have hws:∀i (h:i < ss.length),(wts ss (i+1)).map iv=(wts ss i).map iv++[iv (wOf (wts ss i) ss[i])]:=λi h=>wts_succ h;have hwl:∀i,((wts ss i).map iv).length=i:=λi=>by rw [List.length_map,Zj6]
 have hbd:∀i n,i≤8→0≤gI (wts ss i) n∧gI (wts ss i) n≤6561:=λi n h=>by
  have:=Zlk ss i n;have h3:(3 ^ i:Nat)≤3 ^ 8:=Nat.pow_le_pow_right (by omega) h;omega
 show Pure _ _ [.agg [.sl 6 (ss.map RS.av),.sl 5 (gs.map RG.av)]] (.sl 1 ((wts ss ss.length).map iv));generalize ss.map RS.av=M at *;generalize gs.map RG.av=N at *;refine Zaa (tok:=0) func106 rfl ntmps106 results106 call106 (by rfl) (by simp) ?_;(focus (refine wkad (w_1 hls) w_t w_t ?_;(repeat' first|exact w_t|apply w_l);all_goals intros));rename_i g1;refine Zgr (Frz.nilOwn (d:=3) 83 1 3 (by exact gC)) ?_;refine Zae (ι:=Nat) (λi e m=>i≤ss.length∧e 1=.pbox 1 g1 0∧m 1=some (.box g1 25 [.sl 6 M,.sl 5 N] false)∧e 4=iv i∧∃sv,e 3=.own 83 sv∧m 83=some (.row sv 3 1 ((wts ss i).map iv) 0)) (λi=>ss.length - i) 0 (by rfl) ?_ ?_
 ·rintro i e m ⟨hi,e1,m1,e4,sv,e3,m83⟩
  by_cases hlt:i < ss.length
  ·have hgi:=hg i hlt;obtain⟨ha,hr⟩:=hok i hlt;have hwi:=hwl i;have hn:=hws i hlt;have hx:=λa (h:a < i)=>wts_at (ss:=ss) h;have hb:=λn=>hbd i n (by omega);clear hg hok hws hwl hbd;generalize wts ss i=w at *;generalize ss[i]=s at *;obtain⟨k,nm,ar,⟨rs,rl,rd⟩⟩:=s;unfold wOf at hn;unfold arS at ha;simp only at *;generalize w.map iv=W at *;by_cases k2:k=2
   ·subst k2;obtain⟨a,b,rfl,h1,h2⟩:=ar2 (by simpa using ha) hr;have b1:=hb a;have b2:=hb b;have x1:=hx a h1;have x2:=hx b h2;simp only [if_pos,gI,List.getD_cons_zero,List.getD_cons_succ,Int.toNat_natCast] at hn x1 x2 b1 b2;generalize w.getD a 0=x at *;generalize w.getD b 0=y at *;clear hb hx hr ha;(focus (refine wkad (w_10 e1 m1 e4 e3 m83 hls hgi hwi x1 x2) w_t w_t ?_;(repeat' first|exact w_t|apply w_l);all_goals intros));exact⟨i+1,⟨by omega,by exact gW e1,by exact gW m1,by exact gS,_,by exact gC,by rw [hn];exact gC⟩,by omega⟩
   ·by_cases k34:k=3∨k=4
    ·obtain⟨a,b,c,rfl,h1,h2,h3⟩:=ar3 (by rcases k34 with rfl | rfl<;>simpa using ha) hr;have b1:=hb a;have b2:=hb b;have b3:=hb c;have x1:=hx a h1;have x2:=hx b h2;have x3:=hx c h3;rw [if_neg k2,if_pos k34] at hn;simp only [gI,List.getD_cons_zero,List.getD_cons_succ,Int.toNat_natCast] at hn x1 x2 x3 b1 b2 b3;generalize w.getD a 0=x at *;generalize w.getD b 0=y at *;generalize w.getD c 0=z at *;clear hb hx hr ha k2;rcases k34 with rfl | rfl
     all_goals
      (focus (refine wkad (w_11 e1 m1 e4 e3 m83 hls hgi hwi x1 x2 x3) w_t w_t ?_;(repeat' first|exact w_t|apply w_l);all_goals intros));exact⟨i+1,⟨by omega,by exact gW e1,by exact gW m1,by exact gS,_,by exact gC,by rw [hn];exact gC⟩,by omega⟩
    ·rw [if_neg k2,if_neg k34] at hn;by_cases k5:k=5
     ·subst k5;obtain⟨a,b,rfl,h1,h2⟩:=ar2 (by simpa using ha) hr;have b1:=hb a;have b2:=hb b;have x1:=hx a h1;have x2:=hx b h2;simp only [if_pos,gI,List.getD_cons_zero,List.getD_cons_succ,Int.toNat_natCast] at hn x1 x2 b1 b2;generalize w.getD a 0=x at *;generalize w.getD b 0=y at *;clear hb hx hr ha k2 k34;(focus (refine wkad (w_10 e1 m1 e4 e3 m83 hls hgi hwi x1 x2) w_t w_t ?_;(repeat' first|exact w_t|apply w_l);all_goals intros));exact⟨i+1,⟨by omega,by exact gW e1,by exact gW m1,by exact gS,_,by exact gC,by rw [hn];exact gC⟩,by omega⟩
     ·have k3:¬k=3:=λh=>k34 (.inl h);have k4:¬k=4:=λh=>k34 (.inr h);rw [if_neg k5] at hn;clear hb hx hr ha k34;(focus (refine wkad (w_8 e1 m1 e4 e3 m83 hls hgi hwi) w_t w_t ?_;(repeat' first|exact w_t|apply w_l);all_goals intros));exact⟨i+1,⟨by omega,by exact gW e1,by exact gW m1,by exact gS,_,by exact gC,by rw [hn];exact gC⟩,by omega⟩
  ·have hin:i=ss.length:=by omega
   subst hin;clear hws hg hok hbd;have hwi:=hwl ss.length;generalize (wts ss ss.length).map iv=W at *;(focus (refine wkld (w_7 e1 m1 e4 e3 m83 hls hwi) w_t (w_1 m83) w_t ?_;(repeat' first|exact w_t|apply w_l);all_goals intros))
 ·exact⟨Nat.zero_le _,by exact gC,by exact gC,by exact gC,_,by exact gC,by(simp (disch:=omega) only [go_sem,wts,List.map_nil]<;>repeat' first|rfl|refine⟨?_,?_⟩)⟩
def Zjo (w:List Int) (g:RG):Bool:=!(decide (g.k=6) || decide (g.k=7)) || g.ar.all λa=>decide (gI w a.toNat≤3)
theorem Ziv {α:Type} {p:α→Bool} {l:List α} (h:∀j (hj:j < l.length),p l[j]=true):l.all p=true:=all_of h
theorem rlThin (ss:List RS) (gs:List RG) (hl:ss.length≤8) (hlg:gs.length≤1000) (he:∀i,i < ss.length→errS ss i=0) (heg:∀g∈gs,g.ar.length≤100∧∀k,k < g.ar.length→0≤gI g.ar k∧gI g.ar k < (ss.length:Int)):Pure prog 48 [figA ss gs] (.v (.bool (Zvq ss gs))):=by
 have cw:Pure prog 106 [.agg [.sl 6 (ss.map RS.av),.sl 5 (gs.map RG.av)]] (.sl 1 ((wts ss ss.length).map iv)):=Zwh ss gs hl he;have hlen:=Zj6 ss ss.length;have hbd:∀n,0≤gI (wts ss ss.length) n∧gI (wts ss ss.length) n≤6561:=λn=>by
  have:=Zlk ss ss.length n;have h3:(3 ^ ss.length:Nat)≤3 ^ 8:=Nat.pow_le_pow_right (by omega) hl;omega
 have hg:∀i (h:i < gs.length),(gs.map RG.av).getD i .u=gs[i].av:=λi h=>Zat RG.av h;have hlm:(gs.map RG.av).length=gs.length:=List.length_map ..;show Pure _ _ [.agg [.sl 6 (ss.map RS.av),.sl 5 (gs.map RG.av)]] _;have hT:Zvq ss gs=((wts ss ss.length).all (λw=>decide (w≤8)) && gs.all (Zjo (wts ss ss.length))):=rfl;rw [hT];have hx:∀a,a < ss.length→((wts ss ss.length).map iv).getD a .u=iv (gI (wts ss ss.length) a):=λa h=>wts_at h;clear hT;generalize ss.map RS.av=M at *;generalize gs.map RG.av=N at *;generalize wts ss ss.length=w at *;generalize ss.length=n at *;have hwl:(w.map iv).length=n:=by rw [List.length_map,hlen]
 generalize hW:w.map iv=W at *;refine Zaa (tok:=0) func48 rfl ntmps48 results48 call48 (by rfl) (by simp) ?_;(focus (refine wkap w_t (w_1 cw) (w_r 0) ?_;(repeat' first|exact w_t|apply w_l);all_goals intros));rename_i g1;refine Zae (ι:=Nat) (λi e m=>i≤n∧e 1=.pbox 1 g1 0∧m 1=some (.box g1 25 [.sl 6 M,.sl 5 N] false)∧e 3=.sl 1 W∧e 4=iv i∧∀j,j < i→gI w j≤8) (λi=>n - i) 0 (by rfl) ?_ ?_
 ·rintro i e m ⟨hi,e1,m1,e3,e4,hj⟩
  by_cases hlt:i < n
  ·have x1:=hx i hlt;have b1:=hbd i;have hgw:gI w i=w[i]'(by omega):=Zfk (by omega);by_cases h8:8 < gI w i
   ·have:(w.all λw=>decide (w≤8))=false:=Zpr (i:=i) (by omega) (by rw [←hgw];simpa using h8);rw [this,Bool.false_and];generalize gI w i=x at *;(focus (refine wklp (w_6 e1 m1 e3 e4 hwl x1) w_t w_t (w_r 0) ?_;(repeat' first|exact w_t|apply w_l);all_goals intros))
   ·have hnx:∀j,j < i+1→gI w j≤8:=λj hjj=>by
     by_cases e:j=i
     ·rw [e];omega
     ·exact hj j (by omega)
    clear hj hgw;generalize gI w i=x at *;(focus (refine wkap (w_6 e1 m1 e3 e4 hwl x1) w_t (w_r 0) ?_;(repeat' first|exact w_t|apply w_l);all_goals intros));exact⟨i+1,⟨by omega,by exact gW e1,by exact gW m1,by exact gW e3,by exact gS,hnx⟩,by omega⟩
  ·have hin:n=i:=by omega
   subst hin;have:(w.all λw=>decide (w≤8))=true:=Ziv λj hjj=>by have:=hj j (by omega);rw [Zfk hjj] at this;simpa using this
   rw [this,Bool.true_and];clear hj;(focus (refine wkap (w_5 e1 m1 e3 e4 hwl) w_t (w_r 0) ?_;(repeat' first|exact w_t|apply w_l);all_goals intros));refine Zae (ι:=Nat) (λi e m=>i≤gs.length∧e 1=.pbox 1 g1 0∧m 1=some (.box g1 25 [.sl 6 M,.sl 5 N] false)∧e 3=.sl 1 W∧e 5=iv i∧∀j (hj:j < gs.length),j < i→Zjo w gs[j]=true) (λi=>gs.length - i) 0 (by rfl) ?_ ?_
   ·rintro i e m ⟨hi,e1,m1,e3,e5,hj⟩
    by_cases hlt:i < gs.length
    ·have hgi:=hg i hlt;obtain⟨ha,hr⟩:=heg _ (List.getElem_mem hlt);have hno:Zjo w gs[i]=false→gs.all (Zjo w)=false:=λh=>Zpr hlt h;have hnx:Zjo w gs[i]=true→∀j (hj:j < gs.length),j < i+1→Zjo w gs[j]=true:=λh j hjj h2=>by
      by_cases e:j=i
      ·subst e;exact h
      ·exact hj j hjj (by omega)
     clear hj hg heg;generalize gs.all (Zjo w)=v at *;generalize gs[i]=g at *;obtain⟨k,ar,⟨rs,rl,rd⟩⟩:=g;simp only at *;have hla:(ar.map iv).length=ar.length:=List.length_map ..;have hga:∀j (h:j < ar.length),(ar.map iv).getD j .u=iv ar[j]:=λj h=>Zat iv h;(focus (refine wkap (w_6 e1 m1 e3 e5 hlm hgi) w_t (w_r 0) ?_;(repeat' first|exact w_t|apply w_l);all_goals intros));rename_i g6;refine Zae (ι:=Nat) (λy e m=>y≤ar.length∧e 1=.pbox 1 g1 0∧m 1=some (.box g1 25 [.sl 6 M,.sl 5 N] false)∧e 3=.sl 1 W∧e 5=iv i∧e 6=.pbox 6 g6 0∧m 6=some (.box g6 93 [iv k,ivs ar,.v (.bool rs),lim rl,lim rd] false)∧e 7=iv y∧((k=6∨k=7)→∀j (hj:j < ar.length),j < y→gI w ar[j].toNat≤3)) (λy=>ar.length - y) 0 (by rfl) ?_ ?_
     ·rintro y e m ⟨hy,e1,m1,e3,e5,e6,m6,e7,hq⟩
      by_cases hly:y < ar.length
      ·have hgy:=hga y hly;have hry:=hr y hly;rw [Zfk hly] at hry;obtain⟨a,hae⟩:∃a:Nat,ar[y]=a:=⟨ar[y].toNat,by omega⟩;have han:a < n:=by omega
       have hxa:=hx a han;have hba:=hbd a;rw [hae] at hgy;by_cases hk:k=6∨k=7
       ·by_cases h3:3 < gI w a
        ·have:Zjo w ⟨k,ar,⟨rs,rl,rd⟩⟩=false:=by
          unfold Zjo;have h1:(decide (k=6) || decide (k=7))=true:=by simpa using hk
          have h2:(ar.all λa=>decide (gI w a.toNat≤3))=false:=Zpr hly (by rw [hae,Int.toNat_natCast];simpa using h3);simp only [h1,h2];rfl
         rw [hno this];clear hq hno hnx hga hr hx hbd this;generalize gI w a=x at *;rcases hk with rfl | rfl
         all_goals
          (focus (refine wklp (w_11 e1 m1 e3 e5 e6 m6 e7 hla hgy hwl hxa) w_t w_t (w_r 0) ?_;(repeat' first|exact w_t|apply w_l);all_goals intros))
        ·have hq2:∀j (hj:j < ar.length),j < y+1→gI w ar[j].toNat≤3:=λj hjj h2=>by
          by_cases e:j=y
          ·subst e;rw [hae,Int.toNat_natCast];omega
          ·exact hq hk j hjj (by omega)
         clear hq hno hnx hga hr hx hbd;generalize gI w a=x at *;rcases hk with rfl | rfl
         all_goals
          (focus (refine wkap (w_11 e1 m1 e3 e5 e6 m6 e7 hla hgy hwl hxa) w_t (w_r 0) ?_;(repeat' first|exact w_t|apply w_l);all_goals intros));exact⟨y+1,⟨by omega,by exact gW e1,by exact gW m1,by exact gW e3,by exact gW e5,by exact gW e6,by exact gW m6,by exact gS,λ_=>hq2⟩,by omega⟩
       ·have k6:¬k=6:=λh=>hk (.inl h);have k7:¬k=7:=λh=>hk (.inr h);clear hq hno hnx hga hr hx hbd;(focus (refine wkap (w_8 e1 m1 e3 e5 e6 m6 e7 hla) w_t (w_r 0) ?_;(repeat' first|exact w_t|apply w_l);all_goals intros));exact⟨y+1,⟨by omega,by exact gW e1,by exact gW m1,by exact gW e3,by exact gW e5,by exact gW e6,by exact gW m6,by exact gS,λh=>absurd h hk⟩,by omega⟩
      ·have:Zjo w ⟨k,ar,⟨rs,rl,rd⟩⟩=true:=by
        unfold Zjo;by_cases hk:k=6∨k=7
        ·have h2:(ar.all λa=>decide (gI w a.toNat≤3))=true:=Ziv λj hjj=>by have:=hq hk j hjj (by omega);simpa using this
         simp only [h2,Bool.or_true]
        ·have h1:(decide (k=6) || decide (k=7))=false:=by simpa using hk
         simp only [h1];rfl
       have:=hnx this;clear hq hno hnx hga hr hx hbd;(focus (refine wkap (w_8 e1 m1 e3 e5 e6 m6 e7 hla) w_t (w_r 0) ?_;(repeat' first|exact w_t|apply w_l);all_goals intros));exact⟨i+1,⟨by omega,by exact gW e1,by exact gW m1,by exact gW e3,by exact gS,this⟩,by omega⟩
     ·exact⟨Nat.zero_le _,by exact gW e1,by exact gW m1,by exact gW e3,by exact gW e5,by exact gC,by exact gC,by exact gC,λ_ j _ h=>by omega⟩
    ·have:gs.all (Zjo w)=true:=Ziv λj hjj=>hj j hjj (by omega);rw [this];clear hj hg heg hx hbd;(focus (refine wklp (w_5 e1 m1 e3 e5 hlm) w_t w_t (w_r 0) ?_;(repeat' first|exact w_t|apply w_l);all_goals intros))
   ·exact⟨Nat.zero_le _,by exact gW e1,by exact gW m1,by exact gW e3,by exact gC,λj _ h=>by omega⟩
 ·exact⟨Nat.zero_le _,by exact gC,by exact gC,by exact gC,by exact gC,λj h=>by omega⟩
theorem arG_le (k:Int):arG k≤8:=by
 unfold arG
 repeat' split
 all_goals omega
theorem Zut {ss:List RS} {gs:List RG} (h:figE ss gs=0):∀g∈gs,g.ar.length≤100∧∀k,k < g.ar.length→0≤gI g.ar k∧gI g.ar k < (ss.length:Int):=λg hg=>by
 unfold figE at h;split at h
 ·omega
 ·split at h
  ·rename_i h2;exact absurd h h2
  ·obtain⟨j,hj,rfl⟩:=List.mem_iff_getElem.1 hg;have h1:=Znf h j hj;rw [show gs.getD j ⟨0,[],⟨false,[],[]⟩⟩=gs[j] from by rw [List.getD_eq_getElem?_getD,List.getElem?_eq_getElem hj];rfl] at h1;have hle:=arG_le gs[j].k;generalize gs[j]=g at *;unfold errG at h1;split at h1
   ·omega
   ·split at h1
    ·omega
    ·split at h1
     ·omega
     ·rename_i h2 h3 h4;exact⟨by omega,λk hk=>Zw1 (by simpa using h4) hk⟩
theorem Zl2 {ss:List RS} {gs:List RG} (h:figE ss gs=0):∀i,i < ss.length→errS ss i=0:=by
 unfold figE at h;split at h
 ·omega
 ·split at h
  ·rename_i h2;exact absurd h h2
  ·rename_i h2;exact Znf (Decidable.byContradiction λh3=>h2 h3)
theorem rlFew (ss:List RS) (gs:List RG) (cR:Pure prog 47 [figA ss gs] (iv (figE ss gs))):Pure prog 15 [figA ss gs] (.v (.bool (fewB ss gs))):=by
 have cR:Pure prog 47 [.agg [.sl 6 (ss.map RS.av),.sl 5 (gs.map RG.av)]] (iv (figE ss gs)):=cR;have hls:(ss.map RS.av).length=ss.length:=List.length_map ..;have hlg:(gs.map RG.av).length=gs.length:=List.length_map ..;have hgS:∀i (h:i < ss.length),(ss.map RS.av).getD i .u=ss[i].av:=λi h=>Zat RS.av h;have hgG:∀i (h:i < gs.length),(gs.map RG.av).getD i .u=gs[i].av:=λi h=>Zat RG.av h;have cT:ss.length≤8→gs.length≤3→figE ss gs=0→Pure prog 48 [.agg [.sl 6 (ss.map RS.av),.sl 5 (gs.map RG.av)]] (.v (.bool (Zvq ss gs))):=λa b h=>rlThin ss gs a (by omega) (Zl2 h) (Zut h)
 show Pure _ _ [.agg [.sl 6 (ss.map RS.av),.sl 5 (gs.map RG.av)]] _;unfold fewB;have noS:∀i (h:i < ss.length),rat2 ss[i].r=false→(ss.all λs=>rat2 s.r)=false:=λi h e=>Zpr h e;have noG:∀i (h:i < gs.length),rat2 gs[i].r=false→(gs.all λs=>rat2 s.r)=false:=λi h e=>Zpr h e;have yeS:(∀i (h:i < ss.length),rat2 ss[i].r=true)→(ss.all λs=>rat2 s.r)=true:=λe=>Ziv e;have yeG:(∀i (h:i < gs.length),rat2 gs[i].r=true)→(gs.all λs=>rat2 s.r)=true:=λe=>Ziv e;generalize (ss.all λs=>rat2 s.r)=vS at *;generalize (gs.all λs=>rat2 s.r)=vG at *;generalize Zvq ss gs=vT at *;generalize figE ss gs=z at *
 generalize ss.map RS.av=M at *;generalize gs.map RG.av=N at *;by_cases h8:ss.length≤8
 ·by_cases h3:gs.length≤3
  ·rw [decide_eq_true h8,decide_eq_true h3,Bool.true_and,Bool.true_and];by_cases hz:z=0
   ·subst hz;have cT:=cT h8 h3 rfl;rw [decide_eq_true rfl,Bool.true_and]
    cases vT with
    | false =>
      rw [Bool.false_and];refine Zaa (tok:=0) func15 rfl ntmps15 results15 call15 (by rfl) (by simp) ?_;(focus (refine wklp (w_2 hls hlg) (w_2 cR cT) w_t (w_r 0) ?_;(repeat' first|exact w_t|apply w_l);all_goals intros))
    | true =>
      rw [Bool.true_and];refine Zaa (tok:=0) func15 rfl ntmps15 results15 call15 (by rfl) (by simp) ?_;(focus (refine wkap (w_2 hls hlg) (w_2 cR cT) (w_r 0) ?_;(repeat' first|exact w_t|apply w_l);all_goals intros));rename_i g1;clear cR cT;refine Zae (ι:=Nat) (λi e m=>i≤ss.length∧e 1=.pbox 1 g1 0∧m 1=some (.box g1 25 [.sl 6 M,.sl 5 N] false)∧e 3=iv i∧∀j (h:j < ss.length),j < i→rat2 ss[j].r=true) (λi=>ss.length - i) 0 (by rfl) ?_ ?_
      ·rintro i e m ⟨hi,e1,m1,e3,hj⟩
       by_cases hlt:i < ss.length
       ·have hg:=hgS i hlt;have no:=noS i hlt;have nx:rat2 ss[i].r=true→∀j (h:j < ss.length),j < i+1→rat2 ss[j].r=true:=λh j hjj h2=>by
         by_cases e:j=i
         ·subst e;exact h
         ·exact hj j hjj (by omega)
        clear hj noS yeS hgS hgG noG yeG;unfold rat2 at no nx;generalize ss[i]=s at *;obtain⟨k,nm,ar,⟨rs,rl,rd⟩⟩:=s;simp only at *;by_cases a1:rl.length≤2∧rd.length≤2
        ·have:=nx (by simp [a1.1,a1.2]);obtain⟨a1,a2⟩:=a1;clear nx no;(focus (refine wkap (w_6 e1 m1 e3 hls hg @Zbd) w_t (w_r 0) ?_;(repeat' first|exact w_t|apply w_l);all_goals intros));exact⟨i+1,⟨by omega,by exact gW e1,by exact gW m1,by exact gS,this⟩,by omega⟩
        ·rw [no (by simp only [Bool.and_eq_false_iff,decide_eq_false_iff_not];omega),Bool.false_and];clear nx no;(focus (refine wkap (w_6 e1 m1 e3 hls hg @Zbd) w_t (w_r 0) ?_;(repeat' first|exact w_t|apply w_l);all_goals intros));all_goals first|((all_goals (try simp (disch:=omega) only [go_sem,decide_eq_true,decide_eq_false,if_pos,if_neg,Int.reduceAdd,Int.reduceSub,Int.reduceToNat,Int.zero_add]));(all_goals first|done|rfl|(congr 2;first|done|omega|(rw [Bool.eq_iff_iff];simp only [bool_to_prop,Bool.false_eq_true,iff_true,true_iff,iff_false,false_iff];omega))|skip))|omega
       ·rw [yeS λj h=>hj j h (by omega),Bool.true_and];clear hj noS yeS hgS;(focus (refine wkap (w_4 e1 m1 e3 hls) w_t (w_r 0) ?_;(repeat' first|exact w_t|apply w_l);all_goals intros));refine Zae (ι:=Nat) (λi e m=>i≤gs.length∧e 1=.pbox 1 g1 0∧m 1=some (.box g1 25 [.sl 6 M,.sl 5 N] false)∧e 4=iv i∧∀j (h:j < gs.length),j < i→rat2 gs[j].r=true) (λi=>gs.length - i) 0 (by rfl) ?_ ?_
        ·rintro i e m ⟨hi,e1,m1,e4,hj⟩
         by_cases hlt:i < gs.length
         ·have hg:=hgG i hlt;have no:=noG i hlt;have nx:rat2 gs[i].r=true→∀j (h:j < gs.length),j < i+1→rat2 gs[j].r=true:=λh j hjj h2=>by
           by_cases e:j=i
           ·subst e;exact h
           ·exact hj j hjj (by omega)
          clear hj hgG noG yeG;unfold rat2 at no nx;generalize gs[i]=s at *;obtain⟨k,ar,⟨rs,rl,rd⟩⟩:=s;simp only at *;by_cases a1:rl.length≤2∧rd.length≤2
          ·have:=nx (by simp [a1.1,a1.2]);obtain⟨a1,a2⟩:=a1;clear nx no;(focus (refine wkap (w_6 e1 m1 e4 hlg hg @Zbd) w_t (w_r 0) ?_;(repeat' first|exact w_t|apply w_l);all_goals intros));exact⟨i+1,⟨by omega,by exact gW e1,by exact gW m1,by exact gS,this⟩,by omega⟩
          ·rw [no (by simp only [Bool.and_eq_false_iff,decide_eq_false_iff_not];omega)];clear nx no;(focus (refine wkap (w_6 e1 m1 e4 hlg hg @Zbd) w_t (w_r 0) ?_;(repeat' first|exact w_t|apply w_l);all_goals intros));all_goals first|((all_goals (try simp (disch:=omega) only [go_sem,decide_eq_true,decide_eq_false,if_pos,if_neg,Int.reduceAdd,Int.reduceSub,Int.reduceToNat,Int.zero_add]));(all_goals first|done|rfl|(congr 2;first|done|omega|(rw [Bool.eq_iff_iff];simp only [bool_to_prop,Bool.false_eq_true,iff_true,true_iff,iff_false,false_iff];omega))|skip))|omega
         ·rw [yeG λj h=>hj j h (by omega)];clear hj hgG noG yeG;(focus (refine wklp (w_4 e1 m1 e4 hlg) w_t w_t (w_r 0) ?_;(repeat' first|exact w_t|apply w_l);all_goals intros))
        ·exact⟨Nat.zero_le _,by exact gW e1,by exact gW m1,by exact gC,λj h h2=>by omega⟩
      ·exact⟨Nat.zero_le _,by exact gC,by exact gC,by exact gC,λj h h2=>by omega⟩
   ·rw [decide_eq_false hz,Bool.false_and];clear cT;refine Zaa (tok:=0) func15 rfl ntmps15 results15 call15 (by rfl) (by simp) ?_;(focus (refine wklp (w_3 hls hlg hz) (w_1 cR) w_t (w_r 0) ?_;(repeat' first|exact w_t|apply w_l);all_goals intros))
  ·rw [decide_eq_true h8,decide_eq_false h3,Bool.true_and,Bool.false_and];clear cT;refine Zaa (tok:=0) func15 rfl ntmps15 results15 call15 (by rfl) (by simp) ?_;(focus (refine wklp (w_2 hls hlg) (w_1 cR) w_t (w_r 0) ?_;(repeat' first|exact w_t|apply w_l);all_goals intros))
 ·rw [decide_eq_false h8,Bool.false_and];clear cT;refine Zaa (tok:=0) func15 rfl ntmps15 results15 call15 (by rfl) (by simp) ?_;(focus (refine wklp (w_2 hls hlg) (w_1 cR) w_t (w_r 0) ?_;(repeat' first|exact w_t|apply w_l);all_goals intros))
abbrev midS:List RS:=[⟨1,⟨#[65]⟩,[],⟨false,[],[]⟩⟩,⟨1,⟨#[66]⟩,[],⟨false,[],[]⟩⟩,⟨1,⟨#[67]⟩,[],⟨false,[],[]⟩⟩,⟨2,⟨#[77]⟩,[1,2],⟨false,[1],[2]⟩⟩]
def midL:Nat→List AV
 | 0=>[.agg [iv 1,strA .empty,.v (.slice none 0 0),.v (.bool false),.v (.slice none 0 0),.v (.slice none 0 0)],.agg [iv 1,strA .empty,.v (.slice none 0 0),.v (.bool false),.v (.slice none 0 0),.v (.slice none 0 0)],.agg [iv 1,strA .empty,.v (.slice none 0 0),.v (.bool false),.v (.slice none 0 0),.v (.slice none 0 0)],.agg [iv 2,strA .empty,.sl 1 [iv 1,iv 2],.v (.bool false),lim [1],lim [2]]]
 | 1=>[.agg [iv 1,strA ⟨#[65]⟩,.v (.slice none 0 0),.v (.bool false),.v (.slice none 0 0),.v (.slice none 0 0)],.agg [iv 1,strA .empty,.v (.slice none 0 0),.v (.bool false),.v (.slice none 0 0),.v (.slice none 0 0)],.agg [iv 1,strA .empty,.v (.slice none 0 0),.v (.bool false),.v (.slice none 0 0),.v (.slice none 0 0)],.agg [iv 2,strA .empty,.sl 1 [iv 1,iv 2],.v (.bool false),lim [1],lim [2]]]
 | 2=>[.agg [iv 1,strA ⟨#[65]⟩,.v (.slice none 0 0),.v (.bool false),.v (.slice none 0 0),.v (.slice none 0 0)],.agg [iv 1,strA ⟨#[66]⟩,.v (.slice none 0 0),.v (.bool false),.v (.slice none 0 0),.v (.slice none 0 0)],.agg [iv 1,strA .empty,.v (.slice none 0 0),.v (.bool false),.v (.slice none 0 0),.v (.slice none 0 0)],.agg [iv 2,strA .empty,.sl 1 [iv 1,iv 2],.v (.bool false),lim [1],lim [2]]]
 | 3=>[.agg [iv 1,strA ⟨#[65]⟩,.v (.slice none 0 0),.v (.bool false),.v (.slice none 0 0),.v (.slice none 0 0)],.agg [iv 1,strA ⟨#[66]⟩,.v (.slice none 0 0),.v (.bool false),.v (.slice none 0 0),.v (.slice none 0 0)],.agg [iv 1,strA ⟨#[67]⟩,.v (.slice none 0 0),.v (.bool false),.v (.slice none 0 0),.v (.slice none 0 0)],.agg [iv 2,strA .empty,.sl 1 [iv 1,iv 2],.v (.bool false),lim [1],lim [2]]]
 | _=>[.agg [iv 1,strA ⟨#[65]⟩,.v (.slice none 0 0),.v (.bool false),.v (.slice none 0 0),.v (.slice none 0 0)],.agg [iv 1,strA ⟨#[66]⟩,.v (.slice none 0 0),.v (.bool false),.v (.slice none 0 0),.v (.slice none 0 0)],.agg [iv 1,strA ⟨#[67]⟩,.v (.slice none 0 0),.v (.bool false),.v (.slice none 0 0),.v (.slice none 0 0)],.agg [iv 2,strA ⟨#[77]⟩,.sl 1 [iv 1,iv 2],.v (.bool false),lim [1],lim [2]]]
theorem lwMid:Pure prog 16 [] (figA midS []):=by
 have cF:Pure prog 49 [iv 1,iv 2] (.agg [.v (.bool false),lim [1],lim [2]]):=by
  have h:=rfHalf
  rwa [show ratQ (1/2)=.agg [.v (.bool false),lim [1],lim [2]] from by
   show AV.agg [.v (.bool (decide ((1/2:Rat).num < 0))),lim (toL (1/2:Rat).num.natAbs),lim (toL (1/2:Rat).den)]=_;rw [show(1/2:Rat).num=1 from by decide +kernel,show(1/2:Rat).den=2 from by decide +kernel,show toL 2=[2] from by decide +kernel,show toL (Int.natAbs 1)=[1] from by decide +kernel];rfl] at h
 refine Zjv (r:=.agg [.sl 6 [.agg [iv 1,strA ⟨#[65]⟩,.v (.slice none 0 0),.v (.bool false),.v (.slice none 0 0),.v (.slice none 0 0)],.agg [iv 1,strA ⟨#[66]⟩,.v (.slice none 0 0),.v (.bool false),.v (.slice none 0 0),.v (.slice none 0 0)],.agg [iv 1,strA ⟨#[67]⟩,.v (.slice none 0 0),.v (.bool false),.v (.slice none 0 0),.v (.slice none 0 0)],.agg [iv 2,strA ⟨#[77]⟩,.sl 1 [iv 1,iv 2],.v (.bool false),lim [1],lim [2]]],.v (.slice none 0 0)]) ?_ (Vk.aggL (.cons (Vk.slL rfl (by decide) (by decide) ?_) (.cons (.nil 5) .nil)))
 ·refine Zaa (tok:=0) func16 rfl ntmps16 results16 call16 (by rfl) (by simp) ?_;(focus (refine wkad w_t (w_1 cF) (w_1 (w_d 2 [(3,.sl 1 [iv 1,iv 2]),(4,.agg [.v (.bool false),lim [1],lim [2]])] [] [2])) ?_;(repeat' first|exact w_t|apply w_l);all_goals intros));rename_i g0 g1 s11 g2;refine Zae (ι:=Nat) (λi e m=>i≤4∧(e 2=.pbox 2 g2 0∧m 2=some (.box g2 25 [.own 11 s11,.v (.slice none 0 0)] false))∧(e 0=.pbox 0 g0 0∧m 0=some (.box g0 25 [.v (.slice none 0 0),.v (.slice none 0 0)] false))∧e 3=iv i∧m 11=some (.row s11 76 6 (midL i) 0)) (λi=>4 - i) 0 (by rfl) ?_ ?_
  ·rintro i e m ⟨hi,⟨e2,m2⟩,⟨e0,m0'⟩,e3,m11⟩
   have h5:i=0∨i=1∨i=2∨i=3∨i=4:=by omega
   rcases h5 with rfl | rfl | rfl | rfl | rfl
   ·rw [show midL 0=[.agg [iv 1,strA .empty,.v (.slice none 0 0),.v (.bool false),.v (.slice none 0 0),.v (.slice none 0 0)],.agg [iv 1,strA .empty,.v (.slice none 0 0),.v (.bool false),.v (.slice none 0 0),.v (.slice none 0 0)],.agg [iv 1,strA .empty,.v (.slice none 0 0),.v (.bool false),.v (.slice none 0 0),.v (.slice none 0 0)],.agg [iv 2,strA .empty,.sl 1 [iv 1,iv 2],.v (.bool false),lim [1],lim [2]]] from rfl] at m11;(focus (refine wkad (w_4 e2 m2 e3 m11) w_t (w_1 (w_d 6 [(5,.sl 1 [.v (.int .u8 65)])] [9] [])) ?_;(repeat' first|exact w_t|apply w_l);all_goals intros));exact⟨1,⟨by omega,⟨by exact gW e2,by exact gW m2⟩,⟨by exact gW e0,by exact gW m0'⟩,by exact gC,by rw [show midL 1=[.agg [iv 1,strA ⟨#[65]⟩,.v (.slice none 0 0),.v (.bool false),.v (.slice none 0 0),.v (.slice none 0 0)],.agg [iv 1,strA .empty,.v (.slice none 0 0),.v (.bool false),.v (.slice none 0 0),.v (.slice none 0 0)],.agg [iv 1,strA .empty,.v (.slice none 0 0),.v (.bool false),.v (.slice none 0 0),.v (.slice none 0 0)],.agg [iv 2,strA .empty,.sl 1 [iv 1,iv 2],.v (.bool false),lim [1],lim [2]]] from rfl];exact gW m11⟩,by omega⟩
   ·rw [show midL 1=[.agg [iv 1,strA ⟨#[65]⟩,.v (.slice none 0 0),.v (.bool false),.v (.slice none 0 0),.v (.slice none 0 0)],.agg [iv 1,strA .empty,.v (.slice none 0 0),.v (.bool false),.v (.slice none 0 0),.v (.slice none 0 0)],.agg [iv 1,strA .empty,.v (.slice none 0 0),.v (.bool false),.v (.slice none 0 0),.v (.slice none 0 0)],.agg [iv 2,strA .empty,.sl 1 [iv 1,iv 2],.v (.bool false),lim [1],lim [2]]] from rfl] at m11;(focus (refine wkad (w_4 e2 m2 e3 m11) w_t (w_1 (w_d 6 [(5,.sl 1 [.v (.int .u8 66)])] [9] [])) ?_;(repeat' first|exact w_t|apply w_l);all_goals intros));exact⟨2,⟨by omega,⟨by exact gW e2,by exact gW m2⟩,⟨by exact gW e0,by exact gW m0'⟩,by exact gC,by rw [show midL 2=[.agg [iv 1,strA ⟨#[65]⟩,.v (.slice none 0 0),.v (.bool false),.v (.slice none 0 0),.v (.slice none 0 0)],.agg [iv 1,strA ⟨#[66]⟩,.v (.slice none 0 0),.v (.bool false),.v (.slice none 0 0),.v (.slice none 0 0)],.agg [iv 1,strA .empty,.v (.slice none 0 0),.v (.bool false),.v (.slice none 0 0),.v (.slice none 0 0)],.agg [iv 2,strA .empty,.sl 1 [iv 1,iv 2],.v (.bool false),lim [1],lim [2]]] from rfl];exact gW m11⟩,by omega⟩
   ·rw [show midL 2=[.agg [iv 1,strA ⟨#[65]⟩,.v (.slice none 0 0),.v (.bool false),.v (.slice none 0 0),.v (.slice none 0 0)],.agg [iv 1,strA ⟨#[66]⟩,.v (.slice none 0 0),.v (.bool false),.v (.slice none 0 0),.v (.slice none 0 0)],.agg [iv 1,strA .empty,.v (.slice none 0 0),.v (.bool false),.v (.slice none 0 0),.v (.slice none 0 0)],.agg [iv 2,strA .empty,.sl 1 [iv 1,iv 2],.v (.bool false),lim [1],lim [2]]] from rfl] at m11;(focus (refine wkad (w_4 e2 m2 e3 m11) w_t (w_1 (w_d 6 [(5,.sl 1 [.v (.int .u8 67)])] [9] [])) ?_;(repeat' first|exact w_t|apply w_l);all_goals intros));exact⟨3,⟨by omega,⟨by exact gW e2,by exact gW m2⟩,⟨by exact gW e0,by exact gW m0'⟩,by exact gC,by rw [show midL 3=[.agg [iv 1,strA ⟨#[65]⟩,.v (.slice none 0 0),.v (.bool false),.v (.slice none 0 0),.v (.slice none 0 0)],.agg [iv 1,strA ⟨#[66]⟩,.v (.slice none 0 0),.v (.bool false),.v (.slice none 0 0),.v (.slice none 0 0)],.agg [iv 1,strA ⟨#[67]⟩,.v (.slice none 0 0),.v (.bool false),.v (.slice none 0 0),.v (.slice none 0 0)],.agg [iv 2,strA .empty,.sl 1 [iv 1,iv 2],.v (.bool false),lim [1],lim [2]]] from rfl];exact gW m11⟩,by omega⟩
   ·rw [show midL 3=[.agg [iv 1,strA ⟨#[65]⟩,.v (.slice none 0 0),.v (.bool false),.v (.slice none 0 0),.v (.slice none 0 0)],.agg [iv 1,strA ⟨#[66]⟩,.v (.slice none 0 0),.v (.bool false),.v (.slice none 0 0),.v (.slice none 0 0)],.agg [iv 1,strA ⟨#[67]⟩,.v (.slice none 0 0),.v (.bool false),.v (.slice none 0 0),.v (.slice none 0 0)],.agg [iv 2,strA .empty,.sl 1 [iv 1,iv 2],.v (.bool false),lim [1],lim [2]]] from rfl] at m11;(focus (refine wkad (w_4 e2 m2 e3 m11) w_t (w_1 (w_d 6 [(5,.sl 1 [.v (.int .u8 77)])] [9] [])) ?_;(repeat' first|exact w_t|apply w_l);all_goals intros));exact⟨4,⟨by omega,⟨by exact gW e2,by exact gW m2⟩,⟨by exact gW e0,by exact gW m0'⟩,by exact gC,by rw [show midL 4=[.agg [iv 1,strA ⟨#[65]⟩,.v (.slice none 0 0),.v (.bool false),.v (.slice none 0 0),.v (.slice none 0 0)],.agg [iv 1,strA ⟨#[66]⟩,.v (.slice none 0 0),.v (.bool false),.v (.slice none 0 0),.v (.slice none 0 0)],.agg [iv 1,strA ⟨#[67]⟩,.v (.slice none 0 0),.v (.bool false),.v (.slice none 0 0),.v (.slice none 0 0)],.agg [iv 2,strA ⟨#[77]⟩,.sl 1 [iv 1,iv 2],.v (.bool false),lim [1],lim [2]]] from rfl];exact gW m11⟩,by omega⟩
   ·rw [show midL 4=[.agg [iv 1,strA ⟨#[65]⟩,.v (.slice none 0 0),.v (.bool false),.v (.slice none 0 0),.v (.slice none 0 0)],.agg [iv 1,strA ⟨#[66]⟩,.v (.slice none 0 0),.v (.bool false),.v (.slice none 0 0),.v (.slice none 0 0)],.agg [iv 1,strA ⟨#[67]⟩,.v (.slice none 0 0),.v (.bool false),.v (.slice none 0 0),.v (.slice none 0 0)],.agg [iv 2,strA ⟨#[77]⟩,.sl 1 [iv 1,iv 2],.v (.bool false),lim [1],lim [2]]] from rfl] at m11;(focus (refine wkad (w_6 e2 m2 e0 m0' e3 m11) w_t w_t ?_;(repeat' first|exact w_t|apply w_l);all_goals intros));all_goals (all_goals (try simp (disch:=omega) only [go_sem,e0,m0',m11,decide_eq_true,decide_eq_false,if_pos,if_neg,Int.reduceAdd,Int.reduceSub,Int.reduceToNat,Int.zero_add]));(all_goals first|done|rfl|(congr 2;first|done|omega|(rw [Bool.eq_iff_iff];simp only [bool_to_prop,Bool.false_eq_true,iff_true,true_iff,iff_false,false_iff];omega))|skip)
  ·exact⟨by omega,⟨by exact gC,by exact gC⟩,⟨by exact gC,by exact gC⟩,by exact gC,by rw [show midL 0=[.agg [iv 1,strA .empty,.v (.slice none 0 0),.v (.bool false),.v (.slice none 0 0),.v (.slice none 0 0)],.agg [iv 1,strA .empty,.v (.slice none 0 0),.v (.bool false),.v (.slice none 0 0),.v (.slice none 0 0)],.agg [iv 1,strA .empty,.v (.slice none 0 0),.v (.bool false),.v (.slice none 0 0),.v (.slice none 0 0)],.agg [iv 2,strA .empty,.sl 1 [iv 1,iv 2],.v (.bool false),lim [1],lim [2]]] from rfl];exact gC⟩
 ·exact(.cons (.refl _) (.cons (.refl _) (.cons (.nil 1) (.cons (.refl _) (.cons (.nil 1) (.cons (.nil 1) (.cons (.refl _) (.cons (.refl _) (.cons (.nil 1) (.cons (.refl _) (.cons (.nil 1) (.cons (.nil 1) (.cons (.refl _) (.cons (.refl _) (.cons (.nil 1) (.cons (.refl _) (.cons (.nil 1) (.cons (.nil 1) (.cons (.refl _) (.cons (.refl _) (.cons (.refl _) (.cons (.refl _) (.cons (.refl _) (.cons (.refl _) .nil))))))))))))))))))))))))
section
variable {N n:Nat} {cs:List AV}
theorem agInt:Zg5 prog 3=false:=by kernel_rfl
theorem csInt:prog.cellsOf 3=1:=by kernel_rfl
theorem shIvs (h:Zb5 prog N n 69 cs):∃l:List Int,cs=[ivs l]∧l.length≤N:=by
 obtain⟨bs,rfl,hl,_⟩:=Zcs (g:=λk:Int=>[iv k]) (Q:=λ_=>True) underlying69 h λm x hx=>by
  obtain⟨i,rfl,_⟩:=Zb7 underlying3 hx;exact⟨i,rfl,trivial⟩
 refine⟨bs,?_,hl⟩;rw [csInt];have:(bs.map λb:Int=>Zcv prog 3 [iv b])=bs.map iv:=List.map_congr_left λb _=>Zj7 agInt _;rw [this]
theorem shStep (h:Zb5 prog N n 76 cs):∃s:RS,cs=[iv s.k,strA s.nm,ivs s.ar,.v (.bool s.r.s),lim s.r.l,lim s.r.d]∧s.r.lm N∧s.nm.size≤N∧s.ar.length≤N:=by
 obtain⟨m,rfl,hs⟩:=Zb0 underlying76 (by kernel_rfl) h;obtain⟨x,y,rfl,h1,hs⟩:=hs.inv;obtain⟨x2,y,rfl,h2,hs⟩:=hs.inv;obtain⟨x3,y,rfl,h3,hs⟩:=hs.inv;obtain⟨x4,y,rfl,h4,hs⟩:=hs.inv;obtain rfl:=hs.inv0;obtain⟨k,rfl,_⟩:=Zb7 underlying3 h1;obtain⟨nm,rfl,hn⟩:=Zn7 underlying9 h2;obtain⟨ar,rfl,ha⟩:=shIvs h3;obtain⟨r,rfl,hr⟩:=shRat h4;exact⟨⟨k,nm,ar,r⟩,rfl,hr,hn,ha⟩
theorem shFact (h:Zb5 prog N n 93 cs):∃g:RG,cs=[iv g.k,ivs g.ar,.v (.bool g.r.s),lim g.r.l,lim g.r.d]∧g.r.lm N∧g.ar.length≤N:=by
 obtain⟨m,rfl,hs⟩:=Zb0 underlying93 (by kernel_rfl) h;obtain⟨x,y,rfl,h1,hs⟩:=hs.inv;obtain⟨x3,y,rfl,h3,hs⟩:=hs.inv;obtain⟨x4,y,rfl,h4,hs⟩:=hs.inv;obtain rfl:=hs.inv0;obtain⟨k,rfl,_⟩:=Zb7 underlying3 h1;obtain⟨ar,rfl,ha⟩:=shIvs h3;obtain⟨r,rfl,hr⟩:=shRat h4;exact⟨⟨k,ar,r⟩,rfl,hr,ha⟩
theorem shSteps (h:Zb5 prog N n 22 cs):∃l:List RS,cs=[.sl 6 (l.map RS.av)]∧l.length≤N∧∀s∈l,s.r.lm N∧s.nm.size≤N∧s.ar.length≤N:=by
 obtain⟨bs,rfl,hl,hq⟩:=Zcs (g:=λs:RS=>[iv s.k,strA s.nm,ivs s.ar,.v (.bool s.r.s),lim s.r.l,lim s.r.d]) (Q:=λs=>s.r.lm N∧s.nm.size≤N∧s.ar.length≤N) underlying22 h λm x hx=>shStep hx;refine⟨bs,?_,hl,hq⟩;rw [show prog.cellsOf 76=6 from by kernel_rfl];have:(bs.map λs:RS=>Zcv prog 76 [iv s.k,strA s.nm,ivs s.ar,.v (.bool s.r.s),lim s.r.l,lim s.r.d])=bs.map RS.av:=List.map_congr_left λb _=>Zeo underlying76 _;rw [this]
theorem shFacts (h:Zb5 prog N n 23 cs):∃l:List RG,cs=[.sl 5 (l.map RG.av)]∧l.length≤N∧∀s∈l,s.r.lm N∧s.ar.length≤N:=by
 obtain⟨bs,rfl,hl,hq⟩:=Zcs (g:=λs:RG=>[iv s.k,ivs s.ar,.v (.bool s.r.s),lim s.r.l,lim s.r.d]) (Q:=λs=>s.r.lm N∧s.ar.length≤N) underlying23 h λm x hx=>shFact hx;refine⟨bs,?_,hl,hq⟩;rw [show prog.cellsOf 93=5 from by kernel_rfl];have:(bs.map λs:RG=>Zcv prog 93 [iv s.k,ivs s.ar,.v (.bool s.r.s),lim s.r.l,lim s.r.d])=bs.map RG.av:=List.map_congr_left λb _=>Zeo underlying93 _;rw [this]
theorem shFigure (h:Zb5 prog N n 25 cs):∃(ss:List RS) (gs:List RG),Zcv prog 25 cs=figA ss gs∧ss.length≤N∧gs.length≤N∧(∀s∈ss,s.r.lm N∧s.nm.size≤N∧s.ar.length≤N)∧∀s∈gs,s.r.lm N∧s.ar.length≤N:=by
 obtain⟨m,rfl,hs⟩:=Zb0 underlying25 (by kernel_rfl) h;obtain⟨x,y,rfl,h1,hs⟩:=hs.inv;obtain⟨x3,y,rfl,h3,hs⟩:=hs.inv;obtain rfl:=hs.inv0;obtain⟨ss,rfl,hl,hq⟩:=shSteps h1;obtain⟨gs,rfl,kl,kq⟩:=shFacts h3;exact⟨ss,gs,Zeo underlying25 _,hl,kl,hq,kq⟩
end
theorem Zm4 {r:RQ} {a b:Nat} (h:r.lm a) (hab:a≤b):r.lm b:=⟨h.1,h.2.1,Nat.le_trans h.2.2.1 hab,Nat.le_trans h.2.2.2 hab⟩
attribute [local go_sem] underlying45 szSlStr zSlStr
theorem mid_e:∀i,i < midS.length→errS midS i=0:=by decide +kernel
theorem mid_r:∀s∈midS,s.r.lm 2:=by
 intro s hs;have h:∀s∈midS,(∀x∈s.r.l,x < 65536)∧(∀x∈s.r.d,x < 65536)∧s.r.l.length≤2∧s.r.d.length≤2:=by decide
 obtain⟨h1,h2,h3,h4⟩:=h s hs;exact⟨h1,h2,h3,h4⟩
theorem mid_L (q:Qt) (r:Int × XX) (h:lmX 2 [1,2] (1/2) 0 3 q=r):lmS midS 3 (by decide) q=r:=by
 rw [←h];show lmX 2 [1,2] (RQ.q ⟨false,[1],[2]⟩) _ 3 q=_;rw [show RQ.q ⟨false,[1],[2]⟩=(1/2:Rat) from by decide +kernel];rfl
theorem awL1:Pure prog 11 [figA midS [],iv 3,.agg [iv 1,iv 3,iv 0,iv 1]] (.tup [.agg [qpA [((1/2:Rat),[(⟨1,0,1,2⟩:Qt)])],qpA onX],iv 0]):=by
 have c:=Znl midS [] 3 (by decide) (by decide) (mid_e 3 (by decide)) (mid_r _ (List.getElem_mem _)) 1 3 0 1;rw [mid_L _ _ mid1] at c;exact c
theorem awL2:Pure prog 11 [figA midS [],iv 3,.agg [iv 2,iv 3,iv 0,iv 3]] (.tup [.agg [qpA [((1/2:Rat),pM 0 1),((1/2:Rat),pM 0 2),((-1/4:Rat),pM 1 2)],qpA onX],iv 0]):=by
 have c:=Znl midS [] 3 (by decide) (by decide) (mid_e 3 (by decide)) (mid_r _ (List.getElem_mem _)) 2 3 0 3;rw [mid_L _ _ mid2] at c;exact c
theorem awT1:Pure prog 17 [qpA [((1/2:Rat),[(⟨1,0,1,2⟩:Qt)])],.sl 1 [strA ⟨#[65]⟩,strA ⟨#[66]⟩,strA ⟨#[67]⟩,strA ⟨#[77]⟩]] (.tup [strA ⟨#[49,47,50,42,83,40,65,44,32,66,44,32,67,41]⟩,iv 0]):=by
 have c:=exText [((1/2:Rat),[(⟨1,0,1,2⟩:Qt)])] [⟨#[65]⟩,⟨#[66]⟩,⟨#[67]⟩,⟨#[77]⟩] (by decide) (by decide) (by decide) (k:=1) (by omega) (λt ht=>by
  rw [List.mem_singleton.1 ht];exact⟨by decide,by decide +kernel,by decide +kernel⟩)
 rw [if_pos (by decide +kernel),show eTxt [⟨#[65]⟩,⟨#[66]⟩,⟨#[67]⟩,⟨#[77]⟩] [((1/2:Rat),[(⟨1,0,1,2⟩:Qt)])]=⟨#[49,47,50,42,83,40,65,44,32,66,44,32,67,41]⟩from by decide +kernel] at c;exact c
theorem awT2:Pure prog 17 [qpA [((1/2:Rat),pM 0 1),((1/2:Rat),pM 0 2),((-1/4:Rat),pM 1 2)],.sl 1 [strA ⟨#[65]⟩,strA ⟨#[66]⟩,strA ⟨#[67]⟩,strA ⟨#[77]⟩]] (.tup [strA ⟨#[49,47,50,42,80,40,65,44,32,66,44,32,65,41,32,43,32,49,47,50,42,80,40,65,44,32,67,44,32,65,41,32,45,32,49,47,52,42,80,40,66,44,32,67,44,32,66,41]⟩,iv 0]):=by
 have c:=exText [((1/2:Rat),pM 0 1),((1/2:Rat),pM 0 2),((-1/4:Rat),pM 1 2)] [⟨#[65]⟩,⟨#[66]⟩,⟨#[67]⟩,⟨#[77]⟩] (by decide) (by decide) (by decide) (k:=1) (by omega) (λt ht=>by
  rcases List.mem_cons.1 ht with rfl | ht
  ·exact⟨by decide,by decide +kernel,by decide +kernel⟩
  rcases List.mem_cons.1 ht with rfl | ht
  ·exact⟨by decide,by decide +kernel,by decide +kernel⟩
  rw [List.mem_singleton.1 ht];exact⟨by decide,by decide +kernel,by decide +kernel⟩)
 rw [if_pos (by decide +kernel),show eTxt [⟨#[65]⟩,⟨#[66]⟩,⟨#[67]⟩,⟨#[77]⟩] [((1/2:Rat),pM 0 1),((1/2:Rat),pM 0 2),((-1/4:Rat),pM 1 2)]=⟨#[49,47,50,42,80,40,65,44,32,66,44,32,65,41,32,43,32,49,47,50,42,80,40,65,44,32,67,44,32,65,41,32,45,32,49,47,52,42,80,40,66,44,32,67,44,32,66,41]⟩from by decide +kernel] at c;exact c
theorem awake34V (M A1 A2 D1:List AV) (cm:Pure prog 16 [] (.agg [.sl 6 M,.sl 5 []])) (c1:Pure prog 11 [.agg [.sl 6 M,.sl 5 []],iv 3,.agg [iv 1,iv 3,iv 0,iv 1]] (.tup [.agg [.sl 4 A1,.sl 4 D1],iv 0]))
 (c2:Pure prog 11 [.agg [.sl 6 M,.sl 5 []],iv 3,.agg [iv 2,iv 3,iv 0,iv 3]] (.tup [.agg [.sl 4 A2,.sl 4 [.agg [.v (.bool false),lim [1],lim [1],.sl 4 []]]],iv 0]))
 (t1:Pure prog 17 [.sl 4 A1,.sl 1 [strA ⟨#[65]⟩,strA ⟨#[66]⟩,strA ⟨#[67]⟩,strA ⟨#[77]⟩]] (.tup [strA ⟨#[49,47,50,42,83,40,65,44,32,66,44,32,67,41]⟩,iv 0])) (t2:Pure prog 17 [.sl 4 A2,.sl 1 [strA ⟨#[65]⟩,strA ⟨#[66]⟩,strA ⟨#[67]⟩,strA ⟨#[77]⟩]] (.tup [strA ⟨#[49,47,50,42,80,40,65,44,32,66,44,32,65,41,32,43,32,49,47,50,42,80,40,65,44,32,67,44,32,65,41,32,45,32,49,47,52,42,80,40,66,44,32,67,44,32,66,41]⟩,iv 0])) :
 Pure prog 7 [] (.v (.bool true)):=by
 refine Zaa (tok:=0) func7 rfl ntmps7 results7 call7 (by rfl) (by simp) ?_;(focus (refine wkax w_t (w_3 cm c1 c2) w_t w_t (w_2 t1 t2) w_t w_y (w_r 0) ?_;(repeat' first|exact w_t|apply w_l);all_goals intros));all_goals exact gL
theorem awake34:Pure prog 7 [] (.v (.bool true)):=by
 have h2:=awL2;rw [show qpA onX=.sl 4 [.agg [.v (.bool false),lim [1],lim [1],.sl 4 []]] from by show AV.sl 4 [qtA ((1:Rat),[])]=_;rw [Ziz];rfl] at h2;exact awake34V _ _ _ _ lwMid awL1 h2 awT1 awT2
end Go.Proofs.YtpkcophcldjboaaGreatDoor
