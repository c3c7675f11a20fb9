/- Contracts of the functions that the law reaches, and the rules by which they are walked. They say what a call hands back for every input within the bounds that each names; no other condition. -/
import Derived.Test.YtimmnimikmnljaaGreatBd10
set_option linter.unusedSimpArgs false
set_option linter.unusedVariables false
set_option maxRecDepth 20000
set_option maxHeartbeats 16000000
namespace Go.Proofs.YtimmnimikmnljaaGreat
open Go Go.RowKit Go.Pg Go.Pol
attribute [-bool_to_prop] Bool.and_eq_decide Bool.or_eq_decide Bool.decide_beq_decide decide_eq_decide
attribute [local go_sem] Tryz.underlying3 Tryz.underlying4 Tryz.underlying44 Tryz.underlying42 Tryz.underlying40 Tryz.underlying48 Tryz.underlying22 Tryz.underlying46 Tryz.underlying23 Tryz.underlying24 sz3 by3 z3 Zcd zRat Zcf zInt Zce zNat Zbq Zbt Zcs Zbs Zbv Zcu Zbr Zbu Zct
theorem Zev {q:Rat}:(q.num.sign=0)=(q=0):=by rw [Int.sign_eq_zero_iff_zero,Rat.num_eq_zero]
theorem poLex (s t:Tm) (hs:Sm s.2) (ht:Sm t.2):Pure Tryz.prog 44 [tmA s,tmA t] (iv (lexC s.2 t.2 (max s.2.length t.2.length))):=by
 have c:Pure Tryz.prog 51 [ivs s.2,ivs t.2,iv 0] (iv (cmpI s.2 t.2 0)):=Zqk s.2 t.2 0 hs ht;have e:cmpI s.2 t.2 0=lexC s.2 t.2 (max s.2.length t.2.length):=by unfold cmpI;rw [if_neg (by omega)]
 rw [e] at c;obtain⟨q,a⟩:=s;obtain⟨r,b⟩:=t;simp only at *;generalize lexC a b (max a.length b.length)=x at *;refine Zaa (tok:=0) Tryz.func44 rfl Tryz.ntmps44 Tryz.results44 Tryz.call44 (by rfl) (by simp) ?_;(focus (refine wklp w_t (w_1 c) w_t (w_r 0) ?_;(repeat' first|exact w_t|apply w_l);all_goals intros))
theorem poAdded (s t:Tm) {j k:Nat} (hs:Sz s.1 j) (ht:Sz t.1 k) (hj:j≤1000000) (hk:k≤1000000):Pure Tryz.prog 46 [tmA s,tmA t] (.tup [tmA (s.1+t.1,s.2),.v (.bool (!decide ((s.1+t.1).num.sign=0)))]):=by
 have c:=Zsq s.1 t.1 hs ht (by omega) (by omega);have cs:=Zf3 (s.1+t.1) (hs.add ht) (by omega);obtain⟨q,a⟩:=s;obtain⟨r,b⟩:=t;simp only at *;generalize q+r=x at *;refine Zaa (tok:=0) Tryz.func46 rfl Tryz.ntmps46 Tryz.results46 Tryz.call46 (by rfl) (by simp) ?_
 (repeat' (first|(with_reducible first|refine stp ?_|apply gx1|apply gx2|apply gx3|apply gx4|apply gx5|apply gx6|apply gx7|apply gy8|apply gz2|apply gz3|refine gw0 (c) ?_ ?_|refine gw3 (c) ?_ ?_ ?_|refine gw0 (cs) ?_ ?_|refine gw3 (cs) ?_ ?_ ?_)|(with_reducible refine Zbf ?_;intro _)|((with_reducible refine gE ?_);(try simp (disch:=omega) only [go_sem])<;>first|rfl|omega)|with_reducible refine Zaf (by decide) ?_|((with_reducible apply gy1);iterate 3 focus rfl)|((with_reducible apply gy2);iterate 3 focus rfl)|((with_reducible apply gy3);iterate 2 focus rfl)|((with_reducible apply gy4);iterate 1 focus rfl)|((with_reducible apply gy5);iterate 4 focus rfl)|((with_reducible apply gy5c);iterate 4 focus rfl)|((with_reducible apply gy6);iterate 4 focus rfl)|((with_reducible apply Zc0);iterate 3 focus rfl)|((with_reducible apply Zcz);iterate 1 focus rfl)|((with_reducible apply gy7);iterate 1 focus rfl)|((with_reducible apply gy9);(focus ((with_reducible refine gE ?_);(try simp (disch:=omega) only [go_sem])<;>rfl)))|((with_reducible apply gz1);(focus first|rfl|(simp (disch:=omega) only [go_sem];done)))|((with_reducible apply Za2 (Zcg [(5,.v (.int .i64 x.num.sign))]) [] [4]);(focus kernel_rfl);(focus rfl);(focus kernel_rfl);(focus (simp only [List.length_cons,List.length_nil,Nat.reduceAdd];rfl)))))
 (all_goals (try simp (disch:=omega) only [go_sem,decide_eq_true,decide_eq_false,if_pos,if_neg,Int.reduceAdd,Int.reduceSub,Int.reduceToNat,Int.zero_add]));(all_goals first|done|rfl|(congr 2;first|done|omega|(rw [Bool.eq_iff_iff];simp only [bool_to_prop,Bool.false_eq_true,iff_true,true_iff,iff_false,false_iff];omega))|skip)
theorem Zn7 {p q:Po} {i k:Nat} (hi:i < p.length) (hk:k < q.length):addM (p.drop i) (q.drop k) =
 if ltM q[k].2 p[i].2 then p[i] :: addM (p.drop (i+1)) (q.drop k) else if ltM p[i].2 q[k].2 then q[k] :: addM (p.drop i) (q.drop (k+1))
 else if p[i].1+q[k].1=0 then addM (p.drop (i+1)) (q.drop (k+1)) else (p[i].1+q[k].1,p[i].2) :: addM (p.drop (i+1)) (q.drop (k+1)):=by
 rw [List.drop_eq_getElem_cons hi,List.drop_eq_getElem_cons hk];rw [show addM (p[i] :: p.drop (i+1)) (q[k] :: q.drop (k+1))=_ from by unfold addM;rw [addP]]
theorem Ziz {p q:Po} {i k:Nat} (h:p.length≤i∨q.length≤k):addM (p.drop i) (q.drop k)=p.drop i++q.drop k:=by
 rcases h with h | h
 ·rw [List.drop_eq_nil_of_le h];simp [addM,addP]
 ·rw [List.drop_eq_nil_of_le h,List.append_nil];exact addP_nil _
theorem poMerge (p q:Po) {j k e:Nat} (hp:PK p j e) (hq:PK q k e) (sp:SrtM p) (sq:SrtM q) (lp:p.length≤1000000) (lq:q.length≤1000000) (hj:j≤1000000) (hk:k≤1000000) (he:e≤16777216) :
 Pure Tryz.prog 45 [poA p,poA q,.fn 44 [],.fn 46 []] (poA (addM p q)):=by
 refine Zaa (tok:=0) Tryz.func45 rfl Tryz.ntmps45 Tryz.results45 Tryz.call45 (by rfl) (by simp) ?_;(focus (refine wkad (w_1 @Za4) w_t w_t ?_;(repeat' first|exact w_t|apply w_l);all_goals intros));rename_i sv0;refine Zag (ι:=Nat × Nat) (λx e m=>x.1≤p.length∧x.2≤q.length∧e 0=poA p∧e 1=poA q∧e 2=.fn 44 []∧e 3=.fn 46 []∧e 10=iv x.1∧e 11=iv x.2∧∃sv out,e 9=.own 20 sv∧m 20=some (.row sv 48 4 (out.map tmA) 0)∧out.length≤x.1+x.2∧addM p q=out++addM (p.drop x.1) (q.drop x.2)) (λx=>p.length+q.length - (x.1+x.2)) (0,0) (by rfl) ?_ ?_
 ·rintro ⟨i,l⟩ e m ⟨hi,hl,e0,e1,e2,e3,e10,e11,sv,out,e9,em,ho,hs⟩
  simp only at hi hl e10 e11 ho hs;by_cases hil:i < p.length∧l < q.length
  ·obtain⟨hi2,hl2⟩:=hil;have hg:=Zbb tmA hi2;have hh:=Zbb tmA hl2;have st:=Zn7 hi2 hl2;have ms:=hp _ (List.getElem_mem hi2);have mt:=hq _ (List.getElem_mem hl2);have m1:=hp.sm he (List.getElem_mem hi2);have m2:=hq.sm he (List.getElem_mem hl2);have d1:=sp.dom _ (List.getElem_mem hi2);have d2:=sq.dom _ (List.getElem_mem hl2);generalize p[i]=s at *;generalize q[l]=t at *;have cl:=poLex s t m1 m2;have ca:=poAdded s t ms.1 mt.1 hj hk;have hlen:(out.map tmA).length=out.length:=List.length_map ..;rw [st] at hs;rcases Zh6 d1 d2 with⟨h1,h2⟩ | ⟨h1,h1',h2,h3⟩ | ⟨h1,h1',h2⟩
   ·have h3:¬ltM t.2 s.2:=λh=>ordM.irr _ (ordM.tr _ _ _ h h1);rw [if_neg h3,if_pos h1] at hs;rw [h2] at cl;clear st ms mt m1 m2 d1 d2 ca;(focus (refine wkad (w_11 e0 e1 e2 e3 e9 e10 e11 em hg hh @Za4) (w_1 cl) (w_1 (w_d 4 [(9,iv (-1))] [] [])) ?_;(repeat' first|exact w_t|apply w_l);all_goals intros));refine⟨(i,l+1),⟨by simp only;omega,by simp only;omega,by exact gW e0,by exact gW e1,by exact gW e2,by exact gW e3,by exact gW e10,by exact gS,_,out++[t],by exact gC,by(simp (disch:=omega) only [go_sem,List.map_append]<;>repeat' first|rfl|refine⟨?_,?_⟩),by simp only [List.length_append,List.length_cons,List.length_nil];omega,by rw [hs,List.append_assoc];rfl⟩,by simp only;omega⟩
   ·rw [if_neg h1',if_neg h1] at hs;rw [h3] at cl;by_cases hz:s.1+t.1=0
    ·rw [if_pos hz] at hs;rw [decide_eq_true (show(s.1+t.1).num.sign=0 by rw [Zev];exact hz)] at ca;clear st ms mt m1 m2 d1 d2;generalize (s.1+t.1)=z at *;(focus (refine wkad (w_12 e0 e1 e2 e3 e9 e10 e11 em hg hh @Za4 @Bool.not_true) (w_2 cl ca) (w_2 (w_d 4 [(9,iv 0)] [] []) (w_d 5 [(9,.tup [tmA (z,s.2),.v (.bool false)])] [] [13])) ?_;(repeat' first|exact w_t|apply w_l);all_goals intros));refine⟨(i+1,l+1),⟨by simp only;omega,by simp only;omega,by exact gW e0,by exact gW e1,by exact gW e2,by exact gW e3,by exact gS,by exact gS,_,out,by exact gW e9,by exact gW em,by simp only;omega,hs⟩,by simp only;omega⟩
    ·rw [if_neg hz] at hs;rw [decide_eq_false (show ¬(s.1+t.1).num.sign=0 by rw [Zev];exact hz)] at ca;clear st ms mt m1 m2 d1 d2;generalize (s.1+t.1)=z at *;(focus (refine wkad (w_12 e0 e1 e2 e3 e9 e10 e11 em hg hh @Za4 @Bool.not_false) (w_2 cl ca) (w_2 (w_d 4 [(9,iv 0)] [] []) (w_d 5 [(9,.tup [tmA (z,s.2),.v (.bool true)])] [] [13])) ?_;(repeat' first|exact w_t|apply w_l);all_goals intros));refine⟨(i+1,l+1),⟨by simp only;omega,by simp only;omega,by exact gW e0,by exact gW e1,by exact gW e2,by exact gW e3,by exact gS,by exact gS,_,out++[(z,s.2)],by exact gC,by(simp (disch:=omega) only [go_sem,List.map_append]<;>repeat' first|rfl|refine⟨?_,?_⟩),by simp only [List.length_append,List.length_cons,List.length_nil];omega,by rw [hs,List.append_assoc];rfl⟩,by simp only;omega⟩
   ·rw [if_pos h1] at hs;rw [h2] at cl;clear st ms mt m1 m2 d1 d2 ca;(focus (refine wkad (w_11 e0 e1 e2 e3 e9 e10 e11 em hg hh @Za4) (w_1 cl) (w_1 (w_d 4 [(9,iv 1)] [] [])) ?_;(repeat' first|exact w_t|apply w_l);all_goals intros));refine⟨(i+1,l),⟨by simp only;omega,by simp only;omega,by exact gW e0,by exact gW e1,by exact gW e2,by exact gW e3,by exact gS,by exact gW e11,_,out++[s],by exact gC,by(simp (disch:=omega) only [go_sem,List.map_append]<;>repeat' first|rfl|refine⟨?_,?_⟩),by simp only [List.length_append,List.length_cons,List.length_nil];omega,by rw [hs,List.append_assoc];rfl⟩,by simp only;omega⟩
  ·rw [Ziz (by omega)] at hs;rw [hs];clear hs;have tp:(p.map tmA).take p.length=p.map tmA:=by rw [←List.length_map (f:=tmA),List.take_length]
   have tq:(q.map tmA).take q.length=q.map tmA:=by rw [←List.length_map (f:=tmA),List.take_length]
   by_cases hi2:i < p.length
   ·have hl2:l=q.length:=by omega
    subst hl2;(focus (refine wkad (w_15 e0 e1 e2 e3 e9 e10 e11 em @Za4 @l_drop @l_app @l_take @Nat.min_self tp tq) w_t w_t ?_;(repeat' first|exact w_t|apply w_l);all_goals intros))
    (all_goals (try simp (disch:=omega) only [go_sem,List.append_assoc,tp,tq,decide_eq_true,decide_eq_false,if_pos,if_neg,Int.reduceAdd,Int.reduceSub,Int.reduceToNat,Int.zero_add]));(all_goals first|done|rfl|(congr 2;first|done|omega|(rw [Bool.eq_iff_iff];simp only [bool_to_prop,Bool.false_eq_true,iff_true,true_iff,iff_false,false_iff];omega))|skip)
    all_goals exact congrArg (AV.sl 4) (by simp only [List.map_append,List.map_drop])
   ·(focus (refine wkad (w_15 e0 e1 e2 e3 e9 e10 e11 em @Za4 @l_drop @l_app @l_take @Nat.min_self tp tq) w_t w_t ?_;(repeat' first|exact w_t|apply w_l);all_goals intros))
    (all_goals (try simp (disch:=omega) only [go_sem,List.append_assoc,tp,tq,decide_eq_true,decide_eq_false,if_pos,if_neg,Int.reduceAdd,Int.reduceSub,Int.reduceToNat,Int.zero_add]));(all_goals first|done|rfl|(congr 2;first|done|omega|(rw [Bool.eq_iff_iff];simp only [bool_to_prop,Bool.false_eq_true,iff_true,true_iff,iff_false,false_iff];omega))|skip)
    all_goals exact congrArg (AV.sl 4) (by simp only [List.map_append,List.map_drop])
 ·exact⟨Nat.zero_le _,Nat.zero_le _,by exact gC,by exact gC,by exact gC,by exact gC,by exact gC,by exact gC,_,[],by exact gC,by(simp (disch:=omega) only [go_sem,List.map_nil,List.replicate_zero]<;>repeat' first|rfl|refine⟨?_,?_⟩),by simp,by simp⟩
theorem poAdd (p q:Po) {j k e:Nat} (hp:PK p j e) (hq:PK q k e) (sp:SrtM p) (sq:SrtM q) (lp:p.length≤1000000) (lq:q.length≤1000000) (hj:j≤1000000) (hk:k≤1000000) (he:e≤16777216) :
 Pure Tryz.prog 16 [poA p,poA q] (poA (addM p q)):=by
 have c:=poMerge p q hp hq sp sq lp lq hj hk he;generalize addM p q=r at *;refine Zaa (tok:=0) Tryz.func16 rfl Tryz.ntmps16 Tryz.results16 Tryz.call16 (by rfl) (by simp) ?_;(focus (refine wklp w_t (w_1 c) w_t (w_r 0) ?_;(repeat' first|exact w_t|apply w_l);all_goals intros))
theorem Zlo {p:Po} {t:Tm} {i:Nat} (hi:i < p.length):Zao mulM (p.take (i+1)) t=Zao mulM (p.take i) t++[(p[i].1*t.1,mulM p[i].2 t.2)]:=by
 unfold Zao;rw [List.take_succ_eq_append_getElem hi,List.map_append];rfl
theorem Zfb (p:Po) (t:Tm):(Zao mulM p t).length=p.length:=by unfold Zao;simp
theorem poTimes (p:Po) (t:Tm) {j k e f:Nat} (hp:PK p j e) (ht:PK [t] k f) (sp:SrtM p) (h0:t.1≠0) (hd:Can t.2) (lp:p.length≤1000000) (hj:j≤1000000) (hk:k≤1000000) (he:e≤16777216) (hf:f≤16777216) :
 Pure Tryz.prog 47 [poA p,.agg [.v (.bool (decide (t.1.num < 0))),lim (toL t.1.num.natAbs),lim (toL t.1.den),ivs t.2]] (poA (Zao mulM p t)):=by
 refine Zaa (tok:=0) Tryz.func47 rfl Tryz.ntmps47 Tryz.results47 Tryz.call47 (by rfl) (by simp) ?_;(focus (refine wkad (w_1 @Za4) w_t w_t ?_;(repeat' first|exact w_t|apply w_l);all_goals intros));rename_i g3 sv0;refine Zag (ι:=Nat) (λi e m=>i≤p.length∧e 3=.pbox 3 g3 0∧m 3=some (.box g3 48 [.v (.bool (decide (t.1.num < 0))),lim (toL t.1.num.natAbs),lim (toL t.1.den),ivs t.2] false)∧e 12=poA p∧e 13=iv p.length∧e 14=iv i∧∃sv,e 5=.own 11 sv∧m 11=some (.row sv 48 4 ((Zao mulM (p.take i) t).map tmA) 0)) (λi=>p.length - i) 0 (by rfl) ?_ ?_
 ·rintro i e m ⟨hi,e3,m3,e12,e13,e14,sv,e5,m11⟩
  by_cases hlt:i < p.length
  ·have hg:=Zbb tmA hlt;have hs:=Zlo (t:=t) hlt;have ms:=hp _ (List.getElem_mem hlt);have m1:=hp.sm he (List.getElem_mem hlt);have m2:=ht.sm hf (.head _);have d1:=sp.dom _ (List.getElem_mem hlt);have n1:=(sp.1 _ (List.getElem_mem hlt)).1;have mt:=(ht t (.head _)).1;have hl:(Zao mulM (p.take i) t).length≤1000000:=by rw [Zfb,List.length_take];omega
   generalize p[i]=s at *;have c1:=ratMul s.1 t.1 ms.1 mt (by omega) (by omega);have c2:=Zf3 (s.1*t.1) (ms.1.mul mt) (by omega);have c3:Pure Tryz.prog 91 [ivs s.2,ivs t.2] (ivs (Zcx (mulM s.2 t.2))):=monMul s.2 t.2 m1.wd m2.wd;rw [Zir (mulK.dom _ _ d1 hd)] at c3
   have nz:¬(s.1*t.1).num.sign=0:=by
    rw [Zev];intro h;rcases Rat.mul_eq_zero.1 h with h | h
    ·exact n1 h
    ·exact h0 h
   have nz2:(!decide ((s.1*t.1).num.sign=0))=true:=by rw [decide_eq_false nz];rfl
   obtain⟨s1,s2⟩:=s;simp only at *;clear ms m1 m2 d1 n1 mt;generalize s1*t.1=z at *;generalize mulM s2 t.2=w at *;generalize Zao mulM (p.take i) t=out at *;(focus (refine wkad (w_10 e3 m3 e12 e13 e14 e5 m11 hg @Za4 nz2) (w_3 c1 c2 c3) (w_1 (w_d 7 [(6,ivs w)] [9,1009] [11,34])) ?_;(repeat' first|exact w_t|apply w_l);all_goals intros));exact⟨i+1,⟨by omega,by exact gW e3,by exact gW m3,by exact gW e12,by exact gW e13,by exact gS,_,by exact gC,by rw [hs,List.map_append];exact gC⟩,by omega⟩
  ·have hi2:i=p.length:=by omega
   subst hi2;rw [List.take_length] at m11;(focus (refine wkld (w_8 e3 m3 e12 e13 e14 e5 m11 @Za4) w_t (w_1 m11) w_t ?_;(repeat' first|exact w_t|apply w_l);all_goals intros))
 ·exact⟨Nat.zero_le _,by exact gC,by exact gC,by exact gC,by(simp (disch:=omega) only [go_sem,List.length_map]<;>repeat' first|rfl|refine⟨?_,?_⟩),by exact gC,_,by exact gC,by(simp (disch:=omega) only [go_sem,List.take_zero,Zao,List.map_nil,List.replicate_zero]<;>repeat' first|rfl|refine⟨?_,?_⟩)⟩
theorem poTimesN (p:Po) (t:Tm) (hn:t.2=[]) {j k e f:Nat} (hp:PK p j e) (ht:PK [t] k f) (sp:SrtM p) (h0:t.1≠0) (hd:Can t.2) (lp:p.length≤1000000) (hj:j≤1000000) (hk:k≤1000000) (he:e≤16777216) (hf:f≤16777216) :
 Pure Tryz.prog 47 [poA p,.agg [.v (.bool (decide (t.1.num < 0))),lim (toL t.1.num.natAbs),lim (toL t.1.den),.v (.slice none 0 0)]] (poA (Zao mulM p t)):=by
 refine Zaa (tok:=0) Tryz.func47 rfl Tryz.ntmps47 Tryz.results47 Tryz.call47 (by rfl) (by simp) ?_;(focus (refine wkad (w_1 @Za4) w_t w_t ?_;(repeat' first|exact w_t|apply w_l);all_goals intros));rename_i g3 sv0;refine Zag (ι:=Nat) (λi e m=>i≤p.length∧e 3=.pbox 3 g3 0∧m 3=some (.box g3 48 [.v (.bool (decide (t.1.num < 0))),lim (toL t.1.num.natAbs),lim (toL t.1.den),.v (.slice none 0 0)] false)∧e 12=poA p∧e 13=iv p.length∧e 14=iv i∧∃sv,e 5=.own 11 sv∧m 11=some (.row sv 48 4 ((Zao mulM (p.take i) t).map tmA) 0)) (λi=>p.length - i) 0 (by rfl) ?_ ?_
 ·rintro i e m ⟨hi,e3,m3,e12,e13,e14,sv,e5,m11⟩
  by_cases hlt:i < p.length
  ·have hg:=Zbb tmA hlt;have hs:=Zlo (t:=t) hlt;have ms:=hp _ (List.getElem_mem hlt);have m1:=hp.sm he (List.getElem_mem hlt);have m2:=ht.sm hf (.head _);have d1:=sp.dom _ (List.getElem_mem hlt);have n1:=(sp.1 _ (List.getElem_mem hlt)).1;have mt:=(ht t (.head _)).1;have hl:(Zao mulM (p.take i) t).length≤1000000:=by rw [Zfb,List.length_take];omega
   generalize p[i]=s at *;have c1:=ratMul s.1 t.1 ms.1 mt (by omega) (by omega);have c2:=Zf3 (s.1*t.1) (ms.1.mul mt) (by omega);have c3:Pure Tryz.prog 91 [ivs s.2,ivs t.2] (ivs (Zcx (mulM s.2 t.2))):=monMul s.2 t.2 m1.wd m2.wd;rw [Zir (mulK.dom _ _ d1 hd)] at c3
   have nz:¬(s.1*t.1).num.sign=0:=by
    rw [Zev];intro h;rcases Rat.mul_eq_zero.1 h with h | h
    ·exact n1 h
    ·exact h0 h
   have nz2:(!decide ((s.1*t.1).num.sign=0))=true:=by rw [decide_eq_false nz];rfl
   have c3:Pure Tryz.prog 91 [ivs s.2,.v (.slice none 0 0)] (ivs (mulM s.2 t.2)):=by
    rw [hn] at c3 ⊢;exact Zfn c3 (.cons (.refl _) (.cons (.nil 1) .nil))
   obtain⟨s1,s2⟩:=s;simp only at *;clear ms m1 m2 d1 n1 mt;generalize s1*t.1=z at *;generalize mulM s2 t.2=w at *;generalize Zao mulM (p.take i) t=out at *;(focus (refine wkad (w_10 e3 m3 e12 e13 e14 e5 m11 hg @Za4 nz2) (w_3 c1 c2 c3) (w_1 (w_d 7 [(6,ivs w)] [9,1009] [11,34])) ?_;(repeat' first|exact w_t|apply w_l);all_goals intros));exact⟨i+1,⟨by omega,by exact gW e3,by exact gW m3,by exact gW e12,by exact gW e13,by exact gS,_,by exact gC,by rw [hs,List.map_append];exact gC⟩,by omega⟩
  ·have hi2:i=p.length:=by omega
   subst hi2;rw [List.take_length] at m11;(focus (refine wkld (w_8 e3 m3 e12 e13 e14 e5 m11 @Za4) w_t (w_1 m11) w_t ?_;(repeat' first|exact w_t|apply w_l);all_goals intros))
 ·exact⟨Nat.zero_le _,by exact gC,by exact gC,by exact gC,by(simp (disch:=omega) only [go_sem,List.length_map]<;>repeat' first|rfl|refine⟨?_,?_⟩),by exact gC,_,by exact gC,by(simp (disch:=omega) only [go_sem,List.take_zero,Zao,List.map_nil,List.replicate_zero]<;>repeat' first|rfl|refine⟨?_,?_⟩)⟩
end Go.Proofs.YtimmnimikmnljaaGreat
namespace Go.Proofs.YtimmnimikmnljaaGreat
open Go Go.RowKit Go.Pg
attribute [-bool_to_prop] Bool.and_eq_decide Bool.or_eq_decide Bool.decide_beq_decide decide_eq_decide
attribute [local go_sem] Tryz.underlying3 Tryz.underlying2 Tryz.underlying115 Tryz.underlying104 Tryz.underlying4 Tryz.underlying44 Tryz.underlying40 Tryz.underlying42 sz3 by3 z3 szL byL zL Zcd zRat Zce zNat Zcf zInt
theorem intOfM:Pure Tryz.prog 129 [iv (-1)] (intZ (-1)):=by
 have hm:=Zh8 true 1 (by rw [Zfw];omega);have hn:=natOf 1 (by omega);rw [show zI true 1=-1 from rfl] at hm;rw [show intZ (-1)=.agg [.v (.bool true),lim (toL 1)] from rfl] at hm ⊢;generalize toL 1=l at *;refine Zaa (tok:=0) Tryz.func129 rfl Tryz.ntmps129 Tryz.results129 Tryz.call129 (by rfl) (by simp) ?_;(focus (refine wklp w_t (w_2 hn hm) w_t (w_r 0) ?_;(repeat' first|exact w_t|apply w_l);all_goals intros))
theorem ratOfM:Pure Tryz.prog 75 [iv (-1)] (ratQ (-1)):=by
 have c:=intOfM;rw [show intZ (-1)=.agg [.v (.bool true),lim (toL 1)] from rfl] at c;rw [show ratQ (-1)=.agg [.v (.bool true),lim (toL 1),lim (toL 1)] from rfl];have u:=Zoo;generalize toL 1=l at *;refine Zaa (tok:=0) Tryz.func75 rfl Tryz.ntmps75 Tryz.results75 Tryz.call75 (by rfl) (by simp) ?_;(focus (refine wklp w_t (w_2 c u) w_t (w_r 0) ?_;(repeat' first|exact w_t|apply w_l);all_goals intros))
theorem zOfM:Pure Tryz.prog 99 [iv (-1)] (intZ (-1)):=by
 have hm:=zOf' true 1 (by rw [Zfw];omega);have h0:=Zim 0 (by omega);have h1:=Zim 1 (by omega);have ha:=rAdd 0 1 (by rw [Za3];simp) (by rw [Zfw];omega);rw [show zI true 1=-1 from rfl] at hm;rw [show 0+1=1 from rfl] at ha;rw [show intZ (-1)=.agg [.v (.bool true),lim (toL 1)] from rfl] at hm ⊢;generalize toL 1=l at *;generalize toL 0=k at *;refine Zaa (tok:=0) Tryz.func99 rfl Tryz.ntmps99 Tryz.results99 Tryz.call99 (by rfl) (by simp) ?_;(focus (refine wklp w_t (w_4 h0 h1 ha hm) w_t (w_r 0) ?_;(repeat' first|exact w_t|apply w_l);all_goals intros))
theorem qOfM:Pure Tryz.prog 56 [iv (-1)] (ratQ (-1)):=by
 have c:=zOfM;have h1:=Zim 1 (by omega);have co:Pure Tryz.prog 98 [.agg [.v (.bool true),lim (toL 1)],lim (toL 1)] (ratQ (mkRat (zI true 1) 1)):=Zos true 1 1 (by rw [Zfw];omega) (by rw [Zfw];omega) (by omega);rw [show mkRat (zI true 1) 1=(-1:Rat) from rfl] at co;rw [show intZ (-1)=.agg [.v (.bool true),lim (toL 1)] from rfl] at c;rw [show ratQ (-1)=.agg [.v (.bool true),lim (toL 1),lim (toL 1)] from rfl] at *;generalize toL 1=l at *;refine Zaa (tok:=0) Tryz.func56 rfl Tryz.ntmps56 Tryz.results56 Tryz.call56 (by rfl) (by simp) ?_;(focus (refine wklp w_t (w_3 c h1 co) w_t (w_r 0) ?_;(repeat' first|exact w_t|apply w_l);all_goals intros))
end Go.Proofs.YtimmnimikmnljaaGreat
namespace Go.Proofs.YtimmnimikmnljaaGreat
open Go Go.RowKit Go.Pg Go.Pol
attribute [-bool_to_prop] Bool.and_eq_decide Bool.or_eq_decide Bool.decide_beq_decide decide_eq_decide
attribute [local go_sem] Tryz.underlying3 Tryz.underlying4 Tryz.underlying44 Tryz.underlying42 Tryz.underlying40 Tryz.underlying48 Tryz.underlying22 Tryz.underlying46 Tryz.underlying23 Tryz.underlying24 sz3 by3 z3 Zcd zRat Zcf zInt Zce zNat Zbq Zbt Zcs Zbs Zbv Zcu Zbr Zbu Zct
def SumOk (l:List Po) (K e:Nat):Prop:=∀a b,PK (sumH ltM ((l.drop a).take b)) K e∧(sumH ltM ((l.drop a).take b)).length≤1000000
theorem SumOk.take {l:List Po} {K e:Nat} (h:SumOk l K e) (k:Nat):SumOk (l.take k) K e:=λa b=>by
 rw [List.drop_take,List.take_take];exact h a _
theorem SumOk.drop {l:List Po} {K e:Nat} (h:SumOk l K e) (k:Nat):SumOk (l.drop k) K e:=λa b=>by
 rw [List.drop_drop];exact h _ b
theorem SumOk.all {l:List Po} {K e:Nat} (h:SumOk l K e):PK (sumH ltM l) K e∧(sumH ltM l).length≤1000000:=by
 have:=h 0 l.length
 rwa [List.drop_zero,List.take_length] at this
theorem poSumN:∀(n:Nat) (l:List Po) {K e:Nat},l.length=n→(∀p∈l,SrtM p)→SumOk l K e→l.length≤1000000→K≤1000000→e≤16777216→Pure Tryz.prog 48 [.sl 1 (l.map poA)] (poA (sumH ltM l)):=by
 intro n
 induction n using Nat.strongRecOn with
 | _ n ih =>
   intro l K e hn hs ho hl hK he
   match l,hn,hs,ho,hl with
   | [],hn,hs,ho,hl =>
     rw [show sumH ltM []=[] from by simp [sumH]];refine Zho (r:=.v (.slice none 0 0)) ?_ (.nil 4);refine Zaa (tok:=0) Tryz.func48 rfl Tryz.ntmps48 Tryz.results48 Tryz.call48 (by rfl) (by simp) ?_;(focus (refine wkld w_t w_t w_t w_t ?_;(repeat' first|exact w_t|apply w_l);all_goals intros))
   | [p],hn,hs,ho,hl =>
     rw [show sumH ltM [p]=p from by simp [sumH]];refine Zaa (tok:=0) Tryz.func48 rfl Tryz.ntmps48 Tryz.results48 Tryz.call48 (by rfl) (by simp) ?_;(focus (refine wkld w_t w_t w_t w_t ?_;(repeat' first|exact w_t|apply w_l);all_goals intros))
   | p :: q :: r,hn,hs,ho,hl =>
     obtain⟨L,hL⟩:∃L,L=p :: q :: r:=⟨_,rfl⟩;have h2:2≤L.length:=by rw [hL];simp
     have e1:sumH ltM (p :: q :: r)=addM (sumH ltM (L.take (L.length/2))) (sumH ltM (L.drop (L.length/2))):=by rw [sumH,←hL]
     rw [e1];rw [←hL] at hn hs ho hl ⊢;clear e1 hL;have s1:∀u∈L.take (L.length/2),SrtM u:=λu hu=>hs u (List.mem_of_mem_take hu);have s2:∀u∈L.drop (L.length/2),SrtM u:=λu hu=>hs u (List.mem_of_mem_drop hu);have o1:=(ho.take (L.length/2)).all;have o2:=(ho.drop (L.length/2)).all;have c1:=ih (L.take (L.length/2)).length (by rw [List.length_take];omega) (L.take (L.length/2)) rfl s1 (ho.take _) (by rw [List.length_take];omega) hK he;have c2:=ih (L.drop (L.length/2)).length (by rw [List.length_drop];omega) (L.drop (L.length/2)) rfl s2 (ho.drop _) (by rw [List.length_drop];omega) hK he;have c3:=poAdd (sumH ltM (L.take (L.length/2))) (sumH ltM (L.drop (L.length/2))) o1.1 o2.1 (Zhj ordM _ s1) (Zhj ordM _ s2) o1.2 o2.2 hK hK he
     clear ih s1 s2 o1 o2 ho hs;have hd:(L.length:Int).tdiv 2=((L.length/2:Nat):Int):=Zdz _ 2;have hh:L.length/2≤L.length:=by omega
     rw [List.map_take] at c1;rw [List.map_drop] at c2;have hlm:(L.map poA).length=L.length:=List.length_map ..;have htk:(L.map poA).take L.length=L.map poA:=by rw [←hlm,List.take_length]
     generalize sumH ltM (L.take (L.length/2))=x at *;generalize sumH ltM (L.drop (L.length/2))=y at *;generalize addM x y=z at *;generalize L.length/2=h at *;generalize L.map poA=M at *;generalize L.length=len at *;refine Zaa (tok:=0) Tryz.func48 rfl Tryz.ntmps48 Tryz.results48 Tryz.call48 (by rfl) (by simp) ?_;(focus (refine wkld (w_4 hlm hd htk @Zph) (w_3 c1 c2 c3) w_t (w_1 (w_d 7 [(3,poA x),(7,poA y),(8,poA z)] [] [])) ?_;(repeat' first|exact w_t|apply w_l);all_goals intros))
theorem poSum (l:List Po) {K e:Nat} (hs:∀p∈l,SrtM p) (ho:SumOk l K e) (hl:l.length≤1000000) (hK:K≤1000000) (he:e≤16777216):Pure Tryz.prog 48 [.sl 1 (l.map poA)] (poA (sumH ltM l)):=poSumN _ l rfl hs ho hl hK he
theorem poMul0 (p q:Po) (a b:Po) (hab:(q.length < p.length∧a=q∧b=p)∨(¬q.length < p.length∧a=p∧b=q)) {j k e f K E:Nat} (hp:PK a j e) (hq:PK b k f) (sp:SrtM a) (sq:SrtM b) (lp:a.length≤1000000) (lq:b.length≤1000000) (hj:j≤1000000) (hk:k≤1000000) (he:e≤16777216) (hf:f≤16777216)
 (ho:SumOk (a.map λt=>Zao mulM b t) K E) (hK:K≤1000000) (hE:E≤16777216) :
 Pure Tryz.prog 17 [poA p,poA q] (poA (mlM b a)):=by
 have hs:∀u∈a.map (λt=>Zao mulM b t),SrtM u:=λu hu=>by
  obtain⟨t,ht,rfl⟩:=List.mem_map.1 hu;exact Zds mulK sq (sp.1 t ht).1 (sp.1 t ht).2
 have cs:=poSum _ hs ho (by rw [List.length_map];exact lp) hK hE;rw [show sumH ltM (a.map λt=>Zao mulM b t)=mlM b a from mulH_eq ordM mulK sp sq] at cs;clear ho hs;have loop:∀(e1:Nat→AV) (m1:Mem) (Q:AE→St→Prop),True→True:=λ_ _ _ _=>trivial;rcases hab with⟨hlt,rfl,rfl⟩ | ⟨hlt,rfl,rfl⟩
 all_goals
  refine Zaa (tok:=0) Tryz.func17 rfl Tryz.ntmps17 Tryz.results17 Tryz.call17 (by rfl) (by simp) ?_;(focus (refine wkap (w_1 @Za4) w_t (w_r 0) ?_;(repeat' first|exact w_t|apply w_l);all_goals intros));rename_i sv0;refine Zag (ι:=Nat) (λi e' m=>i≤a.length∧e' 1=poA b∧e' 18=poA a∧e' 19=iv a.length∧e' 20=iv i∧∃sv,e' 5=.own 17 sv∧m 17=some (.row sv 23 1 (((a.take i).map λt=>Zao mulM b t).map poA) 0)) (λi=>a.length - i) 0 (by rfl) ?_ ?_
  ·rintro i e' m ⟨hi,e1,e18,e19,e20,sv,e5,m17⟩
   by_cases hlt:i < a.length
   ·have hg:=Zbb tmA hlt;have ht:PK [a[i]] j e:=λu hu=>by rw [List.mem_singleton] at hu;subst hu;exact hp _ (List.getElem_mem hlt)
    have c1:=poTimes b a[i] hq ht sq (sp.1 _ (List.getElem_mem hlt)).1 (sp.1 _ (List.getElem_mem hlt)).2 lq hk hj hf he
    have hsn:((a.take (i+1)).map λt=>Zao mulM b t).map poA=((a.take i).map λt=>Zao mulM b t).map poA++[poA (Zao mulM b a[i])]:=by
     rw [List.take_succ_eq_append_getElem hlt,List.map_append,List.map_append];rfl
    have hl:(((a.take i).map λt=>Zao mulM b t).map poA).length=i:=by rw [List.length_map,List.length_map,List.length_take];omega
    generalize a[i]=t at *;generalize ((a.take i).map λt=>Zao mulM b t).map poA=out at *;generalize Zao mulM b t=tm at *;(focus (refine wkap (w_9 e1 e18 e19 e20 e5 m17 hg hl @Za4) (w_1 c1) (w_r 0) ?_;(repeat' first|exact w_t|apply w_l);all_goals intros));exact⟨i+1,⟨by omega,by exact gW e1,by exact gW e18,by exact gW e19,by exact gS,_,by exact gC,by rw [hsn];exact gC⟩,by omega⟩
   ·have hi2:i=a.length:=by omega
    subst hi2;rw [List.take_length] at m17;generalize (a.map λt=>Zao mulM b t).map poA=out at *;(focus (refine wkax (w_7 e1 e18 e19 e20 e5 m17 @Za4) w_t w_t (w_1 cs) w_t w_t (w_r 0) ?_;(repeat' first|exact w_t|apply w_l);all_goals intros))
    (all_goals (try simp (disch:=omega) only [go_sem,decide_eq_true,decide_eq_false,if_pos,if_neg,Int.reduceAdd,Int.reduceSub,Int.reduceToNat,Int.zero_add]));(all_goals first|done|rfl|(congr 2;first|done|omega|(rw [Bool.eq_iff_iff];simp only [bool_to_prop,Bool.false_eq_true,iff_true,true_iff,iff_false,false_iff];omega))|skip)
  ·exact⟨Nat.zero_le _,by exact gC,by exact gC,by(simp (disch:=omega) only [go_sem,List.length_map]<;>repeat' first|rfl|refine⟨?_,?_⟩),by exact gC,_,by exact gC,by(simp (disch:=omega) only [go_sem,List.take_zero,List.map_nil,List.replicate_zero]<;>repeat' first|rfl|refine⟨?_,?_⟩)⟩
def Zjd (p q:Po):List Po:=if q.length < p.length then q.map λt=>Zao mulM p t else p.map λt=>Zao mulM q t
theorem poMul (p q:Po) {j k e f K E:Nat} (hp:PK p j e) (hq:PK q k f) (sp:SrtM p) (sq:SrtM q) (lp:p.length≤1000000) (lq:q.length≤1000000) (hj:j≤1000000) (hk:k≤1000000) (he:e≤16777216) (hf:f≤16777216)
 (ho:SumOk (Zjd p q) K E) (hK:K≤1000000) (hE:E≤16777216) :
 Pure Tryz.prog 17 [poA p,poA q] (poA (mlM p q)):=by
 unfold Zjd at ho;by_cases h:q.length < p.length
 ·rw [if_pos h] at ho;exact poMul0 p q q p (.inl ⟨h,rfl,rfl⟩) hq hp sq sp lq lp hk hj hf he ho hK hE
 ·rw [if_neg h] at ho;have:=poMul0 p q p q (.inr ⟨h,rfl,rfl⟩) hp hq sp sq lp lq hj hk he hf ho hK hE
  rwa [show mlM q p=mlM p q from Znj ordM mulK sq sp] at this
theorem SumOk.one {l:List Po} {K e:Nat} (hl:l.length≤1) (h:∀p∈l,PK p K e∧p.length≤1000000):SumOk l K e:=λa b=>by
 have h0:PK (sumH ltM []) K e∧(sumH ltM []).length≤1000000:=by rw [show sumH ltM []=[] from by simp [sumH]];exact⟨.nil,by simp⟩
 match l,hl,h with
 | [],_,_=>simpa using h0
 | [p],_,h =>
   match a,b with
   | 0,0=>simpa using h0
   | 0,b+1=>simp only [List.drop_zero,List.take_succ_cons,List.take_nil];rw [show sumH ltM [p]=p from by simp [sumH]];exact h p (.head _)
   | a+1,b=>simpa using h0
theorem Zsu (p:Po) (a:Rat) {j k e:Nat} (hp:PK p j e) (ha:Sz a k) (sp:SrtM p) (lp:p.length≤1000000) (hj:j≤1000000) (hk:k≤1000000) (he:e≤16777216):Pure Tryz.prog 125 [poA p,ratQ a] (poA (sclM a p)):=by
 have cs:=Zf3 a ha (by omega);unfold sclM;by_cases h:a=0
 ·rw [if_pos h];have hz:a.num.sign=0:=by rw [Zev];exact h
  refine Zho (r:=.v (.slice none 0 0)) ?_ (.nil 4);refine Zaa (tok:=0) Tryz.func125 rfl Tryz.ntmps125 Tryz.results125 Tryz.call125 (by rfl) (by simp) ?_;(focus (refine wklp (w_1 hz) (w_1 cs) w_t (w_r 0) ?_;(repeat' first|exact w_t|apply w_l);all_goals intros))
 ·rw [if_neg h];have hz:¬a.num.sign=0:=by rw [Zev];exact h
  have ct:=poTimesN p (a,[]) rfl (j:=j) (k:=k) (e:=e) (f:=0) hp (λu hu=>by rw [List.mem_singleton] at hu;subst hu;exact⟨ha,by simp,λi=>by show 0≤gI [] i∧gI [] i≤_;rw [Zbi (Nat.zero_le _)];omega⟩) sp h can_nil lp hj hk he (by omega);rw [Zq1] at ct;simp only at ct;generalize Zbg a p=r at *;generalize a.num.sign=z at *;refine Zaa (tok:=0) Tryz.func125 rfl Tryz.ntmps125 Tryz.results125 Tryz.call125 (by rfl) (by simp) ?_;(focus (refine wklp w_t (w_2 cs ct) w_t (w_r 0) ?_;(repeat' first|exact w_t|apply w_l);all_goals intros))
theorem poNeg (p:Po) {j e:Nat} (hp:PK p j e) (sp:SrtM p) (lp:p.length≤1000000) (hj:j≤1000000) (he:e≤16777216):Pure Tryz.prog 72 [poA p] (poA (Zbg (-1) p)):=by
 have c:=Zsu p (-1) hp ((Zo3 1 (by omega)).neg) sp lp hj (by omega) he;have co:=ratOfM;rw [show sclM (-1) p=Zbg (-1) p from if_neg neg1] at c;generalize Zbg (-1) p=r at *;generalize (-1:Rat)=q at *;refine Zaa (tok:=0) Tryz.func72 rfl Tryz.ntmps72 Tryz.results72 Tryz.call72 (by rfl) (by simp) ?_;(focus (refine wklp w_t (w_2 co c) w_t (w_r 0) ?_;(repeat' first|exact w_t|apply w_l);all_goals intros))
theorem PK.neg {q:Po} {k e:Nat} (hq:PK q k e):PK (Zbg (-1) q) k e:=λt ht=>by
 obtain⟨s,hs,rfl⟩:=List.mem_map.1 ht;refine⟨?_,(hq s hs).2⟩;show Sz (s.1*-1) k;rw [show s.1*-1=-s.1 by grind];exact(hq s hs).1.neg
theorem Zhl (a:Rat) (p:Po):(Zbg a p).length=p.length:=by unfold Zbg;simp
theorem poSub (p q:Po) {j k e:Nat} (hp:PK p j e) (hq:PK q k e) (sp:SrtM p) (sq:SrtM q) (lp:p.length≤1000000) (lq:q.length≤1000000) (hj:j≤1000000) (hk:k≤1000000) (he:e≤16777216) :
 Pure Tryz.prog 31 [poA p,poA q] (poA (subM p q)):=by
 have c1:=poNeg q hq sq lq hk he;have c2:=poAdd p (Zbg (-1) q) hp hq.neg sp (Zei sq neg1) lp (by rw [Zhl];exact lq) hj hk he;show Pure _ _ _ (poA (addM p (Zbg (-1) q)));generalize Zbg (-1) q=n at *;generalize addM p n=r at *;refine Zaa (tok:=0) Tryz.func31 rfl Tryz.ntmps31 Tryz.results31 Tryz.call31 (by rfl) (by simp) ?_;(focus (refine wklp w_t (w_2 c1 c2) w_t (w_r 0) ?_;(repeat' first|exact w_t|apply w_l);all_goals intros))
theorem unit_set (v:Nat):((List.replicate (v+1) (iv 0)).set v (iv 1))=(Zgx v).map iv:=by
 unfold Zgx;rw [List.map_append,List.map_replicate,List.replicate_succ',List.set_append_right _ _ (by simp)];simp
theorem Zqc (c:Rat) (m:List Int) (h:c≠0) {k:Nat} (hc:Sz c k) (hk:k≤1000000):Pure Tryz.prog 73 [ratQ c,ivs m] (poA [(c,m)]):=by
 have cs:=Zf3 c hc (by omega);have hz:¬c.num.sign=0:=by rw [Zev];exact h
 generalize c.num.sign=z at *;refine Zaa (tok:=0) Tryz.func73 rfl Tryz.ntmps73 Tryz.results73 Tryz.call73 (by rfl) (by simp) ?_;(focus (refine wklp w_t (w_1 cs) w_t (w_r 0) ?_;(repeat' first|exact w_t|apply w_l);all_goals intros))
theorem qSign (q:Rat) {k:Nat} (h:Sz q k) (hk:k≤10000000):Pure Tryz.prog 64 [ratQ q] (.v (.int .i64 q.num.sign)):=by
 have c:=zSign q.num (by have:=h.1;omega);have cn:=Zm2 q h hk;generalize q.num.sign=z at *;refine Zaa (tok:=0) Tryz.func64 rfl Tryz.ntmps64 Tryz.results64 Tryz.call64 (by rfl) (by simp) ?_;(focus (refine wklp w_t (w_2 cn c) w_t (w_r 0) ?_;(repeat' first|exact w_t|apply w_l);all_goals intros))
theorem rpLex (a b:List Int) (hs:Sm a) (ht:Sm b):Pure Tryz.prog 62 [ivs a,ivs b,iv 0] (iv (lexC a b (max a.length b.length))):=by
 have c:Pure Tryz.prog 62 [ivs a,ivs b,iv 0] (iv (cmpI a b 0)):=mrCmp a b 0 hs ht;have e:cmpI a b 0=lexC a b (max a.length b.length):=by unfold cmpI;rw [if_neg (by omega)]
 rwa [e] at c
theorem rpAdd (p q:Po) {j k e:Nat} (hp:PK p j e) (hq:PK q k e) (sp:SrtM p) (sq:SrtM q) (lp:p.length≤1000000) (lq:q.length≤1000000) (hj:j≤1000000) (hk:k≤1000000) (he:e≤16777216) :
 Pure Tryz.prog 25 [poA p,poA q] (poA (addM p q)):=by
 refine Zaa (tok:=0) Tryz.func25 rfl Tryz.ntmps25 Tryz.results25 Tryz.call25 (by rfl) (by simp) ?_;(focus (refine wkad (w_1 @Za4) w_t w_t ?_;(repeat' first|exact w_t|apply w_l);all_goals intros));refine Ze5 (Frz.nilOwn (d:=5) 100 4 48 (by exact gC)) ?_;refine Zag (ι:=Nat × Nat) (λx e m=>x.1≤p.length∧x.2≤q.length∧e 0=poA p∧e 1=poA q∧e 6=iv x.1∧e 7=iv x.2∧∃sv out,e 5=.own 100 sv∧m 100=some (.row sv 48 4 (out.map tmA) 0)∧out.length≤x.1+x.2∧addM p q=out++addM (p.drop x.1) (q.drop x.2)) (λx=>p.length+q.length - (x.1+x.2)) (0,0) (by rfl) ?_ ?_
 ·rintro ⟨i,l⟩ e m ⟨hi,hl,e0,e1,e6,e7,sv,out,e5,em,ho,hs⟩
  simp only at hi hl e6 e7 ho hs;by_cases hil:i < p.length∧l < q.length
  ·obtain⟨hi2,hl2⟩:=hil;have hg:=Zbb tmA hi2;have hh:=Zbb tmA hl2;have st:=Zn7 hi2 hl2;have ms:=hp _ (List.getElem_mem hi2);have mt:=hq _ (List.getElem_mem hl2);have m1:=hp.sm he (List.getElem_mem hi2);have m2:=hq.sm he (List.getElem_mem hl2);have d1:=sp.dom _ (List.getElem_mem hi2);have d2:=sq.dom _ (List.getElem_mem hl2);generalize p[i]=s at *;generalize q[l]=t at *;have cl:=rpLex s.2 t.2 m1 m2;have ca:=qAdd s.1 t.1 ms.1 mt.1 (by omega) (by omega);have cz:=qSign (s.1+t.1) (ms.1.add mt.1) (by omega);have hlen:(out.map tmA).length=out.length:=List.length_map ..;rw [st] at hs;obtain⟨s1,s2⟩:=s
   obtain⟨t1,t2⟩:=t;simp only at *;rcases Zh6 d1 d2 with⟨h1,h2⟩ | ⟨h1,h1',h2,h3⟩ | ⟨h1,h1',h2⟩
   ·have h3:¬ltM t2 s2:=λh=>ordM.irr _ (ordM.tr _ _ _ h h1);rw [if_neg h3,if_pos h1] at hs;rw [h2] at cl;clear st ms mt m1 m2 d1 d2 ca cz;(focus (refine wkad (w_9 e0 e1 e6 e7 e5 em hg hh @Za4) (w_1 cl) (w_1 (w_d 8 [(10,iv (-1))] [] [])) ?_;(repeat' first|exact w_t|apply w_l);all_goals intros));refine⟨(i,l+1),⟨by simp only;omega,by simp only;omega,by exact gW e0,by exact gW e1,by exact gW e6,by exact gS,_,out++[(t1,t2)],by exact gC,by(simp (disch:=omega) only [go_sem,List.map_append]<;>repeat' first|rfl|refine⟨?_,?_⟩),by simp only [List.length_append,List.length_cons,List.length_nil];omega,by rw [hs,List.append_assoc];rfl⟩,by simp only;omega⟩
   ·rw [if_neg h1',if_neg h1] at hs;rw [h3] at cl;by_cases hz:s1+t1=0
    ·rw [if_pos hz] at hs;have hz2:(s1+t1).num.sign=0:=by rw [Zev];exact hz
     clear st ms mt m1 m2 d1 d2;generalize (s1+t1)=z at *;(focus (refine wkad (w_10 e0 e1 e6 e7 e5 em hg hh @Za4 hz2) (w_3 cl ca cz) (w_2 (w_d 8 [(10,iv 0)] [] []) (w_d 9 [(10,ratQ z)] [] [9])) ?_;(repeat' first|exact w_t|apply w_l);all_goals intros));refine⟨(i+1,l+1),⟨by simp only;omega,by simp only;omega,by exact gW e0,by exact gW e1,by exact gS,by exact gS,_,out,by exact gW e5,by exact gW em,by simp only;omega,hs⟩,by simp only;omega⟩
    ·rw [if_neg hz] at hs;have hz2:¬(s1+t1).num.sign=0:=by rw [Zev];exact hz
     clear st ms mt m1 m2 d1 d2;generalize (s1+t1)=z at *;(focus (refine wkax (w_9 e0 e1 e6 e7 e5 em hg hh @Za4) (w_3 cl ca cz) (w_3 (w_d 8 [(10,iv 0)] [] []) (w_d 9 [(10,ratQ z)] [] [9]) (w_d 11 [] [9,1009] [100,61])) w_t w_t w_t (w_r 0) ?_;(repeat' first|exact w_t|apply w_l);all_goals intros));refine⟨(i+1,l+1),⟨by simp only;omega,by simp only;omega,by exact gW e0,by exact gW e1,by exact gS,by exact gS,_,out++[(z,s2)],by exact gC,by(simp (disch:=omega) only [go_sem,List.map_append]<;>repeat' first|rfl|refine⟨?_,?_⟩),by simp only [List.length_append,List.length_cons,List.length_nil];omega,by rw [hs,List.append_assoc];rfl⟩,by simp only;omega⟩
   ·rw [if_pos h1] at hs;rw [h2] at cl;clear st ms mt m1 m2 d1 d2 ca cz;(focus (refine wkad (w_9 e0 e1 e6 e7 e5 em hg hh @Za4) (w_1 cl) (w_1 (w_d 8 [(10,iv 1)] [] [])) ?_;(repeat' first|exact w_t|apply w_l);all_goals intros));refine⟨(i+1,l),⟨by simp only;omega,by simp only;omega,by exact gW e0,by exact gW e1,by exact gS,by exact gW e7,_,out++[(s1,s2)],by exact gC,by(simp (disch:=omega) only [go_sem,List.map_append]<;>repeat' first|rfl|refine⟨?_,?_⟩),by simp only [List.length_append,List.length_cons,List.length_nil];omega,by rw [hs,List.append_assoc];rfl⟩,by simp only;omega⟩
  ·rw [Ziz (by omega)] at hs;by_cases hi2:i < p.length
   ·have hl2:l=q.length:=by omega
    subst hl2;have hg:=Zbb tmA hi2;have hd:p.drop i=p[i] :: p.drop (i+1):=List.drop_eq_getElem_cons hi2;rw [hd] at hs
    have hs:addM p q=(out++[p[i]])++addM (p.drop (i+1)) (q.drop q.length):=by
     rw [Ziz (.inr (Nat.le_refl _)),hs];simp
    clear hd;generalize p[i]=s at *;obtain⟨s1,s2⟩:=s;(focus (refine wkad (w_8 e0 e1 e6 e7 e5 em hg @Za4) w_t w_t ?_;(repeat' first|exact w_t|apply w_l);all_goals intros));refine⟨(i+1,q.length),⟨by simp only;omega,by simp only;omega,by exact gW e0,by exact gW e1,by exact gS,by exact gW e7,_,out++[(s1,s2)],by exact gC,by(simp (disch:=omega) only [go_sem,List.map_append]<;>repeat' first|rfl|refine⟨?_,?_⟩),by simp only [List.length_append,List.length_cons,List.length_nil];omega,hs⟩,by simp only;omega⟩
   ·have hi3:i=p.length:=by omega
    subst hi3;by_cases hl2:l < q.length
    ·have hg:=Zbb tmA hl2;have hd:q.drop l=q[l] :: q.drop (l+1):=List.drop_eq_getElem_cons hl2;rw [hd] at hs
     have hs:addM p q=(out++[q[l]])++addM (p.drop p.length) (q.drop (l+1)):=by
      rw [Ziz (.inl (Nat.le_refl _)),hs];simp
     clear hd;generalize q[l]=s at *;obtain⟨s1,s2⟩:=s;(focus (refine wkad (w_8 e0 e1 e6 e7 e5 em hg @Za4) w_t w_t ?_;(repeat' first|exact w_t|apply w_l);all_goals intros));refine⟨(p.length,l+1),⟨by simp only;omega,by simp only;omega,by exact gW e0,by exact gW e1,by exact gW e6,by exact gS,_,out++[(s1,s2)],by exact gC,by(simp (disch:=omega) only [go_sem,List.map_append]<;>repeat' first|rfl|refine⟨?_,?_⟩),by simp only [List.length_append,List.length_cons,List.length_nil];omega,hs⟩,by simp only;omega⟩
    ·have hl3:l=q.length:=by omega
     subst hl3;rw [List.drop_length,List.drop_length,List.append_nil,List.append_nil] at hs;rw [hs];(focus (refine wkld (w_7 e0 e1 e6 e7 e5 em @Za4) w_t (w_1 em) w_t ?_;(repeat' first|exact w_t|apply w_l);all_goals intros))
 ·exact⟨Nat.zero_le _,Nat.zero_le _,by exact gC,by exact gC,by exact gC,by exact gC,_,[],by exact gC,by(simp (disch:=omega) only [go_sem,List.map_nil]<;>repeat' first|rfl|refine⟨?_,?_⟩),by simp,by simp⟩
theorem rpTimes (p:Po) (t:Tm) {j k e f:Nat} (hp:PK p j e) (ht:PK [t] k f) (lp:p.length≤1000000) (hj:j≤1000000) (hk:k≤1000000) (he:e≤16777216) (hf:f≤16777216) :
 Pure Tryz.prog 65 [poA p,tmA t] (poA (Zao mulM p t)):=by
 obtain⟨t1,t2⟩:=t;refine Zaa (tok:=0) Tryz.func65 rfl Tryz.ntmps65 Tryz.results65 Tryz.call65 (by rfl) (by simp) ?_;(focus (refine wkad (w_1 @Za4) w_t w_t ?_;(repeat' first|exact w_t|apply w_l);all_goals intros));rename_i g3;refine Ze5 (Frz.nilOwn (d:=5) 100 4 48 (by exact gC)) ?_;refine Zag (ι:=Nat) (λi e m=>i≤p.length∧e 3=.pbox 3 g3 0∧m 3=some (.box g3 48 [.v (.bool (decide (t1.num < 0))),lim (toL t1.num.natAbs),lim (toL t1.den),ivs t2] false)∧e 0=poA p∧e 6=iv i∧∃sv,e 5=.own 100 sv∧m 100=some (.row sv 48 4 ((Zao mulM (p.take i) (t1,t2)).map tmA) 0)) (λi=>p.length - i) 0 (by rfl) ?_ ?_
 ·rintro i e m ⟨hi,e3,m3,e0,e6,sv,e5,m11⟩
  by_cases hlt:i < p.length
  ·have hg:=Zbb tmA hlt;have hs:=Zlo (t:=(t1,t2)) hlt;have ms:=hp _ (List.getElem_mem hlt);have m1:=hp.sm he (List.getElem_mem hlt);have m2:=ht.sm hf (.head _);have mt:=(ht _ (.head _)).1;have hl:(Zao mulM (p.take i) (t1,t2)).length≤1000000:=by rw [Zfb,List.length_take];omega
   generalize p[i]=s at *;have c1:=qMul s.1 t1 ms.1 mt (by omega) (by omega);have c3:Pure Tryz.prog 116 [ivs s.2,ivs t2] (ivs (mulM s.2 t2)):=mrMul s.2 t2 m1.wd m2.wd;obtain⟨s1,s2⟩:=s;simp only at *;clear ms m1 m2 mt;generalize s1*t1=z at *;generalize mulM s2 t2=w at *;generalize Zao mulM (p.take i) (t1,t2)=out at *;(focus (refine wkad (w_8 e3 m3 e0 e6 e5 m11 hg @Za4) (w_2 c1 c3) (w_1 (w_d 5 [(8,ratQ z),(16,ivs w)] [19,1019] [100,31])) ?_;(repeat' first|exact w_t|apply w_l);all_goals intros));exact⟨i+1,⟨by omega,by exact gW e3,by exact gW m3,by exact gW e0,by exact gS,_,by exact gC,by rw [hs,List.map_append];exact gC⟩,by omega⟩
  ·have hi2:i=p.length:=by omega
   subst hi2;rw [List.take_length] at m11;(focus (refine wkld (w_7 e3 m3 e0 e6 e5 m11 @Za4) w_t (w_1 m11) w_t ?_;(repeat' first|exact w_t|apply w_l);all_goals intros))
 ·exact⟨Nat.zero_le _,by exact gC,by exact gC,by exact gC,by exact gC,_,by exact gC,by(simp (disch:=omega) only [go_sem,List.take_zero,Zao,List.map_nil]<;>repeat' first|rfl|refine⟨?_,?_⟩)⟩
theorem Zq6 {p:Po} {a:Rat} {i:Nat} (hi:i < p.length):Zbg a (p.take (i+1))=Zbg a (p.take i)++[(p[i].1*a,p[i].2)]:=by
 unfold Zbg;rw [List.take_succ_eq_append_getElem hi,List.map_append];rfl
theorem rpScale0 (p:Po) (a:Rat) {j k e:Nat} (hp:PK p j e) (ha:Sz a k) (lp:p.length≤1000000) (hj:j≤1000000) (hk:k≤1000000) (h:a≠0) :
 Pure Tryz.prog 108 [poA p,ratQ a] (poA (Zbg a p)):=by
 have cs:=qSign a ha (by omega);have hz:¬a.num.sign=0:=by rw [Zev];exact h
 generalize a.num.sign=sg at *;refine Zaa (tok:=0) Tryz.func108 rfl Tryz.ntmps108 Tryz.results108 Tryz.call108 (by rfl) (by simp) ?_;(focus (refine wkad (w_1 @Za4) w_t w_t ?_;(repeat' first|exact w_t|apply w_l);all_goals intros));rename_i g3;refine Ze5 (Frz.nilOwn (d:=5) 100 4 48 (by exact gC)) ?_;refine Zag (ι:=Nat) (λi e m=>i≤p.length∧e 3=.pbox 3 g3 0∧m 3=some (.box g3 44 [.v (.bool (decide (a.num < 0))),lim (toL a.num.natAbs),lim (toL a.den)] false)∧e 0=poA p∧e 6=iv i∧∃sv,e 5=.own 100 sv∧m 100=some (.row sv 48 4 ((Zbg a (p.take i)).map tmA) 0)) (λi=>p.length - i) 0 (by rfl) ?_ ?_
 ·rintro i e m ⟨hi,e3,m3,e0,e6,sv,e5,m11⟩
  by_cases hlt:i < p.length
  ·have hg:=Zbb tmA hlt;have hs:=Zq6 (a:=a) hlt;have ms:=(hp _ (List.getElem_mem hlt)).1;have hl:(Zbg a (p.take i)).length≤1000000:=by rw [Zhl,List.length_take];omega
   generalize p[i]=s at *;have c1:=qMul s.1 a ms ha (by omega) (by omega);obtain⟨s1,s2⟩:=s;simp only at *;clear ms;generalize s1*a=z at *;generalize Zbg a (p.take i)=out at *;(focus (refine wkad (w_8 e3 m3 e0 e6 e5 m11 hg @Za4) (w_2 c1 cs) (w_1 (w_d 5 [(7,ratQ z)] [15,1015] [100,32])) ?_;(repeat' first|exact w_t|apply w_l);all_goals intros));exact⟨i+1,⟨by omega,by exact gW e3,by exact gW m3,by exact gW e0,by exact gS,_,by exact gC,by rw [hs,List.map_append];exact gC⟩,by omega⟩
  ·have hi2:i=p.length:=by omega
   subst hi2;rw [List.take_length] at m11;(focus (refine wkld (w_7 e3 m3 e0 e6 e5 m11 @Za4) w_t (w_1 m11) w_t ?_;(repeat' first|exact w_t|apply w_l);all_goals intros))
 ·exact⟨Nat.zero_le _,by exact gC,by exact gC,by exact gC,by exact gC,_,by exact gC,by(simp (disch:=omega) only [go_sem,List.take_zero,Zbg,List.map_nil]<;>repeat' first|rfl|refine⟨?_,?_⟩)⟩
theorem rpNeg (p:Po) {j e:Nat} (hp:PK p j e) (lp:p.length≤1000000) (hj:j≤1000000):Pure Tryz.prog 61 [poA p] (poA (Zbg (-1) p)):=by
 have c:=rpScale0 p (-1) hp ((Zo3 1 (by omega)).neg) lp hj (by omega) neg1;have co:=qOfM;generalize Zbg (-1) p=r at *;generalize (-1:Rat)=q at *;refine Zaa (tok:=0) Tryz.func61 rfl Tryz.ntmps61 Tryz.results61 Tryz.call61 (by rfl) (by simp) ?_;(focus (refine wklp w_t (w_2 co c) w_t (w_r 0) ?_;(repeat' first|exact w_t|apply w_l);all_goals intros))
theorem rpSub (p q:Po) {j k e:Nat} (hp:PK p j e) (hq:PK q k e) (sp:SrtM p) (sq:SrtM q) (lp:p.length≤1000000) (lq:q.length≤1000000) (hj:j≤1000000) (hk:k≤1000000) (he:e≤16777216) :
 Pure Tryz.prog 24 [poA p,poA q] (poA (subM p q)):=by
 have c1:=rpNeg q hq lq hk;have c2:=rpAdd p (Zbg (-1) q) hp hq.neg sp (Zei sq neg1) lp (by rw [Zhl];exact lq) hj hk he;show Pure _ _ _ (poA (addM p (Zbg (-1) q)));generalize Zbg (-1) q=n at *;generalize addM p n=r at *;refine Zaa (tok:=0) Tryz.func24 rfl Tryz.ntmps24 Tryz.results24 Tryz.call24 (by rfl) (by simp) ?_;(focus (refine wklp w_t (w_2 c1 c2) w_t (w_r 0) ?_;(repeat' first|exact w_t|apply w_l);all_goals intros))
theorem Zjn {p q:Po} {i:Nat} (hi:i < q.length):mlM p (q.take (i+1))=addM (mlM p (q.take i)) (Zao mulM p q[i]):=by
 unfold mlM mulR;rw [List.take_succ_eq_append_getElem hi,List.foldl_append];rfl
theorem Zpz {q:Po} (h:SrtM q) (i:Nat):SrtM (q.take i):=⟨λt ht=>h.1 t (List.mem_of_mem_take ht),List.Pairwise.sublist (List.take_sublist i q) h.2⟩
theorem rpMul (p q:Po) {j k e f K E:Nat} (hp:PK p j e) (hq:PK q k f) (sp:SrtM p) (sq:SrtM q) (lp:p.length≤1000000) (lq:q.length≤1000000) (hj:j≤500000) (hk:k≤500000) (he:e≤8000000) (hf:f≤8000000)
 (ho:∀i,PK (mlM p (q.take i)) K E∧(mlM p (q.take i)).length≤1000000) (hK:K≤1000000) (hE:E≤16777216) :
 Pure Tryz.prog 27 [poA p,poA q] (poA (mlM p q)):=by
 refine Zaa (tok:=0) Tryz.func27 rfl Tryz.ntmps27 Tryz.results27 Tryz.call27 (by rfl) (by simp) ?_;(focus (refine wkap (w_1 @Za4) w_t (w_r 0) ?_;(repeat' first|exact w_t|apply w_l);all_goals intros));refine Ze5 (Frz.nil (d:=5) 4 (by exact gC)) ?_;refine Zag (ι:=Nat) (λi e' m=>i≤q.length∧e' 0=poA p∧e' 1=poA q∧e' 6=iv i∧e' 5=poA (mlM p (q.take i))) (λi=>q.length - i) 0 (by rfl) ?_ ?_
 ·rintro i e' m ⟨hi,e0,e1,e6,e5⟩
  by_cases hlt:i < q.length
  ·have hg:=Zbb tmA hlt;have ht:PK [q[i]] k f:=λu hu=>by rw [List.mem_singleton] at hu;subst hu;exact hq _ (List.getElem_mem hlt)
   have c1:=rpTimes p q[i] hp ht lp (by omega) (by omega) (by omega) (by omega);have c2:=rpAdd (mlM p (q.take i)) (Zao mulM p q[i]) (k:=j+k) (e:=max E (e+f)) ((ho i).1.mono (Nat.le_refl _) (by omega)) ((hp.times ht).mono (Nat.le_refl _) (by omega)) (Zgp ordM mulK sp (Zpz sq i)) (Zds mulK sp (sq.1 _ (List.getElem_mem hlt)).1 (sq.1 _ (List.getElem_mem hlt)).2) (ho i).2 (by rw [Zfb];exact lp) hK (by omega) (by omega);rw [←Zjn hlt] at c2;generalize q[i]=t at *;obtain⟨t1,t2⟩:=t;generalize Zao mulM p (t1,t2)=w at *;generalize mlM p (q.take i)=out at *;generalize hout:mlM p (q.take (i+1))=out' at *
   (focus (refine wkap (w_6 e0 e1 e6 e5 hg @Za4) (w_2 c1 c2) (w_r 0) ?_;(repeat' first|exact w_t|apply w_l);all_goals intros));exact⟨i+1,⟨by omega,by exact gW e0,by exact gW e1,by exact gS,by rw [hout];exact gC⟩,by omega⟩
  ·have hi2:i=q.length:=by omega
   subst hi2;rw [List.take_length] at e5;(focus (refine wklp (w_5 e0 e1 e6 e5 @Za4) w_t w_t (w_r 0) ?_;(repeat' first|exact w_t|apply w_l);all_goals intros))
 ·exact⟨Nat.zero_le _,by exact gC,by exact gC,by exact gC,by(simp (disch:=omega) only [go_sem,List.take_zero,mlM,mulR,List.foldl_nil,List.map_nil]<;>repeat' first|rfl|refine⟨?_,?_⟩)⟩
theorem Zp0 (c:Rat) (m:List Int) {k:Nat} (hc:Sz c k) (hk:k≤1000000):Pure Tryz.prog 55 [.v (.slice none 0 0),ratQ c,ivs m] (poA (if c=0 then [] else [(c,m)])):=by
 have cs:=qSign c hc (by omega);have cn:=Zm2 c hc (by omega);by_cases h:c=0
 ·rw [if_pos h];have hz:c.num.sign=0:=by rw [Zev];exact h
  refine Zaa (tok:=0) Tryz.func55 rfl Tryz.ntmps55 Tryz.results55 Tryz.call55 (by rfl) (by simp) ?_;(focus (refine wkax (w_1 hz) (w_1 cs) w_t w_t w_t w_t (w_r 2) ?_;(repeat' first|exact w_t|apply w_l);all_goals intros))
  (all_goals (try simp (disch:=omega) only [go_sem,decide_eq_true,decide_eq_false,if_pos,if_neg,Int.reduceAdd,Int.reduceSub,Int.reduceToNat,Int.zero_add]));(all_goals first|done|rfl|(congr 2;first|done|omega|(rw [Bool.eq_iff_iff];simp only [bool_to_prop,Bool.false_eq_true,iff_true,true_iff,iff_false,false_iff];omega))|skip)
 ·rw [if_neg h];have hz:¬c.num.sign=0:=by rw [Zev];exact h
  generalize c.num.sign=z at *;refine Zaa (tok:=0) Tryz.func55 rfl Tryz.ntmps55 Tryz.results55 Tryz.call55 (by rfl) (by simp) ?_;(focus (refine wkax w_t (w_2 cs cn) w_t w_t w_t w_t (w_r 2) ?_;(repeat' first|exact w_t|apply w_l);all_goals intros))
  (all_goals (try simp (disch:=omega) only [go_sem,decide_eq_true,decide_eq_false,if_pos,if_neg,Int.reduceAdd,Int.reduceSub,Int.reduceToNat,Int.zero_add]));(all_goals first|done|rfl|(congr 2;first|done|omega|(rw [Bool.eq_iff_iff];simp only [bool_to_prop,Bool.false_eq_true,iff_true,true_iff,iff_false,false_iff];omega))|skip)
theorem rpVar (v:Nat) (hv:v < 1000):Pure Tryz.prog 22 [iv v] (poA (varM v)):=by
 unfold varM;by_cases h:v < 64
 ·rw [if_pos h];have c1:=qOf 1 (by omega);rw [show((1:Nat):Rat)=1 from rfl] at c1;have c2:=Zp0 1 (Zgx v) (Zo3 1 (by omega)) (by omega);rw [if_neg (show(1:Rat)≠0 by decide)] at c2;have hu:(iv 0 :: List.replicate v (iv 0)).set v (iv 1)=(Zgx v).map iv:=by rw [←List.replicate_succ];exact unit_set v
  generalize (1:Rat)=q at *;have hl:(List.replicate (v+1) (iv 0)).length=v+1:=by simp
  refine Zaa (tok:=0) Tryz.func22 rfl Tryz.ntmps22 Tryz.results22 Tryz.call22 (by rfl) (by simp) ?_;(focus (refine wkax (w_2 hl hu) (w_1 c1) w_t (w_1 c2) w_t w_t (w_r 0) ?_;(repeat' first|exact w_t|apply w_l);all_goals intros))
  (all_goals (try simp (disch:=omega) only [go_sem,decide_eq_true,decide_eq_false,if_pos,if_neg,Int.reduceAdd,Int.reduceSub,Int.reduceToNat,Int.zero_add]));(all_goals first|done|rfl|(congr 2;first|done|omega|(rw [Bool.eq_iff_iff];simp only [bool_to_prop,Bool.false_eq_true,iff_true,true_iff,iff_false,false_iff];omega))|skip)
 ·rw [if_neg h];refine Zho (r:=.v (.slice none 0 0)) ?_ (.nil 4);refine Zaa (tok:=0) Tryz.func22 rfl Tryz.ntmps22 Tryz.results22 Tryz.call22 (by rfl) (by simp) ?_;(focus (refine wklp w_t w_t w_t (w_r 0) ?_;(repeat' first|exact w_t|apply w_l);all_goals intros))
theorem Zn5 (a:Rat):cmpQ a a=0:=by
 unfold cmpQ;rw [if_neg (Rat.lt_irrefl),if_neg (Rat.lt_irrefl)]
theorem cmpQ_eq {a b:Rat} (h:cmpQ a b=0):a=b:=by
 unfold cmpQ at h;split at h
 ·omega
 ·split at h
  ·omega
  ·exact Rat.le_antisymm (Rat.not_lt.1 ‹_›) (Rat.not_lt.1 ‹_›)
def cmpT (s t:Tm):Int:=if lexC s.2 t.2 (max s.2.length t.2.length)≠0 then lexC s.2 t.2 (max s.2.length t.2.length) else cmpQ s.1 t.1
def Zhf:Po→Po→Int
 | [],[]=>0
 | [],_ :: _=>-1
 | _ :: _,[]=>1
 | s :: p,t :: q=>if cmpT s t≠0 then cmpT s t else Zhf p q
theorem Zt4 {s t:Tm} (ds:Can s.2) (dt:Can t.2):cmpT s t=0↔s=t:=by
 unfold cmpT;constructor
 ·intro h;split at h
  ·rename_i h1;exact absurd h h1
  ·rename_i h1;rcases Zh6 ds dt with⟨_,h2⟩ | ⟨_,_,h2,_⟩ | ⟨_,_,h2⟩
   ·omega
   ·exact Prod.ext (cmpQ_eq h) h2
   ·omega
 ·rintro rfl
  rw [if_neg (by rw [Zjr _ λj _=>rfl];simp),Zn5]
theorem Zk2:∀{p q:Po},(∀t∈p,Can t.2)→(∀t∈q,Can t.2)→(Zhf p q=0↔p=q)
 | [],[],_,_=>by simp [Zhf]
 | [],_ :: _,_,_=>by simp [Zhf]
 | _ :: _,[],_,_=>by simp [Zhf]
 | s :: p,t :: q,hp,hq=>by
   have h1:=Zt4 (hp s (.head _)) (hq t (.head _));have h2:=Zk2 (p:=p) (q:=q) (λu hu=>hp u (.tail _ hu)) (λu hu=>hq u (.tail _ hu));unfold Zhf;by_cases h:cmpT s t=0
   ·rw [if_neg (by simpa using h),h2,h1.1 h];simp
   ·rw [if_pos h];constructor
    ·intro h3;exact absurd h3 h
    ·intro h3;cases h3;exact absurd (h1.2 rfl) h
theorem Zt5 {p q:Po} {i:Nat} (h:p.length≤i∨q.length≤i):Zhf (p.drop i) (q.drop i)=if (p.drop i).length < (q.drop i).length then -1 else if (q.drop i).length < (p.drop i).length then 1 else 0:=by
 rcases h with h | h
 ·rw [List.drop_eq_nil_of_le h];cases q.drop i<;>simp [Zhf]
 ·rw [List.drop_eq_nil_of_le h];cases p.drop i<;>simp [Zhf]
theorem rpCmp (p q:Po) {j k e f:Nat} (hp:PK p j e) (hq:PK q k f) (lp:p.length≤1000000) (lq:q.length≤1000000) (hj:j≤2000000) (hk:k≤2000000) (he:e≤16777216) (hf:f≤16777216) :
 Pure Tryz.prog 37 [poA p,poA q] (iv (Zhf p q)):=by
 refine Zaa (tok:=0) Tryz.func37 rfl Tryz.ntmps37 Tryz.results37 Tryz.call37 (by rfl) (by simp) ?_;(focus (refine wkad (w_1 @Za4) w_t w_t ?_;(repeat' first|exact w_t|apply w_l);all_goals intros));refine Zag (ι:=Nat) (λi e m=>i≤p.length∧i≤q.length∧e 0=poA p∧e 1=poA q∧e 5=iv i∧Zhf p q=Zhf (p.drop i) (q.drop i)) (λi=>p.length - i) 0 (by rfl) ?_ ?_
 ·rintro i e m ⟨hi,hl,e0,e1,e5,hs⟩
  by_cases hil:i < p.length∧i < q.length
  ·obtain⟨hi2,hl2⟩:=hil;have hg:=Zbb tmA hi2;have hh:=Zbb tmA hl2;have cl:=rpLex p[i].2 q[i].2 (hp.sm he (List.getElem_mem hi2)) (hq.sm hf (List.getElem_mem hl2));have cq:=qCmp p[i].1 q[i].1 (hp _ (List.getElem_mem hi2)).1 (hq _ (List.getElem_mem hl2)).1 (by omega) (by omega);rw [List.drop_eq_getElem_cons hi2,List.drop_eq_getElem_cons hl2,Zhf,cmpT] at hs;generalize p[i]=s at *;generalize q[i]=t at *;obtain⟨s1,s2⟩:=s;obtain⟨t1,t2⟩:=t;simp only at *;generalize lexC s2 t2 (max s2.length t2.length)=x at *;generalize cmpQ s1 t1=y at *;by_cases hx:x=0
   ·rw [if_neg (show ¬x≠0 by omega)] at hs;by_cases hy:y=0
    ·rw [if_neg (by omega)] at hs;(focus (refine wkad (w_6 e0 e1 e5 hg hh @Za4) (w_2 cl cq) (w_2 (w_d 4 [(10,iv x)] [] []) (w_d 7 [(10,iv y)] [] [])) ?_;(repeat' first|exact w_t|apply w_l);all_goals intros));exact⟨i+1,⟨by omega,by omega,by exact gW e0,by exact gW e1,by exact gS,hs⟩,by omega⟩
    ·rw [if_pos hy] at hs;rw [hs];(focus (refine wkld (w_6 e0 e1 e5 hg hh @Za4) (w_2 cl cq) w_t (w_2 (w_d 4 [(10,iv x)] [] []) (w_d 7 [(10,iv y)] [] [])) ?_;(repeat' first|exact w_t|apply w_l);all_goals intros))
   ·rw [if_pos hx,if_pos hx] at hs;rw [hs];(focus (refine wkld (w_6 e0 e1 e5 hg hh @Za4) (w_1 cl) w_t (w_1 (w_d 4 [(10,iv x)] [] [])) ?_;(repeat' first|exact w_t|apply w_l);all_goals intros))
  ·rw [Zt5 (by omega),List.length_drop,List.length_drop] at hs;rw [hs];(focus (refine wkld (w_4 e0 e1 e5 @Za4) w_t w_t w_t ?_;(repeat' first|exact w_t|apply w_l);all_goals intros))
 ·exact⟨Nat.zero_le _,Nat.zero_le _,by exact gC,by exact gC,by exact gC,by simp⟩
theorem Zsg (p q:Po) {j k e f:Nat} (hp:PK p j e) (hq:PK q k f) (dp:∀t∈p,Can t.2) (dq:∀t∈q,Can t.2) (lp:p.length≤1000000) (lq:q.length≤1000000) (hj:j≤2000000) (hk:k≤2000000) (he:e≤16777216) (hf:f≤16777216) :
 Pure Tryz.prog 11 [poA p,poA q] (.v (.bool (decide (p=q)))):=by
 have c:=rpCmp p q hp hq lp lq hj hk he hf;have h:=Zk2 dp dq;rw [show decide (p=q)=decide (Zhf p q=0) from by rw [Bool.eq_iff_iff,decide_eq_true_eq,decide_eq_true_eq,h]];generalize Zhf p q=z at *;clear h;refine Zaa (tok:=0) Tryz.func11 rfl Tryz.ntmps11 Tryz.results11 Tryz.call11 (by rfl) (by simp) ?_;(focus (refine wklp w_t (w_1 c) w_t (w_r 0) ?_;(repeat' first|exact w_t|apply w_l);all_goals intros))
theorem can_last {l:List Int} (h:Can l):(l.getLast?.getD 1 == 0)=false:=by
 rcases h.2 with h0 | h0
 ·have:l=[]:=List.length_eq_zero_iff.1 h0;subst this;rfl
 ·by_cases hl:l.length=0
  ·have:l=[]:=List.length_eq_zero_iff.1 hl;subst this;rfl
  ·rw [Zea (by omega)];simpa using h0
theorem Zsi {l:List Int} (h:Can l) (hl:l.length≤64) (he:∀j,gI l j≤1048576):Zb8 l=true:=by
 rw [Zlh hl (can_last h),List.all_eq_true];intro x hx;obtain⟨j,hj,rfl⟩:=List.mem_iff_getElem.1 hx;have h1:=h.1 j;have h2:=he j;rw [Zfr hj] at h1 h2;unfold Zfz;simp;omega
theorem rq_ok (q:Rat):RQ.ok ⟨decide (q.num < 0),toL q.num.natAbs,toL q.den⟩=true:=by
 have v:∀n,valL (toL n)=true:=λn=>(Ziq (Zau n)).2 (by rw [Zat]);unfold RQ.ok RQ.zok;simp only [v,Zat,Bool.true_and,Bool.and_true];have h1:(Nat.gcd q.num.natAbs q.den == 1)=true:=by rw [beq_iff_eq];exact q.reduced
 have h2:decide (0 < (toL q.den).length)=true:=decide_eq_true (Zbo.2 q.den_pos);rw [h1,h2,Bool.and_true,Bool.and_true];by_cases h:q.num < 0
 ·have:(toL q.num.natAbs).length≠0:=by have:=Zbo.2 (show 0 < q.num.natAbs by omega);omega
  simp [this]
 ·simp [h]
structure PB (p:Po) (n j e:Nat):Prop where
 s:SrtM p
 k:PK p j e
 l:p.length≤n
theorem PB.mono {p:Po} {n j e m i f:Nat} (h:PB p n j e) (hn:n≤m) (hj:j≤i) (he:e≤f):PB p m i f:=⟨h.s,h.k.mono hj he,Nat.le_trans h.l hn⟩
theorem PB.nil {n j e:Nat}:PB [] n j e:=⟨.nil,.nil,Nat.zero_le _⟩
theorem PB.add {p q:Po} {n j e m k f:Nat} (h:PB p n j e) (g:PB q m k f):PB (addM p q) (n+m) (j+k+1) (max e f) :=
 ⟨Zd8 ordM h.s g.s,(h.k.mono (Nat.le_refl _) (Nat.le_max_left ..)).add (g.k.mono (Nat.le_refl _) (Nat.le_max_right ..)),Nat.le_trans (Ziy p q) (Nat.add_le_add h.l g.l)⟩
theorem PB.neg {p:Po} {n j e:Nat} (h:PB p n j e):PB (Zbg (-1) p) n j e:=⟨Zei h.s neg1,h.k.neg,by rw [Zhl];exact h.l⟩
theorem PB.sub {p q:Po} {n j e m k f:Nat} (h:PB p n j e) (g:PB q m k f):PB (subM p q) (n+m) (j+k+1) (max e f):=h.add g.neg
theorem PB.times {p:Po} {t:Tm} {n j e k f:Nat} (h:PB p n j e) (ht:PK [t] k f) (h0:t.1≠0) (hd:Can t.2):PB (Zao mulM p t) n (j+k) (e+f) :=
 ⟨Zds mulK h.s h0 hd,h.k.times ht,by rw [Zfb];exact h.l⟩
theorem PB.take {q:Po} {m k f:Nat} (g:PB q m k f) (i:Nat):PB (q.take i) m k f :=
 ⟨Zpz g.s i,λt ht=>g.k t (List.mem_of_mem_take ht),by rw [List.length_take];have:=g.l;omega⟩
theorem PB.one {q:Po} {m k f:Nat} (g:PB q m k f) {t:Tm} (ht:t∈q):PK [t] k f:=λu hu=>by rw [List.mem_singleton] at hu;subst hu;exact g.k _ ht
theorem Zo8 {p q:Po} {n j e m k f:Nat} (h:PB p n j e) (g:PB q m k f):∀i,i≤q.length→PB (mlM p (q.take i)) (n*i) (i*(j+k+1)) (e+f)
 | 0,_=>by rw [List.take_zero];exact .nil
 | i+1,hi=>by
   rw [Zjn hi];have h1:=Zo8 h g i (by omega);have h2:=h.times (g.one (List.getElem_mem hi)) (g.s.1 _ (List.getElem_mem hi)).1 (g.s.1 _ (List.getElem_mem hi)).2;refine(h1.add h2).mono ?_ ?_ ?_
   ·rw [Nat.mul_succ];omega
   ·rw [Nat.succ_mul];omega
   ·omega
theorem Zo9 {p q:Po} {n j e m k f:Nat} (h:PB p n j e) (g:PB q m k f) (i:Nat):PB (mlM p (q.take i)) (n*m) (m*(j+k+1)) (e+f):=by
 by_cases hi:i≤q.length
 ·have hm:=g.l;exact(Zo8 h g i hi).mono (Nat.mul_le_mul_left _ (by omega)) (Nat.mul_le_mul_right _ (by omega)) (Nat.le_refl _)
 ·rw [List.take_of_length_le (by omega)];have:=Zo8 h g q.length (Nat.le_refl _);rw [List.take_length] at this;exact this.mono (Nat.mul_le_mul_left _ g.l) (Nat.mul_le_mul_right _ g.l) (Nat.le_refl _)
theorem PB.mul {p q:Po} {n j e m k f:Nat} (h:PB p n j e) (g:PB q m k f):PB (mlM p q) (n*m) (m*(j+k+1)) (e+f):=by
 have:=Zo9 h g q.length
 rwa [List.take_length] at this
theorem Zr9 {s e n:Nat} (l:List Po) (h:∀p∈l,PB p n s e):PB (sumH ltM l) (l.length*n) (l.length*(s+1) - 1) e:=by
 fun_induction sumH ltM l with
 | case1=>exact .nil
 | case2 p=>exact(h p (.head _)).mono (by simp) (by simp) (Nat.le_refl _)
 | case3 p q l ih1 ih2 =>
   have h1:=ih1 λu hu=>h u (List.mem_of_mem_take hu);have h2:=ih2 λu hu=>h u (List.mem_of_mem_drop hu);rw [List.length_take] at h1;rw [List.length_drop] at h2;have hL:2≤(p :: q :: l).length:=by simp
   generalize (p :: q :: l).length=L at *;rw [Nat.min_eq_left (by omega)] at h1;have e1:L/2+(L - L/2)=L:=by omega
   have a1:1≤L/2*(s+1):=Nat.le_trans (by omega) (Nat.le_mul_of_pos_right (L/2) (show 0 < s+1 by omega));have a2:1≤(L - L/2)*(s+1):=Nat.le_trans (show 1≤L - L/2 by omega) (Nat.le_mul_of_pos_right (L - L/2) (show 0 < s+1 by omega));refine(h1.add h2).mono ?_ ?_ (by omega)
   ·rw [←Nat.add_mul,e1];exact Nat.le_refl _
   ·have e2:L/2*(s+1)+(L - L/2)*(s+1)=L*(s+1):=by rw [←Nat.add_mul,e1]
    omega
theorem sum_ok {s e n N:Nat} (l:List Po) (h:∀p∈l,PB p n s e) (hN:l.length≤N) (hb:N*n≤1000000):SumOk l (N*(s+1)) e:=λa b=>by
 have h1:∀p∈(l.drop a).take b,PB p n s e:=λp hp=>h p (List.mem_of_mem_drop (List.mem_of_mem_take hp));have h2:=Zr9 _ h1;have h3:((l.drop a).take b).length≤N:=by rw [List.length_take,List.length_drop];omega
 refine⟨h2.k.mono ?_ (Nat.le_refl _),Nat.le_trans h2.l (Nat.le_trans (Nat.mul_le_mul_right _ h3) hb)⟩;have:=Nat.mul_le_mul_right (s+1) h3;omega
theorem parts_ok {p q:Po} {n j e m k f:Nat} (h:PB p n j e) (g:PB q m k f) (hn:n*m≤1000000):SumOk (Zjd p q) (min n m*(j+k+1)) (e+f):=by
 unfold Zjd;have l1:=h.l;have l2:=g.l;split
 ·rename_i hlt;have:=sum_ok (q.map λt=>Zao mulM p t) (n:=p.length) (s:=j+k) (e:=e+f) (N:=q.length) (λu hu=>by
   obtain⟨t,ht,rfl⟩:=List.mem_map.1 hu;have h':PB p p.length j e:=⟨h.s,h.k,Nat.le_refl _⟩;exact h'.times (g.one ht) (g.s.1 t ht).1 (g.s.1 t ht).2) (by rw [List.length_map];exact Nat.le_refl _) (by rw [Nat.mul_comm];exact Nat.le_trans (Nat.mul_le_mul l1 l2) hn)
  exact λa b=>⟨(this a b).1.mono (Nat.mul_le_mul_right _ (by omega)) (Nat.le_refl _),(this a b).2⟩
 ·rename_i hlt;have:=sum_ok (p.map λt=>Zao mulM q t) (n:=q.length) (s:=k+j) (e:=f+e) (N:=p.length) (λu hu=>by
   obtain⟨t,ht,rfl⟩:=List.mem_map.1 hu;have h':PB q q.length k f:=⟨g.s,g.k,Nat.le_refl _⟩;exact h'.times (h.one ht) (h.s.1 t ht).1 (h.s.1 t ht).2) (by rw [List.length_map];exact Nat.le_refl _) (Nat.le_trans (Nat.mul_le_mul l1 l2) hn)
  refine λa b=>⟨(this a b).1.mono ?_ (by omega),(this a b).2⟩;rw [Nat.add_comm k j];exact Nat.mul_le_mul_right _ (by omega)
theorem hpAdd {p q:Po} {n j e m k f:Nat} (h:PB p n j e) (g:PB q m k f) (hn:n≤1000000) (hm:m≤1000000) (hj:j≤1000000) (hk:k≤1000000) (he:e≤100) (hf:f≤100) :
 Pure Tryz.prog 16 [poA p,poA q] (poA (addM p q))∧Pure Tryz.prog 25 [poA p,poA q] (poA (addM p q)) :=
 have l1:=h.l;have l2:=g.l
 ⟨poAdd p q (h.k.mono (Nat.le_refl _) he) (g.k.mono (Nat.le_refl _) hf) h.s g.s (by omega) (by omega) hj hk (by omega),rpAdd p q (h.k.mono (Nat.le_refl _) he) (g.k.mono (Nat.le_refl _) hf) h.s g.s (by omega) (by omega) hj hk (by omega)⟩
theorem hpSub {p q:Po} {n j e m k f:Nat} (h:PB p n j e) (g:PB q m k f) (hn:n≤1000000) (hm:m≤1000000) (hj:j≤1000000) (hk:k≤1000000) (he:e≤100) (hf:f≤100) :
 Pure Tryz.prog 31 [poA p,poA q] (poA (subM p q))∧Pure Tryz.prog 24 [poA p,poA q] (poA (subM p q)) :=
 have l1:=h.l;have l2:=g.l
 ⟨poSub p q (h.k.mono (Nat.le_refl _) he) (g.k.mono (Nat.le_refl _) hf) h.s g.s (by omega) (by omega) hj hk (by omega),rpSub p q (h.k.mono (Nat.le_refl _) he) (g.k.mono (Nat.le_refl _) hf) h.s g.s (by omega) (by omega) hj hk (by omega)⟩
theorem hpMul {p q:Po} {n j e m k f:Nat} (h:PB p n j e) (g:PB q m k f) (hn:n≤1000000) (hm:m≤1000000) (hj:j≤500000) (hk:k≤500000) (he:e≤100) (hf:f≤100) (hnm:n*m≤1000000) (hK:min n m*(j+k+1)≤1000000) (hR:m*(j+k+1)≤1000000) :
 Pure Tryz.prog 17 [poA p,poA q] (poA (mlM p q))∧Pure Tryz.prog 27 [poA p,poA q] (poA (mlM p q)) :=
 have l1:=h.l;have l2:=g.l
 ⟨poMul p q h.k g.k h.s g.s (by omega) (by omega) (by omega) (by omega) (by omega) (by omega) (parts_ok h g hnm) hK (by omega),
  rpMul p q h.k g.k h.s g.s (by omega) (by omega) hj hk (by omega) (by omega) (λi=>⟨(Zo9 h g i).k,Nat.le_trans (Zo9 h g i).l hnm⟩) hR (by omega)⟩
end Go.Proofs.YtimmnimikmnljaaGreat
namespace Go.Proofs.YtimmnimikmnljaaGreat
open Go Go.RowKit Go.Pg Go.Pol
theorem CQ.mono {p:Po} {D B E C:Nat} (h:CQ p D B) (hd:D ∣ E) (hb:B≤C):CQ p E C:=λt ht=>(h t ht).mono hd hb
theorem CQ.nil {D B:Nat}:CQ [] D B:=λt ht=>absurd ht (by simp)
theorem CQ.add {p q:Po} {D B C:Nat} (h:CQ p D B) (g:CQ q D C):CQ (addM p q) D (B+C):=by
 intro t ht;rcases Zht ht with h1 | h1 | ⟨s,hs,u,hu,rfl⟩
 ·exact(h t h1).mono (Nat.dvd_refl _) (by omega)
 ·exact(g t h1).mono (Nat.dvd_refl _) (by omega)
 ·exact(h s hs).add (g u hu)
theorem CQ.times {p:Po} {t:Tm} {D B E C:Nat} (h:CQ p D B) (g:BQ E C t.1):CQ (Zao mulM p t) (D*E) (B*C):=λu hu=>by
 obtain⟨s,hs,rfl⟩:=List.mem_map.1 hu;exact(h s hs).mul g
theorem Zt1 {p q:Po} {D B E C:Nat} (h:CQ p D B) (g:CQ q E C):∀i,i≤q.length→CQ (mlM p (q.take i)) (D*E) (i*(B*C))
 | 0,_=>by rw [List.take_zero];exact .nil
 | i+1,hi=>by
   rw [Zjn hi,Nat.succ_mul];exact(Zt1 h g i (by omega)).add (h.times (g _ (List.getElem_mem hi)))
theorem CQ.mul {p q:Po} {D B E C m:Nat} (h:CQ p D B) (g:CQ q E C) (hm:q.length≤m):CQ (mlM p q) (D*E) (m*(B*C)):=by
 have:=Zt1 h g q.length (Nat.le_refl _);rw [List.take_length] at this;exact this.mono (Nat.dvd_refl _) (Nat.mul_le_mul_right _ hm)
theorem cq_sumH {D B:Nat} (l:List Po) (h:∀p∈l,CQ p D B):CQ (sumH ltM l) D (l.length*B):=by
 fun_induction sumH ltM l with
 | case1=>exact .nil
 | case2 p=>exact(h p (.head _)).mono (Nat.dvd_refl _) (by simp)
 | case3 p q l ih1 ih2 =>
   have h1:=ih1 λu hu=>h u (List.mem_of_mem_take hu);have h2:=ih2 λu hu=>h u (List.mem_of_mem_drop hu);rw [List.length_take] at h1;rw [List.length_drop] at h2;have hL:2≤(p :: q :: l).length:=by simp
   generalize (p :: q :: l).length=L at *;rw [Nat.min_eq_left (by omega)] at h1;refine(h1.add h2).mono (Nat.dvd_refl _) ?_;rw [←Nat.add_mul,show L/2+(L - L/2)=L by omega];exact Nat.le_refl _
theorem cq_pk {p:Po} {D B n j e k:Nat} (h:CQ p D B) (g:PB p n j e) (h0:0 < D) (hB:0 < B) (hk:B*D < 65536 ^ k):PK p k e:=λt ht=>by
 have:1*D≤B*D:=Nat.mul_le_mul_right _ hB;exact⟨BQ.szk (h t ht) h0 (by omega) hk,(g.k t ht).2⟩
theorem parts_cq {p q:Po} {D B E C n j e j' e' m N k:Nat} (hp:PB p n j e) (hq:PB q m j' e') (cp:CQ p D B) (cq:CQ q E C) (hm:m≤N) (hn:N*n≤1000000) (hN:N*N≤1000000) (h0:0 < D*E) (hB:0 < B*C) (hk:N*(B*C)*(D*E) < 65536 ^ k) (hN0:0 < N):SumOk (Zjd p q) k (e+e'):=by
 have l1:=hp.l;have l2:=hq.l;have key:∀(l:List Po) (i j2:Nat),l.length≤N→N*i≤1000000→(∀u∈l,PB u i j2 (e+e')∧CQ u (D*E) (B*C))→SumOk l k (e+e'):=λl i j2 hl hi h a b=>by
  have hm:∀u∈(l.drop a).take b,PB u i j2 (e+e')∧CQ u (D*E) (B*C):=λu hu=>h u (List.mem_of_mem_drop (List.mem_of_mem_take hu));have h1:=Zr9 _ λu hu=>(hm u hu).1;have h2:=cq_sumH _ λu hu=>(hm u hu).2;have h3:((l.drop a).take b).length≤N:=by rw [List.length_take,List.length_drop];omega
  exact⟨cq_pk (h2.mono (Nat.dvd_refl _) (Nat.mul_le_mul_right _ h3)) h1 h0 (Nat.mul_pos hN0 hB) hk,Nat.le_trans h1.l (Nat.le_trans (Nat.mul_le_mul_right _ h3) hi)⟩
 unfold Zjd;split
 ·rename_i hlt;refine key _ n (j+j') (by rw [List.length_map];omega) hn λu hu=>?_;obtain⟨t,ht,rfl⟩:=List.mem_map.1 hu;exact⟨hp.times (hq.one ht) (hq.s.1 t ht).1 (hq.s.1 t ht).2,cp.times (cq t ht)⟩
 ·rename_i hlt;refine key _ N (j'+j) (by rw [List.length_map];omega) hN λu hu=>?_;obtain⟨t,ht,rfl⟩:=List.mem_map.1 hu;refine⟨((hq.times (hp.one ht) (hp.s.1 t ht).1 (hp.s.1 t ht).2)).mono hm (Nat.le_refl _) (by omega),?_⟩;rw [Nat.mul_comm D,Nat.mul_comm B];exact cq.times (cp t ht)
def smE (qs bs:List Po) (r:Po):Nat→Po
 | 0=>r
 | i+1=>addM (smE qs bs r i) (mlM (qs.getD i []) (bs.getD i []))
theorem BO.pb {b:Po} (h:BO b):PB b 4 1 2:=⟨h.s,λt ht=>⟨h.z t ht,by have:=(h.x t ht).1;omega,λj=>⟨(h.s.dom t ht).1 j,by
 have h1:=dg3 (h.x t ht).1;have h2:=(h.x t ht).2;have c0:=(h.s.dom t ht).1 0;have c1:=(h.s.dom t ht).1 1;have c2:=(h.s.dom t ht).1 2
 match j with
 | 0=>omega
 | 1=>omega
 | 2=>omega
 | j+3=>rw [Zbi (by have:=(h.x t ht).1;omega)];omega⟩⟩,h.l⟩
theorem Zn3:∀(bs:List Po),(∀b∈bs,BO b)→∃E,0 < E∧E≤65536 ^ (4*bs.length)∧∀b∈bs,CQ b E 65536
 | [],_=>⟨1,by omega,Nat.le_refl _,λb h=>absurd h (by simp)⟩
 | b :: bs,h=>by
   obtain⟨E,h1,h2,h3⟩:=Zn3 bs λc hc=>h c (.tail _ hc);have hb:=h b (.head _);obtain⟨D,g1,g2,g3⟩:=Zme b hb.z;have g2:D≤65536 ^ 4:=Nat.le_trans g2 (Nat.pow_le_pow_right (by omega) (by have:=hb.l;omega));refine⟨E*D,Nat.mul_pos h1 g1,?_,λc hc=>?_⟩
   ·rw [List.length_cons,Nat.mul_succ,Nat.pow_add];exact Nat.mul_le_mul h2 g2
   ·rcases List.mem_cons.1 hc with rfl | hc
    ·exact λt ht=>(g3 t ht).mono (Nat.dvd_mul_left _ _) (by rw [Nat.pow_one];exact Nat.le_refl _)
    ·exact(h3 c hc).mono (Nat.dvd_mul_right _ _) (Nat.le_refl _)
theorem Zgc {bs:List Po} {i:Nat} (hi:i < bs.length):bs.getD i []∈bs:=by
 rw [List.getD_eq_getElem?_getD,List.getElem?_eq_getElem hi];exact List.getElem_mem hi
theorem smE_ok {o:Int} {bs:List Po} {k:Nat} {s:DS} (hb:∀b∈bs,BO b) (hl:bs.length≤4) (h:DI o bs k s) (hk:k≤20809) {K:Nat} (hK:170000≤K):∀i,i≤bs.length →
 (∃j,PB (smE s.q bs s.r i) (k+i*(k*4)) j 18)∧PK (smE s.q bs s.r i) K 18 ∧
 (i < bs.length→PB (s.q.getD i []) k (10+8*k) 16∧SumOk (Zjd (s.q.getD i []) (bs.getD i [])) K 18∧(∃j,PB (mlM (s.q.getD i []) (bs.getD i [])) (k*4) j 18)∧PK (mlM (s.q.getD i []) (bs.getD i [])) K 18):=by
 obtain⟨D,d1,d2,d3,d4,d5⟩:=h.c;obtain⟨E,e1,e2,e3⟩:=Zn3 bs hb;have e2:E≤65536 ^ 16:=Nat.le_trans e2 (Nat.pow_le_pow_right (by omega) (by omega));have hDE:0 < D*E:=Nat.mul_pos d1 e1;have hDE2:D*E≤65536 ^ (8+5*k+16):=by rw [Nat.pow_add];exact Nat.mul_le_mul d2 e2
 have hX:0 < 65536 ^ (1+3*k):=Nat.pow_pos (by omega);have big:∀c,c≤65536→(c*(65536 ^ (1+3*k)*65536))*(D*E) < 65536 ^ K:=λc hc=>by
  have h1:c*(65536 ^ (1+3*k)*65536)≤65536 ^ (1+3*k+2):=by
   rw [Nat.pow_add 65536 (1+3*k) 2];generalize 65536 ^ (1+3*k)=X;have:c*(X*65536)≤65536*(X*65536):=Nat.mul_le_mul_right _ hc;have e:(65536:Nat) ^ 2=4294967296:=by decide
   rw [e];omega
  refine Nat.lt_of_le_of_lt (Nat.mul_le_mul h1 hDE2) ?_;rw [←Nat.pow_add];exact Nat.pow_lt_pow_right (by omega) (by omega)
 have bc:∀i,i < bs.length→PB (s.q.getD i []) k (10+8*k) 16∧CQ (s.q.getD i []) D (65536 ^ (1+3*k))∧PB (bs.getD i []) 4 1 2∧CQ (bs.getD i []) E 65536:=λi hi =>
  ⟨⟨(h.pq hi).1,(h.pq hi).2.1,(h.pq hi).2.2⟩,(d4 i hi).z,(hb _ (Zgc hi)).pb,e3 _ (Zgc hi)⟩
 have prod:∀i,i < bs.length→PB (mlM (s.q.getD i []) (bs.getD i [])) (k*4) (4*(10+8*k+1+1)) 18∧CQ (mlM (s.q.getD i []) (bs.getD i [])) (D*E) (4*(65536 ^ (1+3*k)*65536)):=λi hi=>by
  obtain⟨b1,b2,b3,b4⟩:=bc i hi;exact⟨b1.mul b3,b2.mul b4 b3.l⟩
 have sums:∀i,i≤bs.length→(∃j,PB (smE s.q bs s.r i) (k+i*(k*4)) j 18)∧CQ (smE s.q bs s.r i) (D*E) ((1+i*4)*(65536 ^ (1+3*k)*65536)):=by
  intro i
  induction i with
  | zero =>
    intro _;obtain⟨r1,r2,r3⟩:=h.pr;refine⟨⟨10+8*k,(show PB s.r k (10+8*k) 16 from⟨r1,r2,r3⟩).mono (by omega) (Nat.le_refl _) (by omega)⟩,d5.z.mono (Nat.dvd_mul_right _ _) ?_⟩;generalize 65536 ^ (1+3*k)=X;omega
  | succ i ih =>
    intro hi;obtain⟨⟨j,s1⟩,s2⟩:=ih (by omega);obtain⟨p1,p2⟩:=prod i (by omega);refine⟨⟨_,(s1.add p1).mono (by rw [Nat.succ_mul];omega) (Nat.le_refl _) (by omega)⟩,(s2.add p2).mono (Nat.dvd_refl _) ?_⟩;rw [←Nat.add_mul];exact Nat.mul_le_mul_right _ (by omega)
 intro i hi;obtain⟨⟨j,s1⟩,s2⟩:=sums i hi;refine⟨⟨j,s1⟩,cq_pk s2 s1 hDE (Nat.mul_pos (by omega) (Nat.mul_pos hX (by omega))) (big _ (by omega)),λhi=>?_⟩;obtain⟨b1,b2,b3,b4⟩:=bc i hi;obtain⟨p1,p2⟩:=prod i hi;exact⟨b1,parts_cq b1 b3 b2 b4 (Nat.le_refl _) (by omega) (by omega) hDE (Nat.mul_pos hX (by omega)) (big 4 (by omega)) (by omega),⟨_,p1⟩,cq_pk p2 p1 hDE (Nat.mul_pos (by omega) (Nat.mul_pos hX (by omega))) (big 4 (by omega))⟩
theorem Zof {o:Int} {bs:List Po} {k:Nat} {s:DS} (hb:∀b∈bs,BO b) (h:DI o bs k s) (x:List Int):∀i,i≤bs.length→SrtM (smE s.q bs s.r i)∧cof (smE s.q bs s.r i) x+cofS x (bs.drop i) (s.q.drop i)=cof s.r x+cofS x bs s.q
 | 0,_=>⟨h.pr.1,rfl⟩
 | i+1,hi=>by
   obtain⟨h1,h2⟩:=Zof hb h x i (by omega);have hq:=(h.pq (i:=i) (by omega)).1;have hB:=(hb _ (Zgc (i:=i) (by omega))).s;have hm:=Zgp ordM mulK hq hB;refine⟨Zd8 ordM h1 hm,?_⟩;rw [←h2];show cof (addP ltM (smE s.q bs s.r i) (mulR ltM mulM (s.q.getD i []) (bs.getD i []))) x+_=_;rw [Zgu ordM x h1.dom hm.dom,Zit ordM mulK hq hB,Zn4 mulK.comm];have lb:i < bs.length:=by omega
   have lq:i < s.q.length:=by rw [h.lq];omega
   have db:bs.drop i=bs.getD i [] :: bs.drop (i+1):=by rw [List.drop_eq_getElem_cons lb,List.getD_eq_getElem?_getD,List.getElem?_eq_getElem lb];rfl
   have dq:s.q.drop i=s.q.getD i [] :: s.q.drop (i+1):=by rw [List.drop_eq_getElem_cons lq,List.getD_eq_getElem?_getD,List.getElem?_eq_getElem lq];rfl
   rw [db,dq];show _=_+(cofM mulM (bs.getD i []) (s.q.getD i []) x+cofS x (bs.drop (i+1)) (s.q.drop (i+1)));rw [Rat.add_assoc]
theorem smE_all {o:Int} {bs:List Po} {k:Nat} {s:DS} {p:Po} (hb:∀b∈bs,BO b) (h:DI o bs k s) (hp:SrtM p) (h0:s.p=[]) (ht:∀x,totO bs s x=cof p x):smE s.q bs s.r bs.length=p :=
 Zle ordM (Zof hb h [] bs.length (Nat.le_refl _)).1 hp λx=>by
  obtain⟨_,h2⟩:=Zof hb h x bs.length (Nat.le_refl _);have:=ht x;unfold totO at this;rw [h0] at this;rw [←this];have e:cofS x (bs.drop bs.length) (s.q.drop bs.length)=0:=by rw [List.drop_length];rfl
  rw [e,Rat.add_zero] at h2;rw [h2];show _=0+cofS x bs s.q+cof s.r x;rw [Rat.zero_add,Rat.add_comm]
end Go.Proofs.YtimmnimikmnljaaGreat
namespace Go.Proofs.YtimmnimikmnljaaGreat
open Go Go.RowKit Go.Pg Go.Pol
attribute [-bool_to_prop] Bool.and_eq_decide Bool.or_eq_decide Bool.decide_beq_decide decide_eq_decide
attribute [local go_sem] Tryz.underlying3 Tryz.underlying4 Tryz.underlying44 Tryz.underlying42 Tryz.underlying40 Tryz.underlying48 Tryz.underlying22 Tryz.underlying46 Tryz.underlying23 Tryz.underlying45 sz3 by3 z3 szB zB Zcd zRat Zcf zInt Zce zNat Zbq Zbt Zcs Zbs Zbv Zcu Zbr Zbu Zct
theorem big_pk {p:Po} {k e:Nat} (h:PK p k e) (he:e≤1048576):bigP p=decide (4000 < p.length):=by
 unfold bigP
 have:(p.any λt=>t.2.any λx=>decide (1048576 < x))=false:=by
  rw [List.any_eq_false];intro t ht;rw [Bool.not_eq_true,List.any_eq_false];intro x hx;obtain⟨j,hj,rfl⟩:=List.mem_iff_getElem.1 hx;have:=((h t ht).2.2 j).2;rw [Zfr hj] at this;simp;omega
 rw [this,Bool.or_false]
theorem grOne (x:Int) (h:x≤1048576):Pure Tryz.prog 69 [.v (.int .i64 x)] (.v (.bool false)):=by
 refine Zaa (tok:=0) Tryz.func69 rfl Tryz.ntmps69 Tryz.results69 Tryz.call69 (by rfl) (by simp) ?_;(focus (refine wkld w_t w_t w_t w_t ?_;(repeat' first|exact w_t|apply w_l);all_goals intros))
theorem grIdx (m:List Int) (hl:m.length≤1000) (h:∀j,gI m j≤1048576):Pure Tryz.prog 118 [ints m,.fn 69 []] (.v (.int .i64 (-1))):=by
 unfold ints;refine Zaa (tok:=0) Tryz.func118 rfl Tryz.ntmps118 Tryz.results118 Tryz.call118 (by rfl) (by simp) ?_;(focus (refine wkad w_t w_t w_t ?_;(repeat' first|exact w_t|apply w_l);all_goals intros));refine Zag (ι:=Nat) (λk e' m'=>k≤m.length∧e' 0=.sl 1 (m.map λn=>AV.v (.int .i64 n))∧e' 1=.fn 69 []∧e' 7=iv m.length∧e' 8=iv k) (λk=>m.length - k) 0 (by rfl) ?_ ?_
 ·rintro k e' m' ⟨hk,e0,e1,e7,e8⟩
  by_cases hlt:k < m.length
  ·have c:=grOne (gI m k) (h k);(focus (refine wkad (w_4 e0 e1 e7 e8) (w_1 c) w_t ?_;(repeat' first|exact w_t|apply w_l);all_goals intros));exact⟨k+1,⟨by omega,by exact gW e0,by exact gW e1,by exact gW e7,by exact gS⟩,by omega⟩
  ·(focus (refine wkld (w_4 e0 e1 e7 e8) w_t w_t w_t ?_;(repeat' first|exact w_t|apply w_l);all_goals intros))
 ·exact⟨Nat.zero_le _,by exact gC,by exact gC,by exact gC,by exact gC⟩
theorem grAny (m:List Int) (hl:m.length≤1000) (h:∀j,gI m j≤1048576):Pure Tryz.prog 68 [ints m,.fn 69 []] (.v (.bool false)):=by
 have c:=grIdx m hl h;refine Zaa (tok:=0) Tryz.func68 rfl Tryz.ntmps68 Tryz.results68 Tryz.call68 (by rfl) (by simp) ?_;(focus (refine wkld w_t (w_1 c) w_t w_t ?_;(repeat' first|exact w_t|apply w_l);all_goals intros))
theorem grTm (t:Tm) (hl:t.2.length≤1000) (h:∀j,gI t.2 j≤1048576):Pure Tryz.prog 67 [tmA t] (.v (.bool false)):=by
 obtain⟨q,m⟩:=t;have c:Pure Tryz.prog 68 [ivs m,.fn 69 []] (.v (.bool false)):=grAny m hl h;refine Zaa (tok:=0) Tryz.func67 rfl Tryz.ntmps67 Tryz.results67 Tryz.call67 (by rfl) (by simp) ?_;(focus (refine wkld w_t (w_1 c) w_t w_t ?_;(repeat' first|exact w_t|apply w_l);all_goals intros))
theorem grIdxP (p:Po) {k e:Nat} (hp:PK p k e) (he:e≤1048576) (hl:p.length≤1000000):Pure Tryz.prog 117 [poA p,.fn 67 []] (.v (.int .i64 (-1))):=by
 refine Zaa (tok:=0) Tryz.func117 rfl Tryz.ntmps117 Tryz.results117 Tryz.call117 (by rfl) (by simp) ?_;(focus (refine wkad (w_1 @Za4) w_t w_t ?_;(repeat' first|exact w_t|apply w_l);all_goals intros));refine Zag (ι:=Nat) (λi e' m'=>i≤p.length∧e' 0=poA p∧e' 1=.fn 67 []∧e' 7=iv p.length∧e' 8=iv i) (λi=>p.length - i) 0 (by rfl) ?_ ?_
 ·rintro i e' m' ⟨hi,e0,e1,e7,e8⟩
  by_cases hlt:i < p.length
  ·have hg:=Zbb tmA hlt;have c:=grTm p[i] (hp _ (List.getElem_mem hlt)).2.1 λj=>by have:=(hp _ (List.getElem_mem hlt)).2.2 j;omega
   generalize p[i]=t at *;(focus (refine wkad (w_6 e0 e1 e7 e8 hg @Za4) (w_1 c) w_t ?_;(repeat' first|exact w_t|apply w_l);all_goals intros));exact⟨i+1,⟨by omega,by exact gW e0,by exact gW e1,by exact gW e7,by exact gS⟩,by omega⟩
  ·(focus (refine wkld (w_5 e0 e1 e7 e8 @Za4) w_t w_t w_t ?_;(repeat' first|exact w_t|apply w_l);all_goals intros))
 ·exact⟨Nat.zero_le _,by exact gC,by exact gC,by(simp (disch:=omega) only [go_sem,List.length_map]<;>repeat' first|rfl|refine⟨?_,?_⟩),by exact gC⟩
theorem grAnyP (p:Po) {k e:Nat} (hp:PK p k e) (he:e≤1048576) (hl:p.length≤1000000):Pure Tryz.prog 66 [poA p,.fn 67 []] (.v (.bool false)):=by
 have c:=grIdxP p hp he hl;refine Zaa (tok:=0) Tryz.func66 rfl Tryz.ntmps66 Tryz.results66 Tryz.call66 (by rfl) (by simp) ?_;(focus (refine wkld w_t (w_1 c) w_t w_t ?_;(repeat' first|exact w_t|apply w_l);all_goals intros))
theorem grLarge (p:Po) {k e:Nat} (hp:PK p k e) (he:e≤1048576) (hl:p.length≤1000000):Pure Tryz.prog 29 [poA p] (.v (.bool (bigP p))):=by
 rw [big_pk hp he];have c:=grAnyP p hp he hl;by_cases h:4000 < p.length
 ·rw [decide_eq_true h];refine Zaa (tok:=0) Tryz.func29 rfl Tryz.ntmps29 Tryz.results29 Tryz.call29 (by rfl) (by simp) ?_;(focus (refine wkld (w_1 @Za4) (w_1 c) w_t w_t ?_;(repeat' first|exact w_t|apply w_l);all_goals intros))
 ·rw [decide_eq_false h];refine Zaa (tok:=0) Tryz.func29 rfl Tryz.ntmps29 Tryz.results29 Tryz.call29 (by rfl) (by simp) ?_;(focus (refine wkld (w_1 @Za4) (w_1 c) w_t w_t ?_;(repeat' first|exact w_t|apply w_l);all_goals intros))
theorem rpLarge (p:Po) {k e:Nat} (hp:PK p k e) (he:e≤1048576) (hl:p.length≤1000000):Pure Tryz.prog 33 [poA p] (.v (.bool (bigP p))):=by
 rw [big_pk hp he];refine Zaa (tok:=0) Tryz.func33 rfl Tryz.ntmps33 Tryz.results33 Tryz.call33 (by rfl) (by simp) ?_;(focus (refine wkad w_t w_t w_t ?_;(repeat' first|exact w_t|apply w_l);all_goals intros));refine Zag (ι:=Nat) (λi e' m'=>i≤p.length∧e' 0=poA p∧e' 3=iv i) (λi=>p.length - i) 0 (by rfl) ?_ ?_
 ·rintro i e' m' ⟨hi,e0,e3⟩
  by_cases hlt:i < p.length
  ·have hg:=Zbb tmA hlt;have h1:=(hp _ (List.getElem_mem hlt)).2.1;have h2:=(hp _ (List.getElem_mem hlt)).2.2;generalize p[i]=t at *;obtain⟨q,m⟩:=t;simp only at h1 h2;(focus (refine wkad (w_4 e0 e3 hg @Za4) w_t w_t ?_;(repeat' first|exact w_t|apply w_l);all_goals intros));refine Zag (ι:=Nat) (λv e2 m2=>v≤m.length∧e2 0=poA p∧e2 3=iv i∧e2 4=iv v) (λv=>m.length - v) 0 (by rfl) ?_ ?_
   ·rintro v e2 m2 ⟨hv,f0,f3,f4⟩
    by_cases hv2:v < m.length
    ·have:=h2 v;(focus (refine wkad (w_5 f0 f3 f4 hg @Za4) w_t w_t ?_;(repeat' first|exact w_t|apply w_l);all_goals intros));exact⟨v+1,⟨by omega,by exact gW f0,by exact gW f3,by exact gS⟩,by omega⟩
    ·(focus (refine wkad (w_5 f0 f3 f4 hg @Za4) w_t w_t ?_;(repeat' first|exact w_t|apply w_l);all_goals intros));exact⟨i+1,⟨by omega,by exact gW f0,by exact gS⟩,by omega⟩
   ·exact⟨Nat.zero_le _,by exact gW e0,by exact gW e3,by exact gC⟩
  ·by_cases h:4000 < p.length
   ·rw [decide_eq_true h];(focus (refine wkld (w_3 e0 e3 @Za4) w_t w_t w_t ?_;(repeat' first|exact w_t|apply w_l);all_goals intros))
   ·rw [decide_eq_false h];(focus (refine wkld (w_3 e0 e3 @Za4) w_t w_t w_t ?_;(repeat' first|exact w_t|apply w_l);all_goals intros))
 ·exact⟨Nat.zero_le _,by exact gC,by exact gC⟩
end Go.Proofs.YtimmnimikmnljaaGreat
