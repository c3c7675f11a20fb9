/- Contracts of the functions that the law reaches, and the rules by which they are walked. They say what a call hands back for every input within the bounds that each names; no other condition. -/
import Derived.Test.YtimmnimikmnljaaGreatBp4
set_option linter.unusedSimpArgs false
set_option linter.unusedVariables false
set_option maxRecDepth 20000
set_option maxHeartbeats 16000000
namespace Go.Proofs.YtimmnimikmnljaaGreat
open Go Go.RowKit Go.Pg Go.Pol
attribute [-bool_to_prop] Bool.and_eq_decide Bool.or_eq_decide Bool.decide_beq_decide decide_eq_decide
attribute [local go_sem] Tryz.underlying3 Tryz.underlying4 Tryz.underlying27 Tryz.underlying44 Tryz.underlying42 Tryz.underlying40 Tryz.underlying48 Tryz.underlying22 Tryz.underlying46 Tryz.underlying23 Tryz.underlying24 Tryz.underlying45 sz3 by3 z3 szB zB Zco zRat Zcq zInt Zcp zNat Zb3 Zb8 Zc5 Zb5 Zca Zc7 Zb4 Zb9 Zc6 Zew Ze6 Zhq Zhv zSlE Zev Zhp Zex Ze7 Zhr Tryz.underlying87 Tryz.underlying83 Tryz.underlying120 Tryz.underlying117 Zfw Zit zArr Zfv Zis zMap
def spR (cm:Nat→Nat→Int) (dv:Nat→Nat→Bool) (i:Nat):Nat→Bool
 | 0=>false
 | k+1=>spR cm dv i k || (decide (k≠i) && (dv k i && (decide (cm i k≠0) || decide (k < i))))
def ndR (cm:Nat→Nat→Int) (dv:Nat→Nat→Bool) (ps:List Po):Nat→List Po
 | 0=>[]
 | i+1=>if spR cm dv i ps.length=true then ndR cm dv ps i else ndR cm dv ps i++[ps.getD i []]
theorem Zsi (cm:Nat→Nat→Int) (dv:Nat→Nat→Bool) (ps:List Po):∀i,(ndR cm dv ps i).length≤i
 | 0=>Nat.le_refl _
 | i+1=>by
   have:=Zsi cm dv ps i;unfold ndR;split
   ·omega
   ·rw [List.length_append,List.length_singleton];omega
theorem grNeeded (σ:Mem) (T:Nat) (o:Int) (ps:List Po) (ls:List Tm) (cm:Nat→Nat→Int) (dv:Nat→Nat→Bool) (hps:ps.length≤100) (hls:ls.length=ps.length)
 (c0:Pure Tryz.prog 28 [.sl 1 (ps.map poA),.v (.int .i64 o)] (.tup [.sl 4 (ls.map tmA),.v (.bool true)]))
 (c1:∀i k,i < ps.length→k < ps.length→Pure Tryz.prog 51 [ivs (ls.getD i (0,[])).2,ivs (ls.getD k (0,[])).2,.v (.int .i64 o)] (iv (cm i k))∧Pure Tryz.prog 105 [ivs (ls.getD k (0,[])).2,ivs (ls.getD i (0,[])).2] (.v (.bool (dv k i)))) :
 ACall Tryz.prog 58 [.sl 1 (ps.map poA),.v (.int .i64 o)] σ λr σ'=>∃sv,r=.own T sv∧σ'=upd σ T (some (.row sv 23 1 ((ndR cm dv ps ps.length).map poA) 0)):=by
 refine Zra (args':=[.sl 1 (ps.map poA),.v (.int .i64 o)]) Tryz.func58 rfl Tryz.ntmps58 Tryz.results58 Tryz.call58 (by rfl) (by simp) (.cons (Sub.refl _) (.cons (Sub.refl _) .nil)) ?_;have hL:∀k,lent σ (k+1000)=σ k:=λk=>by unfold lent;rw [if_neg (by omega),Nat.add_sub_cancel]
 generalize lent σ=m0 at *;have hpm:(ps.map poA).length=ps.length:=List.length_map ..;have hpg:∀i,i < ps.length→(ps.map poA).getD i .u=poA (ps.getD i []):=λi hi=>Zs3 hi;have hlm:(ls.map tmA).length=ps.length:=by rw [List.length_map];exact hls
 have hlg:∀i,i < ps.length→(ls.map tmA).getD i .u=.agg [.v (.bool (decide ((ls.getD i (0,[])).1.num < 0))),lim (toL (ls.getD i (0,[])).1.num.natAbs),lim (toL (ls.getD i (0,[])).1.den),ivs (ls.getD i (0,[])).2]:=λi hi=>by
  rw [Zbu tmA (by omega),List.getD_eq_getElem?_getD,List.getElem?_eq_getElem (by omega)];rfl
 generalize hpM:ps.map poA=M at *;generalize ls.map tmA=D at *;(focus (refine wkad (w_1 hpm) (w_1 c0) w_t ?_;(repeat' first|exact w_t|apply w_l);all_goals intros));refine Zfo (Frz.nilOwn (d:=7) 78 1 23 (by exact gC)) ?_;refine Zal (ι:=Nat) (λi e m=>i≤ps.length∧e 0=.sl 1 M∧e 1=.v (.int .i64 o)∧e 5=.sl 4 D∧e 18=.sl 1 M∧e 19=iv ps.length∧e 20=iv i∧(∀k,m (k+1000)=σ k)∧∃sv,e 7=.own 78 sv∧m 78=some (.row sv 23 1 ((ndR cm dv ps i).map poA) 0)) (λi=>ps.length - i) 0 (by rfl) ?_ ?_
 ·rintro i e m ⟨hi,e0,e1,e5,e18,e19,e20,hm,sv,e7,m78⟩
  by_cases hlt:i < ps.length
  ·have G:=Hid.mk hpg;have Gl:=Hid.mk hlg;have G1:=Hid.mk c1;clear hpg hlg c1;(focus (refine wkad (w_10 e0 e1 e5 e18 e19 e20 e7 m78 hpm hlm) w_t w_t ?_;(repeat' first|exact w_t|apply w_l);all_goals intros));refine Zal (ι:=Nat) (λk e m=>k≤ps.length∧e 0=.sl 1 M∧e 1=.v (.int .i64 o)∧e 5=.sl 4 D∧e 18=.sl 1 M∧e 19=iv ps.length∧e 20=iv i∧(∀k,m (k+1000)=σ k)∧e 7=.own 78 sv∧m 78=some (.row sv 23 1 ((ndR cm dv ps i).map poA) 0)∧e 8=iv i∧e 9=.v (.bool (spR cm dv i k))∧e 24=iv ps.length∧e 25=iv k) (λk=>ps.length - k) 0 (by rfl) ?_ ?_
   ·rintro k e m ⟨hk,e0,e1,e5,e18,e19,e20,hm,e7,m78,e8,e9,e24,e25⟩
    by_cases hkl:k < ps.length
    ·have g1:=Gl.h i hlt;have g2:=Gl.h k hkl;obtain⟨p1,p2⟩:=G1.h i k hlt hkl;have hst:spR cm dv i (k+1)=(spR cm dv i k || (decide (k≠i) && (dv k i && (decide (cm i k≠0) || decide (k < i))))):=rfl;generalize ls.getD i (0,[])=t at *;generalize ls.getD k (0,[])=u at *;obtain⟨t1,t2⟩:=t;obtain⟨u1,u2⟩:=u;simp only at p1 p2 g1 g2;generalize hs1:spR cm dv i (k+1)=s1 at *;generalize spR cm dv i k=s at *;generalize cm i k=c at *;generalize dv k i=d at *;generalize (ndR cm dv ps i).map poA=N at *;cases s
     ·by_cases hki:k=i
      ·have hv:s1=false:=by rw [hst];simp [hki]
       subst hv;(focus (refine wkad (w_16 e0 e1 e5 e18 e19 e20 e7 m78 e8 e9 e24 e25 hpm hlm g1 g2) (w_2 p1 p2) (w_2 (w_d 10 [(11,iv c)] [] []) (w_d 11 [(16,.v (.bool d))] [] [])) ?_;(repeat' first|exact w_t|apply w_l);all_goals intros));exact⟨k+1,⟨by omega,by exact gW e0,by exact gW e1,by exact gW e5,by exact gW e18,by exact gW e19,by exact gW e20,by(intro j;simp (disch:=omega) only [go_sem,hm]),by exact gW e7,by exact gW m78,by exact gW e8,by rw [hs1];exact gC,by exact gW e24,by exact gS⟩,by omega⟩
      ·cases d
       ·have hv:s1=false:=by rw [hst];simp []
        subst hv;(focus (refine wkad (w_16 e0 e1 e5 e18 e19 e20 e7 m78 e8 e9 e24 e25 hpm hlm g1 g2) (w_2 p1 p2) (w_2 (w_d 10 [(11,iv c)] [] []) (w_d 11 [(16,.v (.bool false))] [] [])) ?_;(repeat' first|exact w_t|apply w_l);all_goals intros));exact⟨k+1,⟨by omega,by exact gW e0,by exact gW e1,by exact gW e5,by exact gW e18,by exact gW e19,by exact gW e20,by(intro j;simp (disch:=omega) only [go_sem,hm]),by exact gW e7,by exact gW m78,by exact gW e8,by rw [hs1];exact gC,by exact gW e24,by exact gS⟩,by omega⟩
       ·by_cases hc:c=0
        ·by_cases hk2:k < i
         ·have hv:s1=true:=by rw [hst];simp [hki,hk2]
          subst hv;(focus (refine wkad (w_16 e0 e1 e5 e18 e19 e20 e7 m78 e8 e9 e24 e25 hpm hlm g1 g2) (w_2 p1 p2) (w_2 (w_d 10 [(11,iv c)] [] []) (w_d 11 [(16,.v (.bool true))] [] [])) ?_;(repeat' first|exact w_t|apply w_l);all_goals intros));exact⟨k+1,⟨by omega,by exact gW e0,by exact gW e1,by exact gW e5,by exact gW e18,by exact gW e19,by exact gW e20,by(intro j;simp (disch:=omega) only [go_sem,hm]),by exact gW e7,by exact gW m78,by exact gW e8,by rw [hs1];exact gC,by exact gW e24,by exact gS⟩,by omega⟩
         ·have hv:s1=false:=by rw [hst];simp [hki,hk2,hc]
          subst hv;(focus (refine wkad (w_16 e0 e1 e5 e18 e19 e20 e7 m78 e8 e9 e24 e25 hpm hlm g1 g2) (w_2 p1 p2) (w_2 (w_d 10 [(11,iv c)] [] []) (w_d 11 [(16,.v (.bool true))] [] [])) ?_;(repeat' first|exact w_t|apply w_l);all_goals intros));exact⟨k+1,⟨by omega,by exact gW e0,by exact gW e1,by exact gW e5,by exact gW e18,by exact gW e19,by exact gW e20,by(intro j;simp (disch:=omega) only [go_sem,hm]),by exact gW e7,by exact gW m78,by exact gW e8,by rw [hs1];exact gC,by exact gW e24,by exact gS⟩,by omega⟩
        ·have hv:s1=true:=by rw [hst];simp [hki,hc]
         subst hv;(focus (refine wkad (w_16 e0 e1 e5 e18 e19 e20 e7 m78 e8 e9 e24 e25 hpm hlm g1 g2) (w_2 p1 p2) (w_2 (w_d 10 [(11,iv c)] [] []) (w_d 11 [(16,.v (.bool true))] [] [])) ?_;(repeat' first|exact w_t|apply w_l);all_goals intros));exact⟨k+1,⟨by omega,by exact gW e0,by exact gW e1,by exact gW e5,by exact gW e18,by exact gW e19,by exact gW e20,by(intro j;simp (disch:=omega) only [go_sem,hm]),by exact gW e7,by exact gW m78,by exact gW e8,by rw [hs1];exact gC,by exact gW e24,by exact gS⟩,by omega⟩
     ·have hv:s1=true:=by rw [hst];simp []
      subst hv;(focus (refine wkad (w_16 e0 e1 e5 e18 e19 e20 e7 m78 e8 e9 e24 e25 hpm hlm g1 g2) (w_2 p1 p2) (w_2 (w_d 10 [(11,iv c)] [] []) (w_d 11 [(16,.v (.bool d))] [] [])) ?_;(repeat' first|exact w_t|apply w_l);all_goals intros));exact⟨k+1,⟨by omega,by exact gW e0,by exact gW e1,by exact gW e5,by exact gW e18,by exact gW e19,by exact gW e20,by(intro j;simp (disch:=omega) only [go_sem,hm]),by exact gW e7,by exact gW m78,by exact gW e8,by rw [hs1];exact gC,by exact gW e24,by exact gS⟩,by omega⟩
    ·obtain rfl:k=ps.length:=by omega
     have gp:=G.h i hlt;have hnl:=Zsi cm dv ps i;have hst:ndR cm dv ps (i+1)=if spR cm dv i ps.length=true then ndR cm dv ps i else ndR cm dv ps i++[ps.getD i []]:=rfl;have hNl:((ndR cm dv ps i).map poA).length≤100:=by rw [List.length_map];omega
     cases hs:spR cm dv i ps.length
     ·rw [hs,if_neg (by decide)] at hst;have hsm:(ndR cm dv ps (i+1)).map poA=(ndR cm dv ps i).map poA++[poA (ps.getD i [])]:=by rw [hst,List.map_append];rfl
      rw [hs] at e9;generalize (ndR cm dv ps i).map poA=N at *;generalize ps.getD i []=p at *;(focus (refine wkad (w_14 e0 e1 e5 e18 e19 e20 e7 m78 e8 e9 e24 e25 hpm gp) w_t w_t ?_;(repeat' first|exact w_t|apply w_l);all_goals intros));exact⟨i+1,⟨by omega,by exact gW e0,by exact gW e1,by exact gW e5,by exact gW e18,by exact gW e19,by exact gS,by(intro j;simp (disch:=omega) only [go_sem,hm]),_,by exact gC,by rw [hsm];exact gC⟩,by omega⟩
     ·rw [hs,if_pos rfl] at hst;rw [hs] at e9;have hsm:(ndR cm dv ps (i+1)).map poA=(ndR cm dv ps i).map poA:=by rw [hst]
      generalize (ndR cm dv ps i).map poA=N at *;(focus (refine wkad (w_13 e0 e1 e5 e18 e19 e20 e7 m78 e8 e9 e24 e25 hpm) w_t w_t ?_;(repeat' first|exact w_t|apply w_l);all_goals intros));exact⟨i+1,⟨by omega,by exact gW e0,by exact gW e1,by exact gW e5,by exact gW e18,by exact gW e19,by exact gS,by(intro j;simp (disch:=omega) only [go_sem,hm]),_,by exact gW e7,by rw [hsm];exact gW m78⟩,by omega⟩
   ·exact⟨Nat.zero_le _,by exact gW e0,by exact gW e1,by exact gW e5,by exact gW e18,by exact gW e19,by exact gW e20,by(intro j;simp (disch:=omega) only [go_sem,hm]),by exact gW e7,by exact gW m78,by exact gC,by(simp (disch:=omega) only [go_sem,spR]<;>repeat' first|rfl|refine⟨?_,?_⟩),by exact gW hpm,by exact gC⟩
  ·obtain rfl:i=ps.length:=by omega
   generalize (ndR cm dv ps ps.length).map poA=N at *;(focus (refine wkad (w_8 e0 e1 e5 e18 e19 e20 e7 m78) w_t w_t ?_;(repeat' first|exact w_t|apply w_l);all_goals intros));simp (disch:=omega) only [go_sem];refine back_new 78 T (by omega) (Sub.own _ _ _) ⟨sv,rfl,rfl⟩ (by simp (disch:=omega) only [go_sem,m78,Zaz,if_pos]) λj hj _=>?_;simp (disch:=omega) only [go_sem,hm,Zaz,if_neg hj]
 ·exact⟨Nat.zero_le _,by exact gC,by exact gC,by exact gC,by exact gC,by exact gW hpm,by exact gC,by(intro j;simp (disch:=omega) only [go_sem,hL]),_,by exact gC,by(simp (disch:=omega) only [go_sem,ndR,List.map_nil]<;>repeat' first|rfl|refine⟨?_,?_⟩)⟩
attribute [local go_sem] Tryz.underlying126
theorem grLess (K g:Nat) (o:Int) (p q:Po) (t u:Tm) (c:Int) (c1:Pure Tryz.prog 18 [poA p,.v (.int .i64 o)] (.tup [tmA t,.v (.bool true)])) (c2:Pure Tryz.prog 18 [poA q,.v (.int .i64 o)] (.tup [tmA u,.v (.bool true)]))
 (c3:Pure Tryz.prog 51 [ivs t.2,ivs u.2,.v (.int .i64 o)] (iv c)):RdC Tryz.prog [(K,.box g 3 [.v (.int .i64 o)] false)] 60 [poA p,poA q,.pbox K g 0] (iv c):=λσ hL=>by
 have mB:=Zb7 hL.1;simp only [Ent.sh,AV.shL,AV.sh] at mB;have k5:∀c,c < 1000→(K+1000 == c)=false:=λc h=>by rw [beq_eq_false_iff_ne];omega
 clear hL;obtain⟨t1,t2⟩:=t;obtain⟨u1,u2⟩:=u;simp only at c3;refine Zc1 Tryz.func60 rfl Tryz.ntmps60 Tryz.results60 Tryz.call60 (by rfl) (by simp) ?_;(focus (refine wkax (w_3 mB @Zcn k5) (w_1 c3) w_t w_t (w_2 c1 c2) w_t (w_r 0) ?_;(repeat' first|exact w_t|apply w_l);all_goals intros));simp (disch:=omega) only [go_sem];refine Zox (Sub.refl _) ⟨rfl,rfl⟩ ?_
 (repeat' (first|exact Agr.start _|(refine Agr.own ?_ (by omega))))
theorem grIns2 (σ:Mem) (K KO g:Nat) (sv:Value) (o c:Int) (a b:Po) (hK:σ K=some (.row sv 23 1 [poA a,poA b] 0)) (hO:σ KO=some (.box g 3 [.v (.int .i64 o)] false)) (hne:K≠KO) (hc:c < 0)
 (cc:∀KO',RdC Tryz.prog [(KO',.box g 3 [.v (.int .i64 o)] false)] 60 [poA b,poA a,.pbox KO' g 0] (iv c)) :
 ACall Tryz.prog 155 [.own K sv,iv 0,iv 2,.fn 60 [.pbox KO g 0]] σ λr σ'=>r=.tup []∧σ'=upd σ K (some (.row sv 23 1 [poA b,poA a] 0)):=by
 have mK:=Zb7 hK;have mO:=Zb7 hO;simp only [Ent.sh,AV.shL,AV.sh] at mK mO;have k5:∀c,c < 1000→(K+1000 == c)=false:=λc h=>by rw [beq_eq_false_iff_ne];omega
 have k6:∀c,c < 1000→(KO+1000 == c)=false:=λc h=>by rw [beq_eq_false_iff_ne];omega
 have c1:=cc (KO+1000);clear cc;refine Zc1 Tryz.func155 rfl Tryz.ntmps155 Tryz.results155 Tryz.call155 (by rfl) (by simp) ?_
 (repeat' (first|((with_reducible apply gyrG (c1));(focus rfl);(focus rfl);(focus ((with_reducible refine gE ?_);simp (disch:=omega) only [go_sem];rfl));(focus rfl);iterate 3 focus ((with_reducible refine gE ?_);first|rfl|(simp (disch:=omega) only [go_sem,mO,k5,k6];done)|(simp (disch:=omega) only [go_sem,mO,k5,k6];rfl)))|(with_reducible first|refine stp ?_|apply gx1|apply gx2|apply gx3|apply gx4|apply gx5|apply gx6|apply gx7|apply gy8|apply gz2|apply gz3)|(with_reducible refine Zbi ?_;intro _)|((with_reducible refine gE ?_);(try simp (disch:=omega) only [go_sem,mK,mO,Zcn,k5,k6,decide_eq_true,decide_eq_false,if_pos,if_neg,Int.reduceAdd,Int.reduceSub,Int.reduceToNat,Int.zero_add])<;>first|rfl|omega)|with_reducible refine Zaf (by decide) ?_|((with_reducible apply gy1);iterate 3 focus rfl)|((with_reducible apply gy2);iterate 3 focus rfl)|((with_reducible apply gy3);iterate 2 focus rfl)|((with_reducible apply gy4);iterate 1 focus rfl)|((with_reducible apply gy5);iterate 4 focus rfl)|((with_reducible apply gy5c);iterate 4 focus rfl)|((with_reducible apply gy6);iterate 4 focus rfl)|((with_reducible apply Zc0);iterate 3 focus rfl)|((with_reducible apply Zcx);iterate 1 focus rfl)|((with_reducible apply gy7);iterate 1 focus rfl)|((with_reducible apply gy9);(focus ((with_reducible refine gE ?_);(try simp (disch:=omega) only [go_sem,mK,mO,Zcn,k5,k6,decide_eq_true,decide_eq_false,if_pos,if_neg,Int.reduceAdd,Int.reduceSub,Int.reduceToNat,Int.zero_add])<;>rfl)))|((with_reducible apply gz1);(focus first|rfl|(simp (disch:=omega) only [go_sem,mK,mO,Zcn,k5,k6,decide_eq_true,decide_eq_false,if_pos,if_neg,Int.reduceAdd,Int.reduceSub,Int.reduceToNat,Int.zero_add];done)))|((with_reducible apply Za2 (id:=4) (Zce [(14,iv c)]) [] []);(focus kernel_rfl);(focus rfl);(focus kernel_rfl);(focus (simp only [List.length_cons,List.length_nil,Nat.reduceAdd];rfl)))|((with_reducible apply Za2 (id:=6) (Zce []) [15,2015,16,17] []);(focus kernel_rfl);(focus rfl);(focus kernel_rfl);(focus (simp only [List.length_cons,List.length_nil,Nat.reduceAdd];rfl)))|((with_reducible first|apply Zbl|apply Zbv|apply Zbm);all_goals (intro hc;(try simp only [bool_to_prop] at hc);try (exfalso;omega)))|((with_reducible apply Zk5 4);(focus rfl))))
 simp (disch:=omega) only [go_sem];refine Zox (Sub.refl _) ⟨rfl,rfl⟩ λj=>?_;have hj:=Agr.start σ j;by_cases kK:j=K
 ·subst kK;simp (disch:=omega) only [go_sem,Zaz,if_true,if_pos,Option.map_some,Ent.sh]
 ·simp (disch:=omega) only [go_sem,Zaz,if_neg,hj]
theorem grPdq2 (σ:Mem) (K KO g:Nat) (sv:Value) (o c:Int) (a b:Po) (hK:σ K=some (.row sv 23 1 [poA a,poA b] 0)) (hO:σ KO=some (.box g 3 [.v (.int .i64 o)] false)) (hne:K≠KO) (hc:c < 0)
 (cc:∀KO',RdC Tryz.prog [(KO',.box g 3 [.v (.int .i64 o)] false)] 60 [poA b,poA a,.pbox KO' g 0] (iv c)) :
 ACall Tryz.prog 106 [.own K sv,iv 0,iv 2,iv 2,.fn 60 [.pbox KO g 0]] σ λr σ'=>r=.tup []∧σ'=upd σ K (some (.row sv 23 1 [poA b,poA a] 0)):=by
 have mK:=Zb7 hK;have mO:=Zb7 hO;simp only [Ent.sh,AV.shL,AV.sh] at mK mO;refine Zc1 Tryz.func106 rfl Tryz.ntmps106 Tryz.results106 Tryz.call106 (by rfl) (by simp) ?_;(focus (refine wkax (w_3 mK mO @Zcn) w_t w_t w_t w_t w_t (w_r 2) ?_;(repeat' first|exact w_t|apply w_l);all_goals intros));refine Zhf (grIns2 _ (K+1000) (KO+1000) g sv o c a b mK mO (by omega) hc cc) ?_;(focus (refine wkad w_t w_t w_t ?_;(repeat' first|exact w_t|apply w_l);all_goals intros));simp (disch:=omega) only [go_sem];refine Zox (Sub.refl _) ⟨rfl,rfl⟩ λj=>?_;have hj:=Agr.start σ j;by_cases kK:j=K
 ·subst kK;simp (disch:=omega) only [go_sem,Zaz,if_true,if_pos,Option.map_some,Ent.sh]
 ·simp (disch:=omega) only [go_sem,Zaz,if_neg,hj]
theorem grSort2 (σ:Mem) (K KO g:Nat) (sv:Value) (o c:Int) (a b:Po) (hK:σ K=some (.row sv 23 1 [poA a,poA b] 0)) (hO:σ KO=some (.box g 3 [.v (.int .i64 o)] false)) (hne:K≠KO) (hc:c < 0)
 (cc:∀KO',RdC Tryz.prog [(KO',.box g 3 [.v (.int .i64 o)] false)] 60 [poA b,poA a,.pbox KO' g 0] (iv c)) :
 ACall Tryz.prog 59 [.own K sv,.fn 60 [.pbox KO g 0]] σ λr σ'=>r=.tup []∧σ'=upd σ K (some (.row sv 23 1 [poA b,poA a] 0)):=by
 have mK:=Zb7 hK;have mO:=Zb7 hO;simp only [Ent.sh,AV.shL,AV.sh] at mK mO;have cb:Pure Tryz.prog 107 [.v (.int .u64 2)] (iv 2):=bitsLen 2 (by omega);refine Zc1 Tryz.func59 rfl Tryz.ntmps59 Tryz.results59 Tryz.call59 (by rfl) (by simp) ?_;(focus (refine wkad (w_3 mK mO @Zcn) (w_1 cb) w_t ?_;(repeat' first|exact w_t|apply w_l);all_goals intros));refine Zhf (grPdq2 _ (K+1000) (KO+1000) g sv o c a b mK mO (by omega) hc cc) ?_;(focus (refine wkad w_t w_t w_t ?_;(repeat' first|exact w_t|apply w_l);all_goals intros));simp (disch:=omega) only [go_sem];refine Zox (Sub.refl _) ⟨rfl,rfl⟩ λj=>?_
 have hj:=Agr.start σ j;by_cases kK:j=K
 ·subst kK;simp (disch:=omega) only [go_sem,Zaz,if_true,if_pos,Option.map_some,Ent.sh]
 ·simp (disch:=omega) only [go_sem,Zaz,if_neg,hj]
theorem Zsx (o c:Int) (l:List Po) (B:List (Po × List Po)) (p0 p1 a b:Po) (Q0 Q1:List Po) (hBl:B.length≤100)
 (c1:Pure Tryz.prog 57 [.sl 1 (l.map poA),.v (.int .i64 o)] (.tup [.sl 2 (B.map elA),iv 0]))
 (c2:∀σ T,ACall Tryz.prog 58 [.sl 1 (B.map λe=>poA e.1),.v (.int .i64 o)] σ λr σ'=>∃sv,r=.own T sv∧σ'=upd σ T (some (.row sv 23 1 [poA p0,poA p1] 0)))
 (c3:Pure Tryz.prog 8 [poA p0,.sl 1 [poA p1],.v (.int .i64 o)] (.tup [.sl 1 (Q0.map poA),poA a,iv 0]))
 (c4:Pure Tryz.prog 8 [poA p1,.sl 1 [poA a],.v (.int .i64 o)] (.tup [.sl 1 (Q1.map poA),poA b,iv 0]))
 (hc:c < 0) (cc:∀K g,RdC Tryz.prog [(K,.box g 3 [.v (.int .i64 o)] false)] 60 [poA b,poA a,.pbox K g 0] (iv c)) :
 Pure Tryz.prog 23 [.sl 1 (l.map poA),.v (.int .i64 o)] (.tup [.sl 1 [poA b,poA a],iv 0]):=by
 have hlB:(B.map elA).length=B.length:=List.length_map ..;have hgB:∀i,i < B.length→(B.map elA).getD i .u=.agg [poA (B.getD i ([],[])).1,.sl 1 ((B.getD i ([],[])).2.map poA)]:=λi hi=>by rw [List.getD_eq_getElem?_getD,List.getElem?_map,List.getElem?_eq_getElem hi,List.getD_eq_getElem?_getD,List.getElem?_eq_getElem hi];rfl
 have G:=Hid.mk (And.intro hgB (And.intro c2 (And.intro c3 (And.intro c4 cc))));clear hgB c2 c3 c4 cc;generalize hBm:B.map elA=Bm at *;generalize hQ0:Q0.map poA=q0 at *;generalize hQ1:Q1.map poA=q1 at *;refine Zaa (tok:=0) Tryz.func23 rfl Tryz.ntmps23 Tryz.results23 Tryz.call23 (by rfl) (by simp) ?_;(focus (refine wkad (w_1 hlB) (w_1 c1) w_t ?_;(repeat' first|exact w_t|apply w_l);all_goals intros));rename_i g3;refine Zfo (Frz.nilOwn (d:=8) 36 1 23 (by exact gC)) ?_;refine r_loopZ ?_;refine Zal (ι:=Nat) (λi e m=>i≤B.length∧e 3=.pbox 3 g3 0∧m 3=some (.box g3 3 [.v (.int .i64 o)] false)∧e 26=.sl 2 Bm∧e 27=iv B.length∧e 28=iv i∧∃sv,e 8=.own 36 sv∧m 36=some (.row sv 23 1 ((B.take i).map λe=>poA e.1) 0)) (λi=>B.length - i) 0 (by rfl) ?_ ?_
 ·rintro i e m ⟨hi,e3,m3,e26,e27,e28,sv,e8,m36⟩
  by_cases hlt:i < B.length
  ·have hg:=G.h.1 i hlt;have hT:((B.take (i+1)).map λe=>poA e.1)=((B.take i).map λe=>poA e.1)++[poA (B.getD i ([],[])).1]:=by rw [List.take_succ_eq_append_getElem hlt,List.map_append,List.getD_eq_getElem?_getD,List.getElem?_eq_getElem hlt];rfl
   have hol:((B.take i).map λe=>poA e.1).length=i:=by rw [List.length_map,List.length_take];omega
   generalize ((B.take i).map λe=>poA e.1)=out at *;generalize (B.getD i ([],[])).2.map poA=cf at *;generalize (B.getD i ([],[])).1=p at *;(focus (refine wkad (w_10 e3 m3 e26 e27 e28 e8 m36 hg hol hlB) w_t w_t ?_;(repeat' first|exact w_t|apply w_l);all_goals intros));exact⟨i+1,⟨by omega,by exact gW e3,by exact gW m3,by exact gW e26,by exact gW e27,by exact gS,_,by exact gC,by rw [hT];exact gC⟩,by omega⟩
  ·rw [List.take_of_length_le (by omega)] at m36;(focus (refine wkad (w_7 e3 m3 e26 e27 e28 e8 m36) w_t w_t ?_;(repeat' first|exact w_t|apply w_l);all_goals intros));refine⟨_,Frz.own (d:=8) (k:=36) (by exact gW e8) (by exact gW m36),?_⟩;(focus (refine wkad (w_7 e3 m3 e26 e27 e28 e8 m36) w_t w_t ?_;(repeat' first|exact w_t|apply w_l);all_goals intros));refine o_fresh (G.h.2.1 _ 40) ?_;intro svN;(focus (refine wkad (w_7 e3 m3 e26 e27 e28 e8 m36) w_t w_t ?_;(repeat' first|exact w_t|apply w_l);all_goals intros));refine Zal (ι:=Nat) (λi e m=>i≤2∧e 3=.pbox 3 g3 0∧m 3=some (.box g3 3 [.v (.int .i64 o)] false)∧e 11=.own 40 svN∧e 41=.own 40 svN∧e 42=iv 2∧e 43=iv i∧(i=0→m 40=some (.row svN 23 1 [poA p0,poA p1] 0))∧(i=1→m 40=some (.row svN 23 1 [poA a,poA p1] 0))∧(i=2→m 40=some (.row svN 23 1 [poA a,poA b] 0))) (λi=>2 - i) 0 (by rfl) ?_ ?_
   ·rintro i e m ⟨hi,e3,m3,e11,e41,e42,e43,r0,r1,r2⟩
    have hi3:i=0∨i=1∨i=2:=by omega
    rcases hi3 with rfl | rfl | rfl
    ·have m40:=r0 rfl;clear r0 r1 r2;have cD:=G.h.2.2.1
     (repeat' (first|(fail)|(with_reducible first|refine stp ?_|apply gx1|apply gx2|apply gx3|apply gx4|apply gx5|apply gx6|apply gx7|apply gy8|apply gz2|apply gz3)|(with_reducible refine Zbi ?_;intro _)|((with_reducible refine gE ?_);(try simp (disch:=omega) only [go_sem,e3,m3,e11,e41,e42,e43,m40,decide_eq_true,decide_eq_false,if_pos,if_neg,Int.reduceAdd,Int.reduceSub,Int.reduceToNat,Int.zero_add])<;>first|rfl|omega)|with_reducible refine Zaf (by decide) ?_|((with_reducible apply gy1);iterate 3 focus rfl)|((with_reducible apply gy2);iterate 3 focus rfl)|((with_reducible apply gy3);iterate 2 focus rfl)|((with_reducible apply gy4);iterate 1 focus rfl)|((with_reducible apply gy5);iterate 4 focus rfl)|((with_reducible apply gy5c);iterate 4 focus rfl)|((with_reducible apply gy6);iterate 4 focus rfl)|((with_reducible apply Zc0);iterate 3 focus rfl)|((with_reducible apply Zcx);iterate 1 focus rfl)|((with_reducible apply gy7);iterate 1 focus rfl)|((with_reducible apply gy9);(focus ((with_reducible refine gE ?_);(try simp (disch:=omega) only [go_sem,e3,m3,e11,e41,e42,e43,m40,decide_eq_true,decide_eq_false,if_pos,if_neg,Int.reduceAdd,Int.reduceSub,Int.reduceToNat,Int.zero_add])<;>rfl)))|((with_reducible apply gz1);(focus first|rfl|(simp (disch:=omega) only [go_sem,e3,m3,e11,e41,e42,e43,m40,decide_eq_true,decide_eq_false,if_pos,if_neg,Int.reduceAdd,Int.reduceSub,Int.reduceToNat,Int.zero_add];done)))|((with_reducible apply Za2 (id:=14) (Zce []) [4,1004,9,1009] [46]);(focus kernel_rfl);(focus rfl);(focus kernel_rfl);(focus (simp only [List.length_cons,List.length_nil,Nat.reduceAdd];rfl)))|((with_reducible first|apply Zbl|apply Zbv|apply Zbm);all_goals (intro hc;(try simp only [bool_to_prop] at hc);try (exfalso;omega)))))
     refine Zpl (Frz.own (d:=13) (k:=46) (by exact gC) (by exact gC)) ?_;(focus (refine wkad (w_7 e3 m3 e11 e41 e42 e43 m40) (w_1 cD) (w_1 (w_d 15 [(6,.tup [.sl 1 q0,poA a,iv 0])] [] [])) ?_;(repeat' first|exact w_t|apply w_l);all_goals intros));exact⟨1,⟨by omega,by exact gW e3,by exact gW m3,by exact gW e11,by exact gW e41,by exact gW e42,by exact gC,λh=>absurd h (by decide),λh=>(by exact gC),λh=>absurd h (by decide)⟩,by omega⟩
    ·have m40:=r1 rfl;clear r0 r1 r2;have cD:=G.h.2.2.2.1
     (repeat' (first|(fail)|(with_reducible first|refine stp ?_|apply gx1|apply gx2|apply gx3|apply gx4|apply gx5|apply gx6|apply gx7|apply gy8|apply gz2|apply gz3)|(with_reducible refine Zbi ?_;intro _)|((with_reducible refine gE ?_);(try simp (disch:=omega) only [go_sem,e3,m3,e11,e41,e42,e43,m40,decide_eq_true,decide_eq_false,if_pos,if_neg,Int.reduceAdd,Int.reduceSub,Int.reduceToNat,Int.zero_add])<;>first|rfl|omega)|with_reducible refine Zaf (by decide) ?_|((with_reducible apply gy1);iterate 3 focus rfl)|((with_reducible apply gy2);iterate 3 focus rfl)|((with_reducible apply gy3);iterate 2 focus rfl)|((with_reducible apply gy4);iterate 1 focus rfl)|((with_reducible apply gy5);iterate 4 focus rfl)|((with_reducible apply gy5c);iterate 4 focus rfl)|((with_reducible apply gy6);iterate 4 focus rfl)|((with_reducible apply Zc0);iterate 3 focus rfl)|((with_reducible apply Zcx);iterate 1 focus rfl)|((with_reducible apply gy7);iterate 1 focus rfl)|((with_reducible apply gy9);(focus ((with_reducible refine gE ?_);(try simp (disch:=omega) only [go_sem,e3,m3,e11,e41,e42,e43,m40,decide_eq_true,decide_eq_false,if_pos,if_neg,Int.reduceAdd,Int.reduceSub,Int.reduceToNat,Int.zero_add])<;>rfl)))|((with_reducible apply gz1);(focus first|rfl|(simp (disch:=omega) only [go_sem,e3,m3,e11,e41,e42,e43,m40,decide_eq_true,decide_eq_false,if_pos,if_neg,Int.reduceAdd,Int.reduceSub,Int.reduceToNat,Int.zero_add];done)))|((with_reducible apply Za2 (id:=14) (Zce []) [4,1004,9,1009] [46]);(focus kernel_rfl);(focus rfl);(focus kernel_rfl);(focus (simp only [List.length_cons,List.length_nil,Nat.reduceAdd];rfl)))|((with_reducible first|apply Zbl|apply Zbv|apply Zbm);all_goals (intro hc;(try simp only [bool_to_prop] at hc);try (exfalso;omega)))))
     refine Zpl (Frz.own (d:=13) (k:=46) (by exact gC) (by exact gC)) ?_;(focus (refine wkad (w_7 e3 m3 e11 e41 e42 e43 m40) (w_1 cD) (w_1 (w_d 15 [(6,.tup [.sl 1 q1,poA b,iv 0])] [] [])) ?_;(repeat' first|exact w_t|apply w_l);all_goals intros));exact⟨2,⟨by omega,by exact gW e3,by exact gW m3,by exact gW e11,by exact gW e41,by exact gW e42,by exact gC,λh=>absurd h (by decide),λh=>absurd h (by decide),λh=>(by exact gC)⟩,by omega⟩
    ·have m40:=r2 rfl;clear r0 r1 r2;(focus (refine wkad (w_7 e3 m3 e11 e41 e42 e43 m40) w_t w_t ?_;(repeat' first|exact w_t|apply w_l);all_goals intros));refine Zhf (grSort2 _ 40 3 g3 svN o c a b (by exact gW m40) (by exact gW m3) (by omega) hc λK=>G.h.2.2.2.2 K g3) ?_;(focus (refine wkld (w_6 e3 m3 e11 e41 e42 e43) w_t w_t w_t ?_;(repeat' first|exact w_t|apply w_l);all_goals intros))
   ·exact⟨by omega,by exact gW e3,by exact gW m3,by exact gC,by exact gC,by exact gC,by exact gC,λh=>(by exact gC),λh=>absurd h (by decide),λh=>absurd h (by decide)⟩
 ·exact⟨by omega,by exact gC,by exact gC,by exact gC,by(simp (disch:=omega) only [go_sem,hlB]<;>repeat' first|rfl|refine⟨?_,?_⟩),by exact gC,_,by exact gC,by(simp (disch:=omega) only [go_sem,List.take_zero,List.map_nil]<;>repeat' first|rfl|refine⟨?_,?_⟩)⟩
theorem Zsz (p:Po) (l:List Po) (a k0 q x y:Po) (hl:l.length=1)
 (c1:Pure Tryz.prog 57 [.sl 1 (l.map poA),iv 1] (.tup [.sl 2 [.agg [poA a,.sl 1 [poA k0]]],iv 0]))
 (c2:Pure Tryz.prog 8 [poA p,.sl 1 [poA a],iv 1] (.tup [.sl 1 [poA q],.sl 4 [],iv 0]))
 (c3:Pure Tryz.prog 17 [poA q,poA k0] (poA x)) (c4:Pure Tryz.prog 16 [.v (.slice none 0 0),poA x] (poA y)) (c5:Pure Tryz.prog 29 [poA y] (.v (.bool false))) :
 Pure Tryz.prog 26 [poA p,.sl 1 (l.map poA)] (.tup [.sl 1 [poA y],iv 0]):=by
 have hlm:(l.map poA).length=1:=by rw [List.length_map];exact hl
 generalize l.map poA=M at *;refine Zaa (tok:=0) Tryz.func26 rfl Tryz.ntmps26 Tryz.results26 Tryz.call26 (by rfl) (by simp) ?_;(focus (refine wkax (w_1 hlm) (w_4 c1 c3 c4 c5) w_t (w_1 c2) w_t w_t (w_r 3) ?_;(repeat' first|exact w_t|apply w_l);all_goals intros))
 (all_goals (try simp (disch:=omega) only [go_sem,decide_eq_true,decide_eq_false,if_pos,if_neg,Int.reduceAdd,Int.reduceSub,Int.reduceToNat,Int.zero_add]));(all_goals first|done|rfl|(congr 2;first|done|omega|(rw [Bool.eq_iff_iff];simp only [bool_to_prop,Bool.false_eq_true,iff_true,true_iff,iff_false,false_iff];omega))|skip)
theorem nilsVk (n:Nat):VkL (flat (List.replicate n (.v (.slice none 0 0)))) (flat ((List.replicate n ([]:Po)).map poA)):=by
 induction n with
 | zero=>exact .nil
 | succ n ih=>exact .cons (.nil 4) ih
theorem grDivide (o:Int) (bs:List Po) (p:Po) (hb:∀b∈bs,BO b) (hl:bs.length≤1000) (hp:PB p 8 10 16) (h:DI o bs 0 ⟨p,List.replicate bs.length [],[]⟩∧0+dvM o ⟨p,List.replicate bs.length [],[]⟩≤20809) :
 Pure Tryz.prog 8 [poA p,.sl 1 (bs.map poA),.v (.int .i64 o)] (dvR (if bigP p=true then none else Zfr o bs ⟨p,List.replicate bs.length [],[]⟩)):=by
 have cL:=grLeadsA bs o hb hl;have cB:=(lgB hp (by omega) (by omega)).1;by_cases hbig:bigP p=true
 ·rw [if_pos hbig];rw [hbig] at cB;unfold dvR;refine Zaa (tok:=0) Tryz.func8 rfl Tryz.ntmps8 Tryz.results8 Tryz.call8 (by rfl) (by simp) ?_;(focus (refine wkad w_t w_t w_t ?_;(repeat' first|exact w_t|apply w_l);all_goals intros));refine Zr1 (by rfl) ?_;(focus (refine wkld (w_1 @Zbb) (w_2 cL cB) w_t w_t ?_;(repeat' first|exact w_t|apply w_l);all_goals intros))
 ·rw [if_neg hbig];rw [Bool.not_eq_true] at hbig;rw [hbig] at cB;generalize hR:dvR (Zfr o bs ⟨p,List.replicate bs.length [],[]⟩)=R;generalize hLd:(bs.map λb=>tmA (ldO o b))=Ld at *;have hLg:∀i,i < bs.length→Ld.getD i .u=tmA (ldO o (bs.getD i [])):=λi hi=>by
   rw [←hLd,List.getD_eq_getElem?_getD,List.getElem?_map,List.getElem?_eq_getElem hi,List.getD_eq_getElem?_getD,List.getElem?_eq_getElem hi];rfl
  have hLl:Ld.length=bs.length:=by rw [←hLd,List.length_map]
  have hBg:∀i,i < bs.length→(bs.map poA).getD i .u=poA (bs.getD i []):=λi hi=>by
   rw [List.getD_eq_getElem?_getD,List.getElem?_map,List.getElem?_eq_getElem hi,List.getD_eq_getElem?_getD,List.getElem?_eq_getElem hi];rfl
  have hBl:(bs.map poA).length=bs.length:=List.length_map ..;generalize hBm:bs.map poA=Bm at *;refine Zaa (tok:=0) Tryz.func8 rfl Tryz.ntmps8 Tryz.results8 Tryz.call8 (by rfl) (by simp) ?_;(focus (refine wkad w_t w_t w_t ?_;(repeat' first|exact w_t|apply w_l);all_goals intros));refine Zr1 (by rfl) ?_;(focus (refine wkad (w_2 hBl hLl) (w_2 cL cB) w_t ?_;(repeat' first|exact w_t|apply w_l);all_goals intros));refine Zfo (Frz.rowVk (es':=(List.replicate bs.length ([]:Po)).map poA) (K:=28) (by exact gC) (by simp) (λx hx=>by obtain⟨y,-,rfl⟩:=List.mem_map.1 hx;rfl) (λx hx=>by obtain⟨y,-,rfl⟩:=List.mem_map.1 hx;rfl) (nilsVk _)) ?_
  refine Zfo (Frz.nil (d:=7) 4 (by exact gC)) ?_;refine Zal (ι:=DS) (λs e m=>(∃k,DI o bs k s∧k+dvM o s≤20809)∧dvR (Zfr o bs s)=R∧e 0=poA s.p∧e 1=.sl 1 Bm∧e 2=.v (.int .i64 o)∧e 9=.sl 4 Ld∧e 7=poA s.r∧∃sv,e 6=.own 28 sv∧m 28=some (.row sv 23 1 (s.q.map poA) 0)) (λs=>dvM o s) ⟨p,List.replicate bs.length [],[]⟩ (by rfl) ?_ ?_
  ·rintro s e m ⟨⟨k,hD,hk⟩,hR,e0,e1,e2,e9,e7,sv,e6,m28⟩
   by_cases h0:s.p=[]
   ·rw [Zs8 h0] at hR;rw [h0] at e0
    replace hR:AV.tup [.sl 1 (s.q.map poA),poA s.r,iv 0]=R:=hR
    generalize s.q.map poA=Q at *;subst hR;(focus (refine wkld (w_7 e0 e1 e2 e9 e7 e6 m28) w_t (w_1 m28) w_t ?_;(repeat' first|exact w_t|apply w_l);all_goals intros))
   ·have hpl:s.p.length≠0:=λg=>h0 (List.length_eq_zero_iff.1 g);have hq:s.q.length=bs.length:=hD.lq;have t0:=hD.ld h0;have cl:=Zke s.p o h0 (λu hu=>hD.pb.k.sm (by omega) hu) (by have:=hD.lp;omega);have hgo:=fun(i:Nat) (f:Tm)=>dv_go (i:=i) (f:=f) hb hD hk h0;have hcon:=fun(i:Nat) (f:Tm)=>dv_con (i:=i) (f:=f) hb hD (by omega) h0;have hout:=dv_out hb hD hk h0;obtain⟨⟨r1,-⟩,⟨r2,-⟩,⟨r3,-⟩,⟨r4,-⟩⟩:=dv_conR hD (by omega) h0;have hfa:∀b,Zfg o (ldO o s.p) b=if divI (ldO o b).2 (ldO o s.p).2=true then some ((ldO o s.p).1/(ldO o b).1,quoI (ldO o s.p).2 (ldO o b).2) else none:=λb=>rfl;generalize ldO o s.p=t at *
    obtain⟨t1,t2⟩:=t;(focus (refine wkad (w_10 e0 e1 e2 e9 e7 e6 m28 hpl hLl @Zbb) (w_1 cl) w_t ?_;(repeat' first|exact w_t|apply w_l);all_goals intros));rename_i g;refine Zal (ι:=Nat) (λi e m=>i≤bs.length∧(∀j,j < i→Zfg o (t1,t2) (bs.getD j [])=none)∧e 0=poA s.p∧e 1=.sl 1 Bm∧e 2=.v (.int .i64 o)∧e 9=.sl 4 Ld∧e 7=poA s.r∧e 6=.own 28 sv∧m 28=some (.row sv 23 1 (s.q.map poA) 0)∧e 11=.pbox 11 g 0∧m 11=some (.box g 48 [.v (.bool (decide (t1.num < 0))),lim (toL t1.num.natAbs),lim (toL t1.den),ivs t2] false)∧e 40=.sl 4 Ld∧e 41=iv bs.length∧e 42=iv i) (λi=>bs.length - i) 0 (by rfl) ?_ ?_
    ·rintro i e m ⟨hi,hj,e0,e1,e2,e9,e7,e6,m28,e11,m11,e40,e41,e42⟩
     by_cases hlt:i < bs.length
     ·have hg:=hLg i hlt;have hbg:=hBg i hlt;have b0:=(hb _ (Zp4 hlt)).ld (o:=o);have hfi:=hfa (bs.getD i []);by_cases d:divI (ldO o (bs.getD i [])).2 t2=true
      ·rw [if_pos d] at hfi;obtain⟨n1,n2⟩:=hgo i _ hlt hj hfi;obtain⟨⟨a1,-⟩,⟨a2,-⟩,⟨a3,-⟩,⟨a4,-⟩,⟨a5,-⟩⟩:=hcon i _ hlt hfi;have cq:=Zsy (t1,t2) (ldO o (bs.getD i [])) t0 b0 (by omega) (by omega) d;have gq:(s.q.map poA).getD i .u=poA (s.q.getD i []):=by rw [List.getD_eq_getElem?_getD,List.getElem?_map,List.getElem?_eq_getElem (by omega),List.getD_eq_getElem?_getD,List.getElem?_eq_getElem (by omega)];rfl
       have sq:∀x:Po,(s.q.set i x).map poA=(s.q.map poA).set i (poA x):=λx=>List.map_set ..;have sg:∀x:AV,((s.q.map poA).set i x).getD i .u=x:=λx=>by rw [List.getD_eq_getElem?_getD,List.getElem?_set_self (by rw [List.length_map];omega)];rfl
       have ql:(s.q.map poA).length=bs.length:=by rw [List.length_map];exact hq
       clear hgo hcon hout hfa hfi hj b0 t0 hD r1 r2 r3 r4;simp only at cq a1 a2 a3 a4 a5 n1 n2;generalize (t1/(ldO o (bs.getD i [])).1,quoI t2 (ldO o (bs.getD i [])).2)=f at *;generalize ldO o (bs.getD i [])=l at *;obtain⟨l1,l2⟩:=l;generalize bs.getD i []=b at *;generalize s.q.getD i []=q at *;generalize hx:mlM [f] b=x at *;generalize hp2:subM s.p x=p2 at *;generalize hq2:addM q [f]=q2 at *;by_cases hbg2:(bigP p2 || bigP q2)=true
       ·rw [n1 hbg2] at hR;subst hR;unfold dvR;generalize bigP p2=u at *;generalize bigP q2=v at *;generalize s.q.map poA=Q at *;cases u<;>cases v
        ·exact absurd hbg2 (by decide)
        all_goals
         (focus (refine wkax (w_20 e0 e1 e2 e9 e7 e6 m28 e11 m11 e40 e41 e42 hg hbg hBl hLl gq sg ql @l_set) (w_4 cq a1 a2 a3) w_t w_t (w_2 a4 a5) w_t (w_r 0) ?_;(repeat' first|exact w_t|apply w_l);all_goals intros))
         (all_goals (try simp (disch:=omega) only [go_sem,decide_eq_true,decide_eq_false,if_pos,if_neg,Int.reduceAdd,Int.reduceSub,Int.reduceToNat,Int.zero_add]));(all_goals first|done|rfl|(congr 2;first|done|omega|(rw [Bool.eq_iff_iff];simp only [bool_to_prop,Bool.false_eq_true,iff_true,true_iff,iff_false,false_iff];omega))|skip)
       ·rw [Bool.not_eq_true] at hbg2;obtain⟨k1,k2,k3⟩:=n2 hbg2;rw [k1] at hR;rw [Bool.or_eq_false_iff] at hbg2;rw [hbg2.1] at a4;rw [hbg2.2] at a5;(focus (refine wkax (w_20 e0 e1 e2 e9 e7 e6 m28 e11 m11 e40 e41 e42 hg hbg hBl hLl gq sg ql @l_set) (w_4 cq a1 a2 a3) w_t w_t (w_2 a4 a5) w_t (w_r 0) ?_;(repeat' first|exact w_t|apply w_l);all_goals intros));exact⟨_,⟨k2,hR,by exact gC,by exact gW e1,by exact gW e2,by exact gW e9,by exact gW e7,sv,by exact gW e6,by simp only [sq];exact gC⟩,k3⟩
      ·rw [if_neg d] at hfi;rw [Bool.not_eq_true] at d;have cq:=grQuotN (t1,t2) (ldO o (bs.getD i [])) t0 b0 d;clear hgo hcon hout hfa b0 t0 hD r1 r2 r3 r4;generalize s.q.map poA=Q at *;generalize ldO o (bs.getD i [])=l at *;obtain⟨l1,l2⟩:=l;(focus (refine wkad (w_14 e0 e1 e2 e9 e7 e6 m28 e11 m11 e40 e41 e42 hg hLl) (w_1 cq) w_t ?_;(repeat' first|exact w_t|apply w_l);all_goals intros));exact⟨i+1,⟨by omega,λj hj2=>by
        by_cases e:j=i
        ·rw [e];exact hfi
        ·exact hj j (by omega),by exact gW e0,by exact gW e1,by exact gW e2,by exact gW e9,by exact gW e7,by exact gW e6,by exact gW m28,by exact gW e11,by exact gW m11,by exact gW e40,by exact gW e41,by exact gS⟩,by omega⟩
     ·obtain⟨n1,n2⟩:=hout λj hj2=>hj j (by omega);clear hgo hcon hout hfa t0 hD;generalize hp2:subM s.p [(t1,t2)]=p2 at *;generalize hr2:addM s.r [(t1,t2)]=r' at *;by_cases hbg2:bigP r'=true
      ·rw [n1 hbg2] at hR;subst hR;unfold dvR;rw [hbg2] at r4;generalize s.q.map poA=Q at *;(focus (refine wkax (w_12 e0 e1 e2 e9 e7 e6 m28 e11 m11 e40 e41 e42) (w_3 r2 r3 r4) w_t (w_1 r1) w_t w_t (w_r 0) ?_;(repeat' first|exact w_t|apply w_l);all_goals intros))
       (all_goals (try simp (disch:=omega) only [go_sem,decide_eq_true,decide_eq_false,if_pos,if_neg,Int.reduceAdd,Int.reduceSub,Int.reduceToNat,Int.zero_add]));(all_goals first|done|rfl|(congr 2;first|done|omega|(rw [Bool.eq_iff_iff];simp only [bool_to_prop,Bool.false_eq_true,iff_true,true_iff,iff_false,false_iff];omega))|skip)
      ·rw [Bool.not_eq_true] at hbg2;obtain⟨k1,k2,k3⟩:=n2 hbg2;rw [k1] at hR;rw [hbg2] at r4;(focus (refine wkax (w_12 e0 e1 e2 e9 e7 e6 m28 e11 m11 e40 e41 e42) (w_3 r2 r3 r4) w_t (w_1 r1) w_t w_t (w_r 0) ?_;(repeat' first|exact w_t|apply w_l);all_goals intros));exact⟨_,⟨k2,hR,by exact gC,by exact gW e1,by exact gW e2,by exact gW e9,by exact gC,sv,by exact gW e6,by exact gW m28⟩,k3⟩
    ·exact⟨Nat.zero_le _,λj h=>absurd h (by omega),by exact gW e0,by exact gW e1,by exact gW e2,by exact gW e9,by exact gW e7,by exact gW e6,by exact gW m28,by exact gC,by exact gC,by exact gW e9,by(simp (disch:=omega) only [go_sem,hLl]<;>repeat' first|rfl|refine⟨?_,?_⟩),by exact gC⟩
  ·exact⟨⟨0,h⟩,hR,by exact gC,by exact gC,by exact gC,by exact gC,by exact gC,_,by exact gC,by exact gC⟩
def litT (d:Int) (t:Tm):Bool:=decide (t.1≠0) && (decide (t.1.num.natAbs < 65536) && (decide (t.1.den < 65536) && (decide (t.2.length≤3) && (t.2.all (λx=>decide (0≤x) && decide (x≤4)) && (decide (t.2.getLast?.getD 1≠0) && decide (dgI t.2≤d))))))
def Zfe (d:Int) (p:Po):Bool:=p.all (litT d) && (decide (p.Pairwise λs t=>ltM t.2 s.2) && decide (p.length≤8))
theorem Zhx {d:Int} {t:Tm} (h:litT d t=true):t.1≠0∧Sz t.1 1∧Can t.2∧t.2.length≤3∧(∀j,gI t.2 j≤(4:Nat))∧dgI t.2≤d:=by
 unfold litT at h;simp only [Bool.and_eq_true,decide_eq_true_eq,List.all_eq_true] at h;obtain⟨h1,h2,h3,h4,h5,h6,h7⟩:=h;have hj:∀j,0≤gI t.2 j∧gI t.2 j≤(4:Nat):=λj=>by
  by_cases hl:j < t.2.length
  ·rw [Zfp hl];exact h5 _ (List.getElem_mem hl)
  ·rw [Zbg (by omega)];omega
 refine⟨h1,⟨Zah.2 (by omega),Zah.2 (by omega)⟩,⟨λj=>(hj j).1,?_⟩,h4,λj=>(hj j).2,h7⟩;by_cases h0:t.2.length=0
 ·exact .inl h0
 ·have hn:t.2≠[]:=λe=>h0 (by rw [e];rfl);rw [List.getLast?_eq_some_getLast hn,Option.getD_some,List.getLast_eq_getElem hn] at h6;exact .inr (by rw [Zfp (by omega)];exact h6)
theorem Zm2 {d:Int} {p:Po} (h:Zfe d p=true):(∀t∈p,litT d t=true)∧p.Pairwise (λs t=>ltM t.2 s.2)∧p.length≤8:=by
 unfold Zfe at h
 simpa only [Bool.and_eq_true,decide_eq_true_eq,List.all_eq_true] using h
theorem Zdb {d:Int} {p:Po} (h:Zfe d p=true):PB p 8 1 4:=by
 obtain⟨h1,h2,h3⟩:=Zm2 h;exact⟨⟨λt ht=>⟨(Zhx (h1 t ht)).1,(Zhx (h1 t ht)).2.2.1⟩,h2⟩,λt ht=>⟨(Zhx (h1 t ht)).2.1,by have:=(Zhx (h1 t ht)).2.2.2.1;omega,λj=>⟨(Zhx (h1 t ht)).2.2.1.1 j,(Zhx (h1 t ht)).2.2.2.2.1 j⟩⟩,h3⟩
theorem lit_bo {p:Po} (h:Zfe 2 p=true) (h0:p≠[]) (hl:p.length≤4):BO p:=by
 obtain⟨h1,h2,h3⟩:=Zm2 h;have b:=Zdb h;exact⟨b.s,h0,hl,λt ht=>(Zhx (h1 t ht)).2.1,λt ht=>⟨(Zhx (h1 t ht)).2.2.2.1,(Zhx (h1 t ht)).2.2.2.2.2⟩⟩
theorem lit_ps {d:Int} {p:Po} (h:Zfe d p=true):PS p:=⟨(Zdb h).mono (by omega) (by omega) (by omega),λt ht=>by have:=(Zhx ((Zm2 h).1 t ht)).2.2.2.1;omega⟩
theorem lSub {p q:Po} (r:Po) (hp:Zfe 4 p=true) (hq:Zfe 4 q=true) (h:subM p q=r):Pure Tryz.prog 31 [poA p,poA q] (poA r)∧Pure Tryz.prog 24 [poA p,poA q] (poA r):=by
 subst h;exact hpSub (Zdb hp) (Zdb hq) (by omega) (by omega) (by omega) (by omega) (by omega) (by omega)
theorem lAdd {p q:Po} (r:Po) (hp:Zfe 4 p=true) (hq:Zfe 4 q=true) (h:addM p q=r):Pure Tryz.prog 16 [poA p,poA q] (poA r)∧Pure Tryz.prog 25 [poA p,poA q] (poA r):=by
 subst h;exact hpAdd (Zdb hp) (Zdb hq) (by omega) (by omega) (by omega) (by omega) (by omega) (by omega)
theorem lMul {p q:Po} (r:Po) (hp:Zfe 4 p=true) (hq:Zfe 4 q=true) (h:mlM p q=r):Pure Tryz.prog 17 [poA p,poA q] (poA r)∧Pure Tryz.prog 27 [poA p,poA q] (poA r):=by
 subst h;exact hpMul (Zdb hp) (Zdb hq) (by omega) (by omega) (by omega) (by omega) (by omega) (by omega) (by omega) (by rw [show min 8 8=8 from rfl];omega) (by omega)
theorem lEq {p q:Po} (hp:Zfe 4 p=true) (h:p=q):Pure Tryz.prog 11 [poA p,poA q] (.v (.bool true)):=by
 subst h;have b:=Zdb hp;have:=Zrt p p b.k b.k b.s.dom b.s.dom (by have:=b.l;omega) (by have:=b.l;omega) (by omega) (by omega) (by omega) (by omega)
 rwa [decide_eq_true rfl] at this
theorem Zjl {p:Po} (o:Int) (t:Tm) (hp:Zfe 4 p=true) (h0:p≠[]) (h:ldO o p=t):Pure Tryz.prog 18 [poA p,.v (.int .i64 o)] (.tup [tmA t,.v (.bool true)]):=by
 subst h;exact Zke p o h0 (λu hu=>(Zdb hp).k.sm (by omega) hu) (by have:=(Zdb hp).l;omega)
theorem Zgt {p:Po} (a:Rat) (r:Po) (hp:Zfe 4 p=true) (ha:decide (a.num.natAbs < 65536) && decide (a.den < 65536)) (h:sclM a p=r):Pure Tryz.prog 125 [poA p,ratQ a] (poA r):=by
 subst h;simp only [Bool.and_eq_true,decide_eq_true_eq] at ha;exact Zr5 p a (Zdb hp).k (k:=1) ⟨Zah.2 (by omega),Zah.2 (by omega)⟩ (Zdb hp).s (by have:=(Zdb hp).l;omega) (by omega) (by omega) (by omega)
theorem Zst (a:Rat) (ha:decide (a.num.natAbs < 65536) && decide (a.den < 65536)):Pure Tryz.prog 125 [.v (.slice none 0 0),ratQ a] (poA []) :=
 Zgh (Zgt (p:=[]) a [] (by decide) ha (by unfold sclM;split<;>rfl)) (.cons (.nil 4) (.cons (.refl _) .nil))
theorem lDiv {b:Rat} (a:Rat) (hb:decide (b.num.natAbs < 65536) && decide (b.den < 65536)) (h0:b≠0) (h:1/b=a):Pure Tryz.prog 71 [ratQ 1,ratQ b] (.tup [ratQ a,iv 0]):=by
 subst h;simp only [Bool.and_eq_true,decide_eq_true_eq] at hb;exact ratDiv 1 b Zpr (k:=1) ⟨Zah.2 (by omega),Zah.2 (by omega)⟩ (by omega) (by omega) h0
theorem Zf3 {p:Po} (hp:Zfe 4 p=true) (h:bigP p=false):Pure Tryz.prog 29 [poA p] (.v (.bool false)):=by
 have:=(lgB (Zdb hp) (by omega) (by omega)).1
 rwa [h] at this
theorem Zlp (o:Int) (bs:List Po) (p:Po) (Q:List Po) (R:Po) (hb:(bs.all λb=>Zfe 2 b && (decide (b≠[]) && decide (b.length≤4)))=true) (hl:bs.length≤1000) (hp:Zfe 4 p=true) (hg:bigP p=false) (h:(Zfr o bs ⟨p,List.replicate bs.length [],[]⟩).map (λs=>(s.q,s.r))=some (Q,R)) :
 Pure Tryz.prog 8 [poA p,.sl 1 (bs.map poA),.v (.int .i64 o)] (.tup [.sl 1 (Q.map poA),poA R,iv 0]):=by
 have hB:∀b∈bs,BO b:=λb hm=>by
  have:=List.all_eq_true.1 hb b hm;simp only [Bool.and_eq_true,decide_eq_true_eq] at this;exact lit_bo this.1 this.2.1 this.2.2
 have b:=Zdb hp;have c:=grDivide o bs p hB hl (b.mono (by omega) (by omega) (by omega)) (dv_start b.s b.l (λt ht=>(b.k t ht).1) λt ht=>⟨(Zhx ((Zm2 hp).1 t ht)).2.2.2.1,(Zhx ((Zm2 hp).1 t ht)).2.2.2.2.2⟩);rw [if_neg (by rw [hg];decide)] at c
 cases e:Zfr o bs ⟨p,List.replicate bs.length [],[]⟩with
 | none=>rw [e] at h;cases h
 | some s =>
   rw [e] at h c;simp only [Option.map_some,Option.some.injEq,Prod.mk.injEq] at h;obtain⟨rfl,rfl⟩:=h;exact c
def xP:Po:=[(1,[1])]
def yP:Po:=[(1,[0,1])]
def d0P:Po:=[(1,[0,1]),(-1,[1])]
def d1P:Po:=[(1,[0,1]),(1,[1])]
def s2P:Po:=[(-2,[1])]
def mnP:Po:=[(-1,[])]
def dfP:Po:=[(-1,[0,2]),(1,[2])]
def dxP:Po:=[(-1,[0,1]),(1,[1])]
def qmP:Po:=[(-1,[0,1]),(-1,[1])]
def hmP:Po:=[(-1/2,[])]
def hpP:Po:=[(1/2,[])]
def E0:Po × List Po:=(d0P,[oneP,[]])
def E1:Po × List Po:=(d1P,[[],oneP])
def E2:Po × List Po:=(xP,[hmP,hpP])
def EM:Po × List Po:=(d0P,[mnP])
theorem add0:AddC 0 d0P [poA oneP,.v (.slice none 0 0)] E0:=⟨(1,[0,1]),1,⟨rfl,by decide,λi hi=>by
 match i,hi with
 | 0,_=>exact .inr ⟨_,rfl⟩
 | 1,_=>exact .inl rfl⟩,Zjl 0 _ (by decide +kernel) (by decide) (by decide +kernel),lDiv 1 (by decide +kernel) (by decide) (by decide +kernel),Zgt 1 _ (by decide +kernel) (by decide +kernel) (by decide +kernel),λi hi=>by
 match i,hi with
 | 0,_=>exact Zgt 1 _ (by decide +kernel) (by decide +kernel) (by decide +kernel)
 | 1,_=>exact Zst 1 (by decide +kernel),Zf3 (by decide +kernel) (by decide +kernel),λc hc=>by
 simp only [E0,List.mem_cons,List.not_mem_nil,or_false] at hc;rcases hc with rfl | rfl<;>exact Zf3 (by decide +kernel) (by decide +kernel)⟩
theorem add1:AddC 0 d1P [.v (.slice none 0 0),poA oneP] E1:=⟨(1,[0,1]),1,⟨rfl,by decide,λi hi=>by
 match i,hi with
 | 0,_=>exact .inl rfl
 | 1,_=>exact .inr ⟨_,rfl⟩⟩,Zjl 0 _ (by decide +kernel) (by decide) (by decide +kernel),lDiv 1 (by decide +kernel) (by decide) (by decide +kernel),Zgt 1 _ (by decide +kernel) (by decide +kernel) (by decide +kernel),λi hi=>by
 match i,hi with
 | 0,_=>exact Zst 1 (by decide +kernel)
 | 1,_=>exact Zgt 1 _ (by decide +kernel) (by decide +kernel) (by decide +kernel),Zf3 (by decide +kernel) (by decide +kernel),λc hc=>by
 simp only [E1,List.mem_cons,List.not_mem_nil,or_false] at hc;rcases hc with rfl | rfl<;>exact Zf3 (by decide +kernel) (by decide +kernel)⟩
theorem addM1:AddC 1 dxP [poA oneP] EM:=⟨(-1,[0,1]),-1,⟨rfl,by decide,λi hi=>by
 match i,hi with
 | 0,_=>exact .inr ⟨_,rfl⟩⟩,Zjl 1 _ (by decide +kernel) (by decide) (by decide +kernel),lDiv (-1) (by decide +kernel) (by decide) (by decide +kernel),Zgt (-1) _ (by decide +kernel) (by decide +kernel) (by decide +kernel),λi hi=>by
 match i,hi with
 | 0,_=>exact Zgt (-1) _ (by decide +kernel) (by decide +kernel) (by decide +kernel),Zf3 (by decide +kernel) (by decide +kernel),λc hc=>by
 simp only [EM,List.mem_cons,List.not_mem_nil,or_false] at hc;subst hc;exact Zf3 (by decide +kernel) (by decide +kernel)⟩
theorem exm01:ExC 0 [E0,E1] E2 0 1:=λσ gB hM svL svP qP hs hm=>by
 obtain⟨f1,f2,-⟩:=grPair 0 (P:=d0P) (Q:=d1P) (lit_ps (d:=4) (by decide +kernel)) (lit_ps (d:=4) (by decide +kernel)) (by decide) (by decide);rw [show prA 0 d0P d1P=.tup [poA s2P,iv 0] from by
  rw [show prA 0 d0P d1P=if bigP (prZ 0 d0P d1P)=true then .tup [.v (.slice none 0 0),iv 4] else .tup [poA (prZ 0 d0P d1P),iv 0] from if_neg (by decide),show prZ 0 d0P d1P=s2P from by decide +kernel,if_neg (by decide +kernel)]] at f2
 rw [show fcT 0 d0P d1P d0P=(1,[]) from by decide +kernel,show fcT 0 d0P d1P d1P=(1,[]) from by decide +kernel] at f1;refine(grExam σ 19 301 302 17 gB hM 0 qP svL svP 0 [E0,E1] 0 1 2 d0P d1P s2P s2P oneP oneP (1,[0,1]) (1,[0,1]) (-2,[1]) [[],[]] (λn _=>if n=0 then oneP else mnP) xP [hmP,hpP] (-1/2) hs.b hs.l hs.p hm (by omega) (by omega) (by omega) (by omega) (by omega) (by omega) (by decide) (by decide) (by decide) rfl rfl (by omega) (λe he=>by
  simp only [List.mem_cons,List.not_mem_nil,or_false] at he;rcases he with rfl | rfl<;>rfl) rfl (by decide) rfl
  (Zjl 0 _ (by decide +kernel) (by decide) (by decide +kernel)) (Zjl 0 _ (by decide +kernel) (by decide) (by decide +kernel)) (by
   have:=Zkj [0,1] [0,1] (by decide)
   rwa [show copI [0,1] [0,1]=false from by decide] at this) f2 (Zlp 0 [d0P,d1P] s2P _ _ (by decide +kernel) (by decide) (by decide +kernel) (by decide +kernel) (by decide +kernel)) f1
  (λn hn=>by
   match n,hn with
   | 0,_=>exact⟨oneP,[],(lMul _ (by decide +kernel) (by decide +kernel) (by decide +kernel)).1,(lMul _ (by decide +kernel) (by decide +kernel) (by decide +kernel)).1,(lSub _ (by decide +kernel) (by decide +kernel) (by decide +kernel)).1⟩
   | 1,_=>exact⟨[],oneP,(lMul _ (by decide +kernel) (by decide +kernel) (by decide +kernel)).1,(lMul _ (by decide +kernel) (by decide +kernel) (by decide +kernel)).1,(lSub _ (by decide +kernel) (by decide +kernel) (by decide +kernel)).1⟩)
  (λn hn j hj=>⟨[],by
   match n,hn,j,hj with
   | 0,_,0,_=>exact⟨(lMul _ (by decide +kernel) (by decide +kernel) (by decide +kernel)).1,(lSub _ (by decide +kernel) (by decide +kernel) (by decide +kernel)).1⟩
   | 0,_,1,_=>exact⟨(lMul _ (by decide +kernel) (by decide +kernel) (by decide +kernel)).1,(lSub _ (by decide +kernel) (by decide +kernel) (by decide +kernel)).1⟩
   | 1,_,0,_=>exact⟨(lMul _ (by decide +kernel) (by decide +kernel) (by decide +kernel)).1,(lSub _ (by decide +kernel) (by decide +kernel) (by decide +kernel)).1⟩
   | 1,_,1,_=>exact⟨(lMul _ (by decide +kernel) (by decide +kernel) (by decide +kernel)).1,(lSub _ (by decide +kernel) (by decide +kernel) (by decide +kernel)).1⟩⟩)
  (Zjl 0 _ (by decide +kernel) (by decide) (by decide +kernel)) Zpk (lDiv _ (by decide +kernel) (by decide) (by decide +kernel)) (Zgt _ _ (by decide +kernel) (by decide +kernel) (by decide +kernel))
  (λn hn=>by
   match n,hn with
   | 0,_=>exact Zgt _ _ (by decide +kernel) (by decide +kernel) (by decide +kernel)
   | 1,_=>exact Zgt _ _ (by decide +kernel) (by decide +kernel) (by decide +kernel)) (Zf3 (by decide +kernel) (by decide +kernel)) (λc hc=>by
  simp only [List.mem_cons,List.not_mem_nil,or_false] at hc;rcases hc with rfl | rfl<;>exact Zf3 (by decide +kernel) (by decide +kernel))).mono ?_
 rintro r σ' ⟨svL',svP',rfl,rfl⟩
 refine⟨svL',svP',rfl,⟨?_,?_,?_⟩⟩;all_goals simp only [Zaz];rfl
theorem exm2 (i:Nat) (hi:i=0∨i=1):ExN 0 [E0,E1,E2] i 2:=λσ gB hM svL svP qP hs=>by
 have cp:Pure Tryz.prog 154 [ivs [0,1],ivs [1]] (.v (.bool true)):=by
  have:=Zkj [0,1] [1] (by decide)
  rwa [show copI [0,1] [1]=true from by decide] at this
 have lx:Pure Tryz.prog 18 [poA xP,.v (.int .i64 0)] (.tup [tmA (1,[1]),.v (.bool true)]):=Zjl 0 _ (by decide +kernel) (by decide) (by decide +kernel);rcases hi with rfl | rfl
 ·exact Zs2 σ 19 301 302 17 gB hM qP svL svP 0 [E0,E1,E2] 0 2 d0P xP (1,[0,1]) (1,[1]) hs.b hs.p (by decide) (by decide) (by decide) rfl rfl (Zjl 0 _ (by decide +kernel) (by decide) (by decide +kernel)) lx cp
 ·exact Zs2 σ 19 301 302 17 gB hM qP svL svP 0 [E0,E1,E2] 1 2 d1P xP (1,[0,1]) (1,[1]) hs.b hs.p (by decide) (by decide) (by decide) rfl rfl (Zjl 0 _ (by decide +kernel) (by decide) (by decide +kernel)) lx cp
theorem bas2:Pure Tryz.prog 57 [.sl 1 ([d0P,d1P].map poA),.v (.int .i64 0)] (.tup [.sl 2 ([E0,E1,E2].map elA),iv 0]) :=
 grBasis2 0 [d0P,d1P] [E0,E1] rfl rfl (λp hp=>by
  simp only [List.mem_cons,List.not_mem_nil,or_false] at hp;rcases hp with rfl | rfl<;>exact Zf3 (by decide +kernel) (by decide +kernel)) (λp hp=>by
  simp only [List.mem_cons,List.not_mem_nil,or_false] at hp;rcases hp with rfl | rfl<;>decide) (λi hi=>by
  match i,hi with
  | 0,_=>exact add0
  | 1,_=>exact add1) E2 exm01 (exm2 0 (.inl rfl)) (exm2 1 (.inr rfl))
theorem bas1:Pure Tryz.prog 57 [.sl 1 ([dxP].map poA),.v (.int .i64 1)] (.tup [.sl 2 ([EM].map elA),iv 0]) :=
 grBasis1 1 [dxP] [EM] rfl rfl (λp hp=>by
  simp only [List.mem_cons,List.not_mem_nil,or_false] at hp;subst hp;exact Zf3 (by decide +kernel) (by decide +kernel)) (λp hp=>by
  simp only [List.mem_cons,List.not_mem_nil,or_false] at hp;subst hp;decide) (λi hi=>by
  match i,hi with
  | 0,_=>exact addM1)
def lsP:List Tm:=[(1,[0,1]),(1,[0,1]),(1,[1])]
theorem lsSm:∀i,i < 3→Sm (lsP.getD i (0,[])).2:=λi hi=>by
 have key:∀t∈lsP,litT 4 t=true:=by decide +kernel
 have hm:lsP.getD i (0,[])∈lsP:=by rw [List.getD_eq_getElem?_getD,List.getElem?_eq_getElem hi];exact List.getElem_mem hi
 obtain⟨-,-,h1,h2,h3,-⟩:=Zhx (key _ hm);exact⟨by omega,λj=>⟨h1.1 j,by have:=h3 j;omega⟩⟩
theorem ned3 (σ:Mem) (T:Nat):ACall Tryz.prog 58 [.sl 1 ([E0,E1,E2].map λe=>poA e.1),.v (.int .i64 0)] σ λr σ'=>∃sv,r=.own T sv∧σ'=upd σ T (some (.row sv 23 1 [poA d0P,poA xP] 0)):=by
 have h:=grNeeded σ T 0 [d0P,d1P,xP] lsP (λi k=>cmpI (lsP.getD i (0,[])).2 (lsP.getD k (0,[])).2 0) (λk i=>divI (lsP.getD k (0,[])).2 (lsP.getD i (0,[])).2) (by decide) rfl (by
  have:=Zs0 [d0P,d1P,xP] 0 (λb hb=>by
   simp only [List.mem_cons,List.not_mem_nil,or_false] at hb;rcases hb with rfl | rfl | rfl
   ·exact⟨by decide,λu hu=>(Zdb (d:=4) (p:=d0P) (by decide +kernel)).k.sm (by omega) hu,by decide⟩
   ·exact⟨by decide,λu hu=>(Zdb (d:=4) (p:=d1P) (by decide +kernel)).k.sm (by omega) hu,by decide⟩
   ·exact⟨by decide,λu hu=>(Zdb (d:=4) (p:=xP) (by decide +kernel)).k.sm (by omega) hu,by decide⟩) (by decide) (by decide)
  have e:([d0P,d1P,xP].map λb=>tmA (ldO 0 b))=lsP.map tmA:=by
   simp only [List.map_cons,List.map_nil,show ldO 0 d0P=(1,[0,1]) from by decide +kernel,show ldO 0 d1P=(1,[0,1]) from by decide +kernel,show ldO 0 xP=(1,[1]) from by decide +kernel,lsP]
  rwa [e] at this) (λi k hi hk=>⟨Zpy _ _ 0 (lsSm i hi) (lsSm k hk),Zki _ _ (lsSm k hk).1⟩)
 rw [show ndR (λi k=>cmpI (lsP.getD i (0,[])).2 (lsP.getD k (0,[])).2 0) (λk i=>divI (lsP.getD k (0,[])).2 (lsP.getD i (0,[])).2) [d0P,d1P,xP] [d0P,d1P,xP].length=[d0P,xP] from by decide +kernel] at h;exact h
theorem red2:Pure Tryz.prog 23 [.sl 1 [poA d0P,poA d1P],.v (.int .i64 0)] (.tup [.sl 1 [poA xP,poA yP],iv 0]) :=
 Zsx 0 (-1) [d0P,d1P] [E0,E1,E2] d0P xP yP xP [mnP] [[]] (by decide) bas2 ned3 (Zlp 0 [xP] d0P [mnP] yP (by decide +kernel) (by decide) (by decide +kernel) (by decide +kernel) (by decide +kernel)) (Zlp 0 [yP] xP [[]] xP (by decide +kernel) (by decide) (by decide +kernel) (by decide +kernel) (by decide +kernel)) (by decide)
  λK g=>grLess K g 0 xP yP (1,[1]) (1,[0,1]) (-1) (Zjl 0 _ (by decide +kernel) (by decide) (by decide +kernel)) (Zjl 0 _ (by decide +kernel) (by decide) (by decide +kernel)) (by
   have:=Zpy (lsP.getD 2 (0,[])).2 (lsP.getD 0 (0,[])).2 0 (lsSm 2 (by omega)) (lsSm 0 (by omega))
   rwa [show cmpI (lsP.getD 2 (0,[])).2 (lsP.getD 0 (0,[])).2 0=-1 from by decide +kernel] at this)
theorem mem1:Pure Tryz.prog 26 [poA dfP,.sl 1 [poA dxP]] (.tup [.sl 1 [poA d1P],iv 0]) :=
 Zsz dfP [dxP] d0P mnP qmP d1P d1P rfl bas1 (Zlp 1 [d0P] dfP [qmP] [] (by decide +kernel) (by decide) (by decide +kernel) (by decide +kernel) (by decide +kernel)) (lMul _ (by decide +kernel) (by decide +kernel) (by decide +kernel)).1
  (Zgh (lAdd (p:=[]) (q:=d1P) d1P (by decide +kernel) (by decide +kernel) (by decide +kernel)).1 (.cons (.nil 4) (.cons (.refl _) .nil))) (Zf3 (by decide +kernel) (by decide +kernel))
theorem lwAliveV (X Y a b c d e f g:Po)
 (v0:Pure Tryz.prog 22 [iv 0] (poA X)) (v1:Pure Tryz.prog 22 [iv 1] (poA Y))
 (s1:Pure Tryz.prog 24 [poA Y,poA X] (poA a)) (s2:Pure Tryz.prog 25 [poA Y,poA X] (poA b)) (rd:Pure Tryz.prog 23 [.sl 1 [poA a,poA b],iv 0] (.tup [.sl 1 [poA X,poA Y],iv 0]))
 (m1:Pure Tryz.prog 27 [poA X,poA X] (poA c)) (m2:Pure Tryz.prog 27 [poA Y,poA Y] (poA d)) (s3:Pure Tryz.prog 24 [poA c,poA d] (poA e)) (s4:Pure Tryz.prog 24 [poA X,poA Y] (poA f))
 (mb:Pure Tryz.prog 26 [poA e,.sl 1 [poA f]] (.tup [.sl 1 [poA g],iv 0])) (s5:Pure Tryz.prog 25 [poA X,poA Y] (poA g))
 (q1:Pure Tryz.prog 11 [poA X,poA X] (.v (.bool true))) (q2:Pure Tryz.prog 11 [poA Y,poA Y] (.v (.bool true))) (q3:Pure Tryz.prog 11 [poA g,poA g] (.v (.bool true))) :
 Pure Tryz.prog 7 [] (.v (.bool true)):=by
 refine Zaa (tok:=0) Tryz.func7 rfl Tryz.ntmps7 Tryz.results7 Tryz.call7 (by rfl) (by simp) ?_;(focus (refine wkax w_t w_t w_t w_t (w_2 v0 v1) w_t (w_r 0) ?_;(repeat' first|exact w_t|apply w_l);all_goals intros));(focus (refine wkax w_t (w_1 s2) w_t (w_1 rd) (w_1 s1) w_t (w_r 0) ?_;(repeat' first|exact w_t|apply w_l);all_goals intros))
 (repeat' (first|(fail)|(with_reducible first|refine stp ?_|apply gx1|apply gx2|apply gx3|apply gx4|apply gx5|apply gx6|apply gx7|apply gy8|apply gz2|apply gz3|apply gw1 (mb))|((with_reducible apply gw1 (s4));iterate 4 focus ((with_reducible refine gE ?_);(try simp (disch:=omega) only [go_sem,decide_eq_true,decide_eq_false,if_pos,if_neg,Int.reduceAdd,Int.reduceSub,Int.reduceToNat,Int.zero_add])<;>first|rfl|done))|((with_reducible apply gw1 (s3));iterate 4 focus ((with_reducible refine gE ?_);(try simp (disch:=omega) only [go_sem,decide_eq_true,decide_eq_false,if_pos,if_neg,Int.reduceAdd,Int.reduceSub,Int.reduceToNat,Int.zero_add])<;>first|rfl|done))|((with_reducible apply gw1 (m2));iterate 4 focus ((with_reducible refine gE ?_);(try simp (disch:=omega) only [go_sem,decide_eq_true,decide_eq_false,if_pos,if_neg,Int.reduceAdd,Int.reduceSub,Int.reduceToNat,Int.zero_add])<;>first|rfl|done))|((with_reducible apply gw1 (m1));iterate 4 focus ((with_reducible refine gE ?_);(try simp (disch:=omega) only [go_sem,decide_eq_true,decide_eq_false,if_pos,if_neg,Int.reduceAdd,Int.reduceSub,Int.reduceToNat,Int.zero_add])<;>first|rfl|done))|(with_reducible refine Zbi ?_;intro _)|((with_reducible refine gE ?_);(try simp (disch:=omega) only [go_sem,decide_eq_true,decide_eq_false,if_pos,if_neg,Int.reduceAdd,Int.reduceSub,Int.reduceToNat,Int.zero_add])<;>first|rfl|omega)|with_reducible refine Zaf (by decide) ?_|((with_reducible apply gy1);iterate 3 focus rfl)|((with_reducible apply gy2);iterate 3 focus rfl)|((with_reducible apply gy3);iterate 2 focus rfl)|((with_reducible apply gy4);iterate 1 focus rfl)|((with_reducible apply gy5);iterate 4 focus rfl)|((with_reducible apply gy5c);iterate 4 focus rfl)|((with_reducible apply gy6);iterate 4 focus rfl)|((with_reducible apply Zc0);iterate 3 focus rfl)|((with_reducible apply Zcx);iterate 1 focus rfl)|((with_reducible apply gy7);iterate 1 focus rfl)|((with_reducible apply gy9);(focus ((with_reducible refine gE ?_);(try simp (disch:=omega) only [go_sem,decide_eq_true,decide_eq_false,if_pos,if_neg,Int.reduceAdd,Int.reduceSub,Int.reduceToNat,Int.zero_add])<;>rfl)))|((with_reducible apply gz1);(focus first|rfl|(simp (disch:=omega) only [go_sem,decide_eq_true,decide_eq_false,if_pos,if_neg,Int.reduceAdd,Int.reduceSub,Int.reduceToNat,Int.zero_add];done)))|((with_reducible apply Za2 (id:=99) (Zce []) [] []);(focus kernel_rfl);(focus rfl);(focus kernel_rfl);(focus (simp only [List.length_cons,List.length_nil,Nat.reduceAdd];rfl)))|((with_reducible first|apply Zbl|apply Zbv|apply Zbm);all_goals (intro hc;(try simp only [bool_to_prop] at hc);try (exfalso;omega)))))
 (focus (refine wkld w_t (w_4 s5 q1 q2 q3) w_t (w_1 (w_d 4 [(16,.v (.bool true)),(23,.v (.bool true)),(36,poA g),(37,.v (.bool true))] [] [])) ?_;(repeat' first|exact w_t|apply w_l);all_goals intros))
def degP (p:Po):Int:=p.foldl (λn t=>max n (dgI t.2)) (-1)
def tmLb (t:RT):Bool:=decide (t.r.l.length≤1) && decide (t.r.d.length≤1)
def fewP (terms:Nat) (l:List RT):Bool:=Zei l terms 3 4 && ((decide (degP (l.map RT.tm)≤2) || (decide (4 < terms) && decide (degP (l.map RT.tm)≤4))) && l.all tmLb)
def fewL (L:List (List RT)) (most terms:Nat):Bool:=decide (L.length≤most) && L.all (fewP terms)
abbrev rpA (l:List RT):AV:=.sl 4 (l.map RT.av)
theorem lwAlive:Pure Tryz.prog 7 [] (.v (.bool true)):=by
 have lx:Zfe 4 xP=true:=by decide +kernel
 have ly:Zfe 4 yP=true:=by decide +kernel
 have v0:Pure Tryz.prog 22 [iv 0] (poA xP):=rpVar 0 (by omega);have v1:Pure Tryz.prog 22 [iv 1] (poA yP):=rpVar 1 (by omega);exact lwAliveV xP yP d0P d1P [(1,[2])] [(1,[0,2])] dfP dxP d1P v0 v1 (lSub _ ly lx (by decide +kernel)).2 (lAdd _ ly lx (by decide +kernel)).2 red2 (lMul _ lx lx (by decide +kernel)).2 (lMul _ ly ly (by decide +kernel)).2 (lSub _ (by decide +kernel) (by decide +kernel) (by decide +kernel)).2 (lSub _ lx ly (by decide +kernel)).2 mem1 (lAdd _ lx ly (by decide +kernel)).2 (lEq lx rfl) (lEq ly rfl) (lEq (by decide +kernel) rfl)
theorem Zhm (l1 l2:List AV) (o n:Int) (x:AV) (hx:x=.v (.slice none 0 0)∨∃z:Po,x=poA z) (b1 b2:Bool)
 (c1:Pure Tryz.prog 12 [.sl 4 l1,iv 8,iv 4,iv 8] (.v (.bool b1))) (c2:Pure Tryz.prog 12 [.sl 4 l2,iv 8,iv 4,iv 8] (.v (.bool b2)))
 (c3:b1=true→b2=true→Pure Tryz.prog 13 [.sl 4 l1,.sl 4 l2,.v (.int .i64 o)] (.tup [x,iv n])∧Pure Tryz.prog 14 [.sl 4 l1,.sl 4 l2,.v (.int .i64 o)] (.tup [x,iv n])∧Pure Tryz.prog 11 [x,x] (.v (.bool true))) :
 Pure Tryz.prog 4 [.sl 4 l1,.sl 4 l2,.v (.int .i64 o)] (.v (.bool true)):=by
 have al:=lwAlive;cases b1
 ·refine Zaa (tok:=0) Tryz.func4 rfl Tryz.ntmps4 Tryz.results4 Tryz.call4 (by rfl) (by simp) ?_;(focus (refine wkax w_t (w_1 al) w_t w_t (w_1 c1) w_t (w_r 0) ?_;(repeat' first|exact w_t|apply w_l);all_goals intros))
  (all_goals (try simp (disch:=omega) only [go_sem,decide_eq_true,decide_eq_false,if_pos,if_neg,Int.reduceAdd,Int.reduceSub,Int.reduceToNat,Int.zero_add]));(all_goals first|done|rfl|(congr 2;first|done|omega|(rw [Bool.eq_iff_iff];simp only [bool_to_prop,Bool.false_eq_true,iff_true,true_iff,iff_false,false_iff];omega))|skip)
 ·cases b2
  ·refine Zaa (tok:=0) Tryz.func4 rfl Tryz.ntmps4 Tryz.results4 Tryz.call4 (by rfl) (by simp) ?_;(focus (refine wkax w_t (w_1 al) w_t w_t (w_2 c1 c2) w_t (w_r 0) ?_;(repeat' first|exact w_t|apply w_l);all_goals intros))
   (all_goals (try simp (disch:=omega) only [go_sem,decide_eq_true,decide_eq_false,if_pos,if_neg,Int.reduceAdd,Int.reduceSub,Int.reduceToNat,Int.zero_add]));(all_goals first|done|rfl|(congr 2;first|done|omega|(rw [Bool.eq_iff_iff];simp only [bool_to_prop,Bool.false_eq_true,iff_true,true_iff,iff_false,false_iff];omega))|skip)
  ·obtain⟨p1,p2,p3⟩:=c3 rfl rfl;rcases hx with rfl | ⟨z,rfl⟩
   all_goals
    refine Zaa (tok:=0) Tryz.func4 rfl Tryz.ntmps4 Tryz.results4 Tryz.call4 (by rfl) (by simp) ?_;(focus (refine wkax w_t (w_4 p1 p2 p3 al) w_t w_t (w_2 c1 c2) w_t (w_r 0) ?_;(repeat' first|exact w_t|apply w_l);all_goals intros))
    (all_goals (try simp (disch:=omega) only [go_sem,decide_eq_true,decide_eq_false,if_pos,if_neg,Int.reduceAdd,Int.reduceSub,Int.reduceToNat,Int.zero_add]));(all_goals first|done|rfl|(congr 2;first|done|omega|(rw [Bool.eq_iff_iff];simp only [bool_to_prop,Bool.false_eq_true,iff_true,true_iff,iff_false,false_iff];omega))|skip)
theorem eqPo {p:Po} {n j e:Nat} (h:PB p n j e) (hn:n≤1000000) (hj:j≤2000000) (he:e≤1000):Pure Tryz.prog 11 [poA p,poA p] (.v (.bool true)):=by
 have l:=h.l;have:=Zrt p p h.k h.k h.s.dom h.s.dom (by omega) (by omega) hj hj (by omega) (by omega)
 rwa [decide_eq_true rfl] at this
theorem lawPairs (l1 l2:List RT) (o:Int) (h1:∀t∈l1,t.r.lm maxLen) (h2:∀t∈l2,t.r.lm maxLen):Pure Tryz.prog 4 [rpA l1,rpA l2,.v (.int .i64 o)] (.v (.bool true)):=by
 have c1:=Zrr l1 8 4 8 (by omega) (by omega) λt ht=>⟨(h1 t ht).1,(h1 t ht).2.1⟩;have c2:=Zrr l2 8 4 8 (by omega) (by omega) λt ht=>⟨(h2 t ht).1,(h2 t ht).2.1⟩;by_cases hs:Zei l1 8 4 8=true∧Zei l2 8 4 8=true
 ·obtain⟨e1,p1,v1⟩:=sm_in hs.1 h1;obtain⟨e2,p2,v2⟩:=sm_in hs.2 h2;have P1:PS (l1.map RT.tm):=⟨p1,λt ht=>(v1 t ht).2⟩;have P2:PS (l2.map RT.tm):=⟨p2,λt ht=>(v2 t ht).2⟩;obtain⟨a1,a2⟩:=pairs12 o P1 P2;rw [←e1,←e2] at a1 a2;have nl:Pure Tryz.prog 11 [.v (.slice none 0 0),.v (.slice none 0 0)] (.v (.bool true)):=Zgh (eqPo (p:=[]) (PB.nil (n:=0) (j:=0) (e:=0)) (by omega) (by omega) (by omega)) (.cons (.nil 4) (.cons (.nil 4) .nil));by_cases hz:l1.map RT.tm=[]∨l2.map RT.tm=[]
  ·rw [show prA o (l1.map RT.tm) (l2.map RT.tm)=.tup [.v (.slice none 0 0),iv 3] from if_pos hz] at a1 a2;exact Zhm _ _ o 3 _ (.inl rfl) _ _ c1 c2 λ_ _=>⟨a1,a2,nl⟩
  ·have e:prA o (l1.map RT.tm) (l2.map RT.tm)=if bigP (prZ o (l1.map RT.tm) (l2.map RT.tm))=true then .tup [.v (.slice none 0 0),iv 4] else .tup [poA (prZ o (l1.map RT.tm) (l2.map RT.tm)),iv 0]:=if_neg hz;by_cases hb:bigP (prZ o (l1.map RT.tm) (l2.map RT.tm))=true
   ·rw [e,if_pos hb] at a1 a2;exact Zhm _ _ o 4 _ (.inl rfl) _ _ c1 c2 λ_ _=>⟨a1,a2,nl⟩
   ·rw [e,if_neg hb] at a1 a2;exact Zhm _ _ o 0 _ (.inr ⟨_,rfl⟩) _ _ c1 c2 λ_ _=>⟨a1,a2,eqPo (prZ_pb P1 P2 (λg=>hz (.inl g)) λg=>hz (.inr g)) (by omega) (by omega) (by omega)⟩
 ·exact Zhm _ _ o 0 (.v (.slice none 0 0)) (.inl rfl) _ _ c1 c2 λg1 g2=>absurd ⟨g1,g2⟩ hs
section
variable {N n:Nat} {cs:List AV}
theorem agI64:Zfs Tryz.prog 3=false:=by kernel_rfl
theorem csI64:Tryz.prog.cellsOf 3=1:=by kernel_rfl
theorem agPol:Zfs Tryz.prog 23=false:=by kernel_rfl
theorem shMo (h:Zc2 Tryz.prog N n 46 cs):∃l:List Int,cs=[ivs l]∧l.length≤N:=by
 obtain⟨bs,rfl,hl,_⟩:=Zfa (g:=λk:Int=>[iv k]) (Q:=λ_=>True) Tryz.underlying46 h λm x hx=>by
  obtain⟨i,rfl,_⟩:=Ziy Tryz.underlying3 hx;exact⟨i,rfl,trivial⟩
 refine⟨bs,?_,hl⟩;rw [csI64];have:(bs.map λb:Int=>Zdf Tryz.prog 3 [iv b])=bs.map iv:=List.map_congr_left λb _=>Zft agI64 _;rw [this]
theorem shTe (h:Zc2 Tryz.prog N n 48 cs):∃t:RT,cs=[.v (.bool t.r.s),lim t.r.l,lim t.r.d,ivs t.m]∧t.r.lm N:=by
 obtain⟨m,rfl,hs⟩:=Zfx Tryz.underlying48 (by kernel_rfl) h;obtain⟨x,y,rfl,h1,hs⟩:=hs.inv;obtain⟨x2,y,rfl,h2,hs⟩:=hs.inv;obtain rfl:=hs.inv0;obtain⟨r,rfl,hr⟩:=shRat h1;obtain⟨l,rfl,_⟩:=shMo h2;exact⟨⟨r,l⟩,rfl,hr⟩
theorem shPo (h:Zc2 Tryz.prog N n 23 cs):∃l:List RT,cs=[rpA l]∧∀t∈l,t.r.lm N:=by
 obtain⟨bs,rfl,hl,hq⟩:=Zfa (g:=λt:RT=>[.v (.bool t.r.s),lim t.r.l,lim t.r.d,ivs t.m]) (Q:=λt=>t.r.lm N) Tryz.underlying23 h λm x hx=>shTe hx;refine⟨bs,?_,hq⟩;rw [show Tryz.prog.cellsOf 48=4 from by kernel_rfl];have:(bs.map λt:RT=>Zdf Tryz.prog 48 [.v (.bool t.r.s),lim t.r.l,lim t.r.d,ivs t.m])=bs.map RT.av:=List.map_congr_left λb _=>Zrc Tryz.underlying48 _;rw [this]
end
theorem saidPairs (xs:List AV) (h:ShapeL Tryz.prog maxLen 9 [23,23,3] xs):Pure Tryz.prog 4 xs (.v (.bool true)):=by
 obtain⟨x,bs,rfl,h1,h⟩:=h.inv;obtain⟨y,bs,rfl,h2,h⟩:=h.inv;obtain⟨z,bs,rfl,h3,h⟩:=h.inv;obtain rfl:=h.inv0;obtain⟨l1,rfl,k1⟩:=shPo h1;obtain⟨l2,rfl,k2⟩:=shPo h2;obtain⟨o,rfl,-⟩:=Ziy Tryz.underlying3 h3;rw [Zft agPol,Zft agPol,Zft agI64];exact lawPairs l1 l2 o k1 k2
end Go.Proofs.YtimmnimikmnljaaGreat
