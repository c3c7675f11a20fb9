/- Contracts of the functions that the law reaches, and the rules by which they are walked. They say what a call hands back for every input within the bounds that each names; no other condition. -/
import Derived.Test.YtimmnimikmnljaaGreatBd13
set_option linter.unusedSimpArgs false
set_option linter.unusedVariables false
set_option maxRecDepth 20000
set_option maxHeartbeats 16000000
namespace Go.Proofs.YtimmnimikmnljaaGreat
open Go Go.RowKit Go.Pg Go.Pol
attribute [-bool_to_prop] Bool.and_eq_decide Bool.or_eq_decide Bool.decide_beq_decide decide_eq_decide
attribute [local go_sem] Tryz.underlying3 Tryz.underlying4 Tryz.underlying27 Tryz.underlying44 Tryz.underlying42 Tryz.underlying40 Tryz.underlying48 Tryz.underlying22 Tryz.underlying46 Tryz.underlying23 Tryz.underlying24 Tryz.underlying45 sz3 by3 z3 szB zB Zcd zRat Zcf zInt Zce zNat Zbq Zbt Zcs Zbs Zbv Zcu Zbr Zbu Zct
theorem grLeadsZ (bs:List Po) (o:Int) (z:Nat) (hz:z < bs.length) (h0:bs.getD z []=[]) (h:∀j,j < z→BO (bs.getD j [])) (hl:bs.length≤1000):Pure Tryz.prog 28 [.sl 1 (bs.map poA),.v (.int .i64 o)] (.tup [.v (.slice none 0 0),.v (.bool false)]):=by
 have hgl:∀i,i < bs.length→(bs.map poA).getD i .u=poA (bs.getD i []):=λi hi=>by rw [Zbb poA hi,List.getD_eq_getElem?_getD,List.getElem?_eq_getElem hi];rfl
 have hlm:(bs.map poA).length=bs.length:=List.length_map ..;generalize hM:bs.map poA=M at *;refine Zaa (tok:=0) Tryz.func28 rfl Tryz.ntmps28 Tryz.results28 Tryz.call28 (by rfl) (by simp) ?_;(focus (refine wkad (w_1 hlm) w_t w_t ?_;(repeat' first|exact w_t|apply w_l);all_goals intros));refine Ze5 (Frz.nilOwn (d:=6) 28 4 48 (by exact gC)) ?_;refine Zag (ι:=Nat) (λi e m=>i≤z∧e 11=.sl 1 M∧e 12=iv bs.length∧e 13=iv i∧e 1=.v (.int .i64 o)∧∃sv out,out.length=i∧e 6=.own 28 sv∧m 28=some (.row sv 48 4 out 0)) (λi=>z - i) 0 (by rfl) ?_ ?_
 ·rintro i e m ⟨hi,e11,e12,e13,e1,sv,out,ho,e6,m28⟩
  have hg:=hgl i (by omega);have hlt':i < bs.length:=by omega
  by_cases hlt:i < z
  ·have hb:=h i hlt;have c:=Zjb (bs.getD i []) o hb.n (λu hu=>hb.pb.k.sm (by omega) hu) (by have:=hb.l;omega);generalize ldO o (bs.getD i [])=w at *;generalize bs.getD i []=b at *;obtain⟨w1,w2⟩:=w;(focus (refine wkad (w_9 e11 e12 e13 e1 e6 m28 hg hlm ho) (w_1 c) w_t ?_;(repeat' first|exact w_t|apply w_l);all_goals intros));exact⟨i+1,⟨by omega,by exact gW e11,by exact gW e12,by exact gS,by exact gW e1,_,out++[tmA (w1,w2)],by rw [List.length_append,ho];rfl,by exact gC,by exact gC⟩,by omega⟩
  ·obtain rfl:i=z:=by omega
   rw [h0] at hg;have c:Pure Tryz.prog 18 [AV.sl 4 [],AV.v (.int .i64 o)] _:=poLeadN o;(focus (refine wkld (w_8 e11 e12 e13 e1 e6 m28 hg hlm) (w_1 c) w_t w_t ?_;(repeat' first|exact w_t|apply w_l);all_goals intros))
 ·exact⟨Nat.zero_le _,by exact gC,by exact gW hlm,by exact gC,by exact gC,_,[],rfl,by exact gC,by exact gC⟩
theorem Znv (P:Po) (bs:List Po) (o:Int) (z:Nat) (hz:z < bs.length) (h0:bs.getD z []=[]) (h:∀j,j < z→BO (bs.getD j [])) (hl:bs.length≤1000):Pure Tryz.prog 8 [poA P,.sl 1 (bs.map poA),.v (.int .i64 o)] (.tup [.v (.slice none 0 0),.v (.slice none 0 0),iv 3]):=by
 have c:=grLeadsZ bs o z hz h0 h hl;generalize bs.map poA=M at *;refine Zaa (tok:=0) Tryz.func8 rfl Tryz.ntmps8 Tryz.results8 Tryz.call8 (by rfl) (by simp) ?_;(focus (refine wkad w_t w_t w_t ?_;(repeat' first|exact w_t|apply w_l);all_goals intros));refine Zoq (by rfl) ?_;(focus (refine wkld w_t (w_1 c) w_t w_t ?_;(repeat' first|exact w_t|apply w_l);all_goals intros))
theorem Zsk (P:Po) (bs:List Po) (o:Int) (z:Nat) (hz:z < bs.length) (h0:bs.getD z []=[]) (h:∀j,j < z→BO (bs.getD j [])) (hl:bs.length≤1000):Pure Tryz.prog 9 [poA P,.sl 1 (bs.map poA),.v (.int .i64 o)] (.tup [.v (.slice none 0 0),.v (.slice none 0 0),iv 3]):=by
 have hgl:∀i,i < bs.length→(bs.map poA).getD i .u=poA (bs.getD i []):=λi hi=>by rw [Zbb poA hi,List.getD_eq_getElem?_getD,List.getElem?_eq_getElem hi];rfl
 have hlm:(bs.map poA).length=bs.length:=List.length_map ..;generalize hM:bs.map poA=M at *;refine Zaa (tok:=0) Tryz.func9 rfl Tryz.ntmps9 Tryz.results9 Tryz.call9 (by rfl) (by simp) ?_;(focus (refine wkad w_t w_t w_t ?_;(repeat' first|exact w_t|apply w_l);all_goals intros));refine Zag (ι:=Nat) (λi e m=>i≤z∧e 1=.sl 1 M∧e 9=iv i) (λi=>z - i) 0 (by rfl) ?_ ?_
 ·rintro i e m ⟨hi,e1,e9⟩
  have hg:=hgl i (by omega);have hlt':i < bs.length:=by omega
  by_cases hlt:i < z
  ·have hn:(bs.getD i []).length≠0:=λg=>(h i hlt).n (List.length_eq_zero_iff.1 g);generalize bs.getD i []=b at *;(focus (refine wkad (w_6 e1 e9 hg hlm hn @Za4) w_t w_t ?_;(repeat' first|exact w_t|apply w_l);all_goals intros));exact⟨i+1,⟨by omega,by exact gW e1,by exact gS⟩,by omega⟩
  ·obtain rfl:i=z:=by omega
   rw [h0] at hg
   (repeat' (first|(with_reducible first|refine stp ?_|apply gx1|apply gx2|apply gx3|apply gx4|apply gx5|apply gx6|apply gx7|apply gy8|apply gz2|apply gz3)|(with_reducible refine Zbf ?_;intro _)|((with_reducible refine gE ?_);(try simp (disch:=omega) only [go_sem,e1,e9,hg,hlm,List.length_map,List.length_nil,decide_eq_true,decide_eq_false,if_pos,if_neg,Int.reduceAdd,Int.reduceSub,Int.reduceToNat,Int.zero_add])<;>first|rfl|omega)|with_reducible refine Zaf (by decide) ?_|((with_reducible apply gy1);iterate 3 focus rfl)|((with_reducible apply gy2);iterate 3 focus rfl)|((with_reducible apply gy3);iterate 2 focus rfl)|((with_reducible apply gy4);iterate 1 focus rfl)|((with_reducible apply gy5);iterate 4 focus rfl)|((with_reducible apply gy5c);iterate 4 focus rfl)|((with_reducible apply gy6);iterate 4 focus rfl)|((with_reducible apply Zc0);iterate 3 focus rfl)|((with_reducible apply Zcz);iterate 1 focus rfl)|((with_reducible apply gy7);iterate 1 focus rfl)|((with_reducible apply gy9);(focus ((with_reducible refine gE ?_);(try simp (disch:=omega) only [go_sem,e1,e9,hg,hlm,List.length_map,List.length_nil,decide_eq_true,decide_eq_false,if_pos,if_neg,Int.reduceAdd,Int.reduceSub,Int.reduceToNat,Int.zero_add])<;>rfl)))|((with_reducible apply gz1);(focus first|rfl|(simp (disch:=omega) only [go_sem,e1,e9,hg,hlm,List.length_map,List.length_nil,decide_eq_true,decide_eq_false,if_pos,if_neg,Int.reduceAdd,Int.reduceSub,Int.reduceToNat,Int.zero_add];done)))|((with_reducible apply Za2 (Zcg []) [] []);(focus kernel_rfl);(focus rfl);(focus kernel_rfl);(focus (simp only [List.length_cons,List.length_nil,Nat.reduceAdd];rfl)))|((with_reducible first|apply Zbm|apply Zbw|apply Zbn);all_goals (intro hc;(try simp only [bool_to_prop] at hc);try (exfalso;omega)))))
   (all_goals (try simp (disch:=omega) only [go_sem,decide_eq_true,decide_eq_false,if_pos,if_neg,Int.reduceAdd,Int.reduceSub,Int.reduceToNat,Int.zero_add]));(all_goals first|done|rfl|(congr 2;first|done|omega|(rw [Bool.eq_iff_iff];simp only [bool_to_prop,Bool.false_eq_true,iff_true,true_iff,iff_false,false_iff];omega))|skip)
 ·exact⟨Nat.zero_le _,by exact gC,by exact gC⟩
theorem Ztw {L:List (List RT)} {a b:Nat} (h:fewL L a b=true) (hs:∀l∈L,∀t∈l,t.r.lm maxLen):AV.sl 1 (L.map rpA)=AV.sl 1 ((L.map λl=>l.map RT.tm).map poA)∧L.length≤a∧∀l∈L,SrtM (l.map RT.tm)∧(l.map RT.tm).length≤b∧(∀t∈l.map RT.tm,Sz t.1 1)∧∀t∈l.map RT.tm,t.2.length≤3∧(dgI t.2≤2∨(4 < b∧dgI t.2≤4)):=by
 unfold fewL at h;simp only [Bool.and_eq_true,decide_eq_true_eq,List.all_eq_true] at h;obtain⟨h1,h2⟩:=h;have key:∀l∈L,rpA l=poA (l.map RT.tm)∧SrtM (l.map RT.tm)∧(l.map RT.tm).length≤b∧(∀t∈l.map RT.tm,Sz t.1 1)∧∀t∈l.map RT.tm,t.2.length≤3∧(dgI t.2≤2∨(4 < b∧dgI t.2≤4)):=λl hl=>by
  have:=h2 l hl;unfold fewP at this;simp only [Bool.and_eq_true,Bool.or_eq_true,decide_eq_true_eq,List.all_eq_true] at this;obtain⟨g1,g2,g3⟩:=this;obtain⟨e,pb,pl⟩:=sm_in g1 (hs l hl);refine⟨e,pb.s,pb.l,λu hu=>?_,λu hu=>⟨(pl u hu).1,?_⟩⟩
  ·obtain⟨t,ht,rfl⟩:=List.mem_map.1 hu;have hb:=g3 t ht;unfold tmLb at hb;simp only [Bool.and_eq_true,decide_eq_true_eq] at hb;have hlm:=hs l hl t ht;unfold Zeg at g1;simp only [Bool.and_eq_true] at g1;have hp:=g1.2.2;obtain⟨i,hi,rfl⟩:=List.mem_iff_getElem.1 ht
   have ok:(l.getD i RT.zero).ok=true:=by
    have:=List.all_eq_true.1 hp i (List.mem_range.2 hi);unfold Zi0 at this;simp only [Bool.and_eq_true] at this;exact this.1
   rw [Zm1 hi] at ok;unfold RT.ok at ok;simp only [Bool.and_eq_true] at ok;exact(RQ.ok_av ⟨hlm.1,hlm.2.1,hb.1,hb.2⟩ ok.1).2
  ·rcases g2 with g2 | g2
   ·exact .inl (((Zmf 2 _ _).1 g2).2 u hu)
   ·exact .inr ⟨g2.1,((Zmf 4 _ _).1 g2.2).2 u hu⟩
 refine⟨?_,h1,λl hl=>(key l hl).2⟩;rw [List.map_map];congr 1;exact List.map_congr_left λl hl=>(key l hl).1
theorem few_bo {L:List (List RT)} {b:Nat} (hb:b≤4) (h:∀l∈L,SrtM (l.map RT.tm)∧(l.map RT.tm).length≤b∧(∀t∈l.map RT.tm,Sz t.1 1)∧∀t∈l.map RT.tm,t.2.length≤3∧(dgI t.2≤2∨(4 < b∧dgI t.2≤4))):∀c∈(L.map λl=>l.map RT.tm),c=[]∨BO c:=λc hc=>by
 obtain⟨l,hl,rfl⟩:=List.mem_map.1 hc;obtain⟨h1,h2,h3,h4⟩:=h l hl;by_cases e:l.map RT.tm=[]
 ·exact .inl e
 ·exact .inr ⟨h1,e,by omega,h3,λt ht=>⟨(h4 t ht).1,by rcases (h4 t ht).2 with g | g<;>omega⟩⟩
theorem Zry {bs:List Po} (h:∀c∈bs,c=[]∨BO c):(∀c∈bs,BO c)∨∃z,z < bs.length∧bs.getD z []=[]∧∀j,j < z→BO (bs.getD j []):=by
 induction bs with
 | nil=>exact .inl λc hc=>by cases hc
 | cons b bs ih =>
   by_cases e:b=[]
   ·exact .inr ⟨0,by simp,by rw [e];rfl,λj hj=>absurd hj (by omega)⟩
   ·have hb:=(h b (.head _)).resolve_left e;rcases ih λc hc=>h c (.tail _ hc) with g | ⟨z,g1,g2,g3⟩
    ·exact .inl λc hc=>by
      rcases List.mem_cons.1 hc with rfl | hc
      ·exact hb
      ·exact g c hc
    ·exact .inr ⟨z+1,by simpa using g1,by simpa using g2,λj hj=>by
      cases j with
      | zero=>exact hb
      | succ j=>exact g3 j (by omega)⟩
attribute [local go_sem] Zee Zep Zg4 Zg9 zSlE Zed Zg3 Zef Zeq Zg5 Tryz.underlying87 Tryz.underlying83 Tryz.underlying120 Tryz.underlying117 Tryz.underlying126 Zfa Zh3 zArr Ze9 Zh2 zMap
theorem Zju (l M:List AV) (o n:Int) (x y:AV) (hx:(x=.v (.slice none 0 0)∧y=.v (.slice none 0 0))∨∃(q:List AV) (z:Po),x=.sl 1 q∧y=poA z) (b1 b2:Bool)
 (c1:Pure Tryz.prog 6 [.sl 1 [.sl 4 l],iv 1,iv 8] (.v (.bool b1))) (c2:Pure Tryz.prog 6 [.sl 1 M,iv 4,iv 4] (.v (.bool b2)))
 (c3:b1=true→b2=true→Pure Tryz.prog 8 [.sl 4 l,.sl 1 M,.v (.int .i64 o)] (.tup [x,y,iv n])∧Pure Tryz.prog 9 [.sl 4 l,.sl 1 M,.v (.int .i64 o)] (.tup [x,y,iv n])∧Pure Tryz.prog 10 [x,x] (.v (.bool true))∧Pure Tryz.prog 11 [y,y] (.v (.bool true))) :
 Pure Tryz.prog 3 [.sl 4 l,.sl 1 M,.v (.int .i64 o)] (.v (.bool true)):=by
 have al:=Zpe;cases b1
 ·refine Zaa (tok:=0) Tryz.func3 rfl Tryz.ntmps3 Tryz.results3 Tryz.call3 (by rfl) (by simp) ?_;(focus (refine wkax w_t (w_1 al) w_t w_t (w_1 c1) w_t (w_r 0) ?_;(repeat' first|exact w_t|apply w_l);all_goals intros))
  (all_goals (try simp (disch:=omega) only [go_sem,decide_eq_true,decide_eq_false,if_pos,if_neg,Int.reduceAdd,Int.reduceSub,Int.reduceToNat,Int.zero_add]));(all_goals first|done|rfl|(congr 2;first|done|omega|(rw [Bool.eq_iff_iff];simp only [bool_to_prop,Bool.false_eq_true,iff_true,true_iff,iff_false,false_iff];omega))|skip)
 ·cases b2
  ·refine Zaa (tok:=0) Tryz.func3 rfl Tryz.ntmps3 Tryz.results3 Tryz.call3 (by rfl) (by simp) ?_;(focus (refine wkax w_t (w_1 al) w_t w_t (w_2 c1 c2) w_t (w_r 0) ?_;(repeat' first|exact w_t|apply w_l);all_goals intros))
   (all_goals (try simp (disch:=omega) only [go_sem,decide_eq_true,decide_eq_false,if_pos,if_neg,Int.reduceAdd,Int.reduceSub,Int.reduceToNat,Int.zero_add]));(all_goals first|done|rfl|(congr 2;first|done|omega|(rw [Bool.eq_iff_iff];simp only [bool_to_prop,Bool.false_eq_true,iff_true,true_iff,iff_false,false_iff];omega))|skip)
  ·obtain⟨p1,p2,p3,p4⟩:=c3 rfl rfl;rcases hx with⟨rfl,rfl⟩ | ⟨q,z,rfl,rfl⟩
   all_goals
    refine Zaa (tok:=0) Tryz.func3 rfl Tryz.ntmps3 Tryz.results3 Tryz.call3 (by rfl) (by simp) ?_;(focus (refine wkax w_t (w_5 p1 p2 p3 p4 al) w_t w_t (w_2 c1 c2) w_t (w_r 0) ?_;(repeat' first|exact w_t|apply w_l);all_goals intros))
    (all_goals (try simp (disch:=omega) only [go_sem,decide_eq_true,decide_eq_false,if_pos,if_neg,Int.reduceAdd,Int.reduceSub,Int.reduceToNat,Int.zero_add]));(all_goals first|done|rfl|(congr 2;first|done|omega|(rw [Bool.eq_iff_iff];simp only [bool_to_prop,Bool.false_eq_true,iff_true,true_iff,iff_false,false_iff];omega))|skip)
theorem one_in {l:List RT} {b:Nat} (h:fewL [l] 1 b=true) (hs:∀t∈l,t.r.lm maxLen):rpA l=poA (l.map RT.tm)∧SrtM (l.map RT.tm)∧(l.map RT.tm).length≤b∧(∀t∈l.map RT.tm,Sz t.1 1)∧∀t∈l.map RT.tm,t.2.length≤3∧(dgI t.2≤2∨(4 < b∧dgI t.2≤4)):=by
 obtain⟨e,-,k⟩:=Ztw h (by simpa using hs);refine⟨?_,k l (.head _)⟩;injection e with _ e
 simpa using e
theorem dvBoth (o:Int) (p:Po) (bs:List Po) (hp:SrtM p) (hl:p.length≤8) (hz:∀t∈p,Sz t.1 1) (hx:∀t∈p,t.2.length≤3∧dgI t.2≤4) (hb:∀c∈bs,c=[]∨BO c) (hn:bs.length≤4) :
 ∃(x y:AV) (n:Int),((x=.v (.slice none 0 0)∧y=.v (.slice none 0 0))∨∃(q:List AV) (z:Po),x=.sl 1 q∧y=poA z)∧Pure Tryz.prog 8 [poA p,.sl 1 (bs.map poA),.v (.int .i64 o)] (.tup [x,y,iv n])∧Pure Tryz.prog 9 [poA p,.sl 1 (bs.map poA),.v (.int .i64 o)] (.tup [x,y,iv n])∧Pure Tryz.prog 10 [x,x] (.v (.bool true))∧Pure Tryz.prog 11 [y,y] (.v (.bool true)):=by
 have ne:Pure Tryz.prog 11 [.v (.slice none 0 0),.v (.slice none 0 0)] (.v (.bool true)):=Zfn (eqPo (p:=[]) (PB.nil (n:=0) (j:=0) (e:=0)) (by omega) (by omega) (by omega)) (.cons (.nil 4) (.cons (.nil 4) .nil));have ns:Pure Tryz.prog 10 [.v (.slice none 0 0),.v (.slice none 0 0)] (.v (.bool true)):=Zfn (rsSame [] (by simp) λq h=>by cases h) (.cons (.nil 1) (.cons (.nil 1) .nil));rcases Zry hb with hb | ⟨z,z1,z2,z3⟩
 ·have ds:=Zmb (o:=o) (bs:=bs) hp hl hz hx;have pb:PB p 8 10 16:=⟨hp,ds.1.pk,hl⟩;have g1:=Zl6 o bs p hb (by omega) pb ds;have g2:=rfDivide o bs p hb (by omega) pb ds
  cases hr:(if bigP p=true then none else Zdn o bs ⟨p,List.replicate bs.length [],[]⟩) with
  | none =>
    rw [hr] at g1 g2;exact⟨_,_,(4:Int),.inl ⟨rfl,rfl⟩,g1,g2,ns,ne⟩
  | some s =>
    rw [hr] at g1 g2
    have hr':Zdn o bs ⟨p,List.replicate bs.length [],[]⟩=some s:=by
     by_cases hbig:bigP p=true
     ·rw [if_pos hbig] at hr;cases hr
     ·rwa [if_neg hbig] at hr
    obtain⟨j,hj,hD,-,-⟩:=Zmc hb (λ_=>True) (λ_ _ _ _ _ _ _=>trivial) _ 0 _ s (Nat.le_refl _) ds.1 trivial ds.2 hr';refine⟨_,_,(0:Int),.inr ⟨_,s.r,rfl,rfl⟩,g1,g2,rsSame s.q (by have:=hD.lq;omega) λq hq=>?_,?_⟩
    ·obtain⟨i,hi,rfl⟩:=List.mem_iff_getElem.1 hq;obtain⟨a,b,c⟩:=hD.pq (i:=i) (by rw [←hD.lq];exact hi);rw [List.getD_eq_getElem?_getD,List.getElem?_eq_getElem hi] at a b c;exact eqPo (n:=20809) ⟨a,b,Nat.le_trans c hj⟩ (by omega) (by omega) (by omega)
    ·obtain⟨a,b,c⟩:=hD.pr;exact eqPo (n:=20809) ⟨a,b,Nat.le_trans c hj⟩ (by omega) (by omega) (by omega)
 ·exact⟨_,_,(3:Int),.inl ⟨rfl,rfl⟩,Znv p bs o z z1 z2 z3 (by omega),Zsk p bs o z z1 z2 z3 (by omega),ns,ne⟩
theorem Zrl (l:List RT) (L:List (List RT)) (o:Int) (h1:∀t∈l,t.r.lm maxLen) (h2:∀l∈L,∀t∈l,t.r.lm maxLen):Pure Tryz.prog 3 [rpA l,.sl 1 (L.map rpA),.v (.int .i64 o)] (.v (.bool true)):=by
 have h1':∀m∈[l],∀t∈m,t.r.lm maxLen:=by simpa using h1
 have c1:Pure Tryz.prog 6 [.sl 1 [rpA l],iv 1,iv 8] (.v (.bool (fewL [l] 1 8))):=lwFew [l] 1 8 (by omega) (by omega) (λm hm t ht=>⟨(h1' m hm t ht).1,(h1' m hm t ht).2.1⟩) h1';have c2:=lwFew L 4 4 (by omega) (by omega) (λm hm t ht=>⟨(h2 m hm t ht).1,(h2 m hm t ht).2.1⟩) h2;by_cases hs:fewL [l] 1 8=true∧fewL L 4 4=true
 ·obtain⟨e1,p1,p2,p3,p4⟩:=one_in hs.1 h1;obtain⟨e2,k1,k2⟩:=Ztw hs.2 h2;obtain⟨x,y,n,hx,a1,a2,a3,a4⟩:=dvBoth o (l.map RT.tm) (L.map λl=>l.map RT.tm) p1 p2 p3 (λt ht=>⟨(p4 t ht).1,by rcases (p4 t ht).2 with g | g<;>omega⟩) (few_bo (by omega) k2) (by rwa [List.length_map]);rw [←e1,←e2] at a1 a2;exact Zju _ _ o n x y hx _ _ c1 c2 λ_ _=>⟨a1,a2,a3,a4⟩
 ·exact Zju _ _ o 0 _ _ (.inl ⟨rfl,rfl⟩) _ _ c1 c2 λg1 g2=>absurd ⟨g1,g2⟩ hs
theorem saidDivides (xs:List AV) (h:ShapeL Tryz.prog maxLen 9 [23,24,3] xs):Pure Tryz.prog 3 xs (.v (.bool true)):=by
 obtain⟨x,bs,rfl,h1,h⟩:=h.inv;obtain⟨y,bs,rfl,h2,h⟩:=h.inv;obtain⟨z,bs,rfl,h3,h⟩:=h.inv;obtain rfl:=h.inv0;obtain⟨l1,rfl,k1⟩:=shPo h1;obtain⟨l2,rfl,k2⟩:=shPos h2;obtain⟨o,rfl,-⟩:=Zhk Tryz.underlying3 h3;rw [Zda agPol,Zda (by kernel_rfl),Zda agI64];exact Zrl l1 l2 o k1 k2
end Go.Proofs.YtimmnimikmnljaaGreat
