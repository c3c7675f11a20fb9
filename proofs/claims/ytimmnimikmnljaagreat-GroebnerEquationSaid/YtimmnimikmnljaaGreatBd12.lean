/- Contracts of the functions that the law reaches, and the rules by which they are walked. They say what a call hands back for every input within the bounds that each names; no other condition. -/
import Derived.Test.YtimmnimikmnljaaGreatBd11
set_option linter.unusedSimpArgs false
set_option linter.unusedVariables false
set_option maxRecDepth 20000
set_option maxHeartbeats 16000000
namespace Go.Proofs.YtimmnimikmnljaaGreat
open Go Go.RowKit Go.Pg Go.Pol
attribute [-bool_to_prop] Bool.and_eq_decide Bool.or_eq_decide Bool.decide_beq_decide decide_eq_decide
attribute [local go_sem] Tryz.underlying3 Tryz.underlying4 Tryz.underlying44 Tryz.underlying42 Tryz.underlying40 Tryz.underlying48 Tryz.underlying22 Tryz.underlying46 Tryz.underlying23 Tryz.underlying45 sz3 by3 z3 szB zB Zcd zRat Zcf zInt Zce zNat Zbq Zbt Zcs Zbs Zbv Zcu Zbr Zbu Zct
theorem Ztg (o:Int) (t:Tm) (r:Po) {j:Nat} (hj:j < r.length):(r.take (j+1)).foldl (ldF o) t=ldF o ((r.take j).foldl (ldF o) t) r[j]:=by
 rw [List.take_succ_eq_append_getElem hj,List.foldl_append];rfl
theorem Ztf {o:Int} {t:Tm} {r:Po} (P:Tm→Prop) (h:∀u∈t :: r,P u) (j:Nat):P ((r.take j).foldl (ldF o) t):=by
 have key:∀(l:Po) (t:Tm),P t→(∀u∈l,P u)→P (l.foldl (ldF o) t):=by
  intro l
  induction l with
  | nil=>exact λt ht _=>ht
  | cons s l ih =>
    intro t ht hl;refine ih (ldF o t s) ?_ λu hu=>hl u (.tail _ hu);unfold ldF;split
    ·exact hl s (.head _)
    ·exact ht
 exact key _ t (h t (.head _)) λu hu=>h u (.tail _ (List.mem_of_mem_take hu))
theorem poLead1 (s t:Tm) (o:Int) (hs:Sm s.2) (ht:Sm t.2):Pure Tryz.prog 50 [tmA s,tmA t,.pimm [iv o]] (iv (cmpI s.2 t.2 o)):=by
 obtain⟨s1,s2⟩:=s;obtain⟨t1,t2⟩:=t;have c:Pure Tryz.prog 51 [ivs s2,ivs t2,.v (.int .i64 o)] (.v (.int .i64 (cmpI s2 t2 o))):=Zqk s2 t2 o hs ht;refine Zaa (tok:=0) Tryz.func50 rfl Tryz.ntmps50 Tryz.results50 Tryz.call50 (by rfl) (by simp) ?_;(focus (refine wkld w_t (w_1 c) w_t w_t ?_;(repeat' first|exact w_t|apply w_l);all_goals intros))
theorem slMax (t:Tm) (r:Po) (o:Int) (hm:∀u∈t :: r,Sm u.2) (hl:r.length≤1000000):Pure Tryz.prog 49 [poA (t :: r),.fn 50 [.pimm [iv o]]] (tmA (ldO o (t :: r))):=by
 refine Zaa (tok:=0) Tryz.func49 rfl Tryz.ntmps49 Tryz.results49 Tryz.call49 (by rfl) (by simp) ?_;(focus (refine wkad (w_1 @Za4) w_t w_t ?_;(repeat' first|exact w_t|apply w_l);all_goals intros));rename_i g4 g5;refine Zag (ι:=Nat) (λj e m=>j≤r.length∧e 0=poA (t :: r)∧e 1=.fn 50 [.pimm [iv o]]∧e 6=iv ((j:Int)+1)∧e 5=.pbox 5 g5 0∧e 4=.pbox 4 g4 0∧m 5=some (.box g5 48 [.v (.bool (decide (((r.take j).foldl (ldF o) t).1.num < 0))),lim (toL ((r.take j).foldl (ldF o) t).1.num.natAbs),lim (toL ((r.take j).foldl (ldF o) t).1.den),ivs ((r.take j).foldl (ldF o) t).2] false)∧∃es:List AV,es.length=4∧m 4=some (.box g4 48 es false)) (λj=>r.length - j) 0 (by rfl) ?_ ?_
 ·rintro j e m ⟨hj,e0,e1,e6,e5,e4,m5,es,hes,m4⟩
  by_cases hlt:j < r.length
  ·have hg:=Zbb tmA hlt;have m1:=Ztf (o:=o) (λu=>Sm u.2) hm j;have m2:=hm _ (.tail _ (List.getElem_mem hlt));have st:=Ztg o t r hlt;generalize (r.take j).foldl (ldF o) t=w at *;generalize r[j]=u at *;have c:=poLead1 u w o m2 m1;rw [show ldF o w u=if 0 < cmpI u.2 w.2 o then u else w from rfl] at st;obtain⟨w1,w2⟩:=w;obtain⟨u1,u2⟩:=u;simp only at c st m5;by_cases h:0 < cmpI u2 w2 o
   ·rw [if_pos h] at st
    (repeat' (first|(with_reducible first|refine stp ?_|apply gx1|apply gx2|apply gx3|apply gx4|apply gx5|apply gx6|apply gx7|apply gy8|apply gz2|apply gz3|refine gw0 (c) ?_ ?_|refine gw3 (c) ?_ ?_ ?_)|(with_reducible refine Zbf ?_;intro _)|((with_reducible refine gE ?_);(try simp (disch:=omega) only [go_sem,e0,e1,e6,e5,e4,m5,m4,hg,List.length_map,List.length_cons,decide_eq_true,decide_eq_false,if_pos,if_neg,Int.reduceAdd,Int.reduceSub,Int.reduceToNat,Int.zero_add])<;>first|rfl|omega)|with_reducible refine Zaf (by decide) ?_|((with_reducible apply gy1);iterate 3 focus rfl)|((with_reducible apply gy2);iterate 3 focus rfl)|((with_reducible apply gy3);iterate 2 focus rfl)|((with_reducible apply gy4);iterate 1 focus rfl)|((with_reducible apply gy5);iterate 4 focus rfl)|((with_reducible apply gy5c);iterate 4 focus rfl)|((with_reducible apply gy6);iterate 4 focus rfl)|((with_reducible apply Zc0);iterate 3 focus rfl)|((with_reducible apply Zcz);iterate 1 focus rfl)|((with_reducible apply gy7);iterate 1 focus rfl)|((with_reducible apply gy9);(focus ((with_reducible refine gE ?_);(try simp (disch:=omega) only [go_sem,e0,e1,e6,e5,e4,m5,m4,hg,List.length_map,List.length_cons,decide_eq_true,decide_eq_false,if_pos,if_neg,Int.reduceAdd,Int.reduceSub,Int.reduceToNat,Int.zero_add])<;>rfl)))|((with_reducible apply gz1);(focus first|rfl|(simp (disch:=omega) only [go_sem,e0,e1,e6,e5,e4,m5,m4,hg,List.length_map,List.length_cons,decide_eq_true,decide_eq_false,if_pos,if_neg,Int.reduceAdd,Int.reduceSub,Int.reduceToNat,Int.zero_add];done)))|((with_reducible apply Za2 (id:=7) (Zcg [(6,iv (cmpI u2 w2 o))]) [] []);(focus kernel_rfl);(focus rfl);(focus kernel_rfl);(focus (simp only [List.length_cons,List.length_nil,Nat.reduceAdd];rfl)))|((with_reducible first|apply Zbm|apply Zbw|apply Zbn);all_goals (intro hc;(try simp only [bool_to_prop] at hc);try (exfalso;omega)))))
    exact⟨j+1,⟨by omega,by exact gW e0,by exact gW e1,by exact gC,by exact gW e5,by exact gW e4,by exact gW st,_,hes,by exact gW m4⟩,by omega⟩
   ·rw [if_neg h] at st
    (repeat' (first|(with_reducible first|refine stp ?_|apply gx1|apply gx2|apply gx3|apply gx4|apply gx5|apply gx6|apply gx7|apply gy8|apply gz2|apply gz3|refine gw0 (c) ?_ ?_|refine gw3 (c) ?_ ?_ ?_)|(with_reducible refine Zbf ?_;intro _)|((with_reducible refine gE ?_);(try simp (disch:=omega) only [go_sem,e0,e1,e6,e5,e4,m5,m4,hg,List.length_map,List.length_cons,decide_eq_true,decide_eq_false,if_pos,if_neg,Int.reduceAdd,Int.reduceSub,Int.reduceToNat,Int.zero_add])<;>first|rfl|omega)|with_reducible refine Zaf (by decide) ?_|((with_reducible apply gy1);iterate 3 focus rfl)|((with_reducible apply gy2);iterate 3 focus rfl)|((with_reducible apply gy3);iterate 2 focus rfl)|((with_reducible apply gy4);iterate 1 focus rfl)|((with_reducible apply gy5);iterate 4 focus rfl)|((with_reducible apply gy5c);iterate 4 focus rfl)|((with_reducible apply gy6);iterate 4 focus rfl)|((with_reducible apply Zc0);iterate 3 focus rfl)|((with_reducible apply Zcz);iterate 1 focus rfl)|((with_reducible apply gy7);iterate 1 focus rfl)|((with_reducible apply gy9);(focus ((with_reducible refine gE ?_);(try simp (disch:=omega) only [go_sem,e0,e1,e6,e5,e4,m5,m4,hg,List.length_map,List.length_cons,decide_eq_true,decide_eq_false,if_pos,if_neg,Int.reduceAdd,Int.reduceSub,Int.reduceToNat,Int.zero_add])<;>rfl)))|((with_reducible apply gz1);(focus first|rfl|(simp (disch:=omega) only [go_sem,e0,e1,e6,e5,e4,m5,m4,hg,List.length_map,List.length_cons,decide_eq_true,decide_eq_false,if_pos,if_neg,Int.reduceAdd,Int.reduceSub,Int.reduceToNat,Int.zero_add];done)))|((with_reducible apply Za2 (id:=7) (Zcg [(6,iv (cmpI u2 w2 o))]) [] []);(focus kernel_rfl);(focus rfl);(focus kernel_rfl);(focus (simp only [List.length_cons,List.length_nil,Nat.reduceAdd];rfl)))|((with_reducible first|apply Zbm|apply Zbw|apply Zbn);all_goals (intro hc;(try simp only [bool_to_prop] at hc);try (exfalso;omega)))))
    exact⟨j+1,⟨by omega,by exact gW e0,by exact gW e1,by exact gC,by exact gW e5,by exact gW e4,by exact gW (And.intro st m5),_,hes,by exact gW m4⟩,by omega⟩
  ·have hj2:j=r.length:=by omega
   subst hj2;rw [List.take_length] at m5;rw [show ldO o (t :: r)=r.foldl (ldF o) t from rfl];generalize r.foldl (ldF o) t=w at *
   (repeat' (first|(with_reducible first|refine stp ?_|apply gx1|apply gx2|apply gx3|apply gx4|apply gx5|apply gx6|apply gx7|apply gy8|apply gz2|apply gz3)|(with_reducible refine Zbf ?_;intro _)|((with_reducible refine gE ?_);(try simp (disch:=omega) only [go_sem,e0,e1,e6,e5,e4,m5,m4,hes,List.length_map,List.length_cons,decide_eq_true,decide_eq_false,if_pos,if_neg,Int.reduceAdd,Int.reduceSub,Int.reduceToNat,Int.zero_add])<;>first|rfl|omega)|with_reducible refine Zaf (by decide) ?_|((with_reducible apply gy1);iterate 3 focus rfl)|((with_reducible apply gy2);iterate 3 focus rfl)|((with_reducible apply gy3);iterate 2 focus rfl)|((with_reducible apply gy4);iterate 1 focus rfl)|((with_reducible apply gy5);iterate 4 focus rfl)|((with_reducible apply gy5c);iterate 4 focus rfl)|((with_reducible apply gy6);iterate 4 focus rfl)|((with_reducible apply Zc0);iterate 3 focus rfl)|((with_reducible apply Zcz);iterate 1 focus rfl)|((with_reducible apply gy7);iterate 1 focus rfl)|((with_reducible apply gy9);(focus ((with_reducible refine gE ?_);(try simp (disch:=omega) only [go_sem,e0,e1,e6,e5,e4,m5,m4,hes,List.length_map,List.length_cons,decide_eq_true,decide_eq_false,if_pos,if_neg,Int.reduceAdd,Int.reduceSub,Int.reduceToNat,Int.zero_add])<;>rfl)))|((with_reducible apply gz1);(focus first|rfl|(simp (disch:=omega) only [go_sem,e0,e1,e6,e5,e4,m5,m4,hes,List.length_map,List.length_cons,decide_eq_true,decide_eq_false,if_pos,if_neg,Int.reduceAdd,Int.reduceSub,Int.reduceToNat,Int.zero_add];done)))|((with_reducible apply Za2 (Zcg []) [] []);(focus kernel_rfl);(focus rfl);(focus kernel_rfl);(focus (simp only [List.length_cons,List.length_nil,Nat.reduceAdd];rfl)))|((with_reducible first|apply Zbm|apply Zbw|apply Zbn);all_goals (intro hc;(try simp only [bool_to_prop] at hc);try (exfalso;omega)))))
   (all_goals (try simp (disch:=omega) only [go_sem,e4,decide_eq_true,decide_eq_false,if_pos,if_neg,Int.reduceAdd,Int.reduceSub,Int.reduceToNat,Int.zero_add]));(all_goals first|done|rfl|(congr 2;first|done|omega|(rw [Bool.eq_iff_iff];simp only [bool_to_prop,Bool.false_eq_true,iff_true,true_iff,iff_false,false_iff];omega))|skip)
 ·exact⟨Nat.zero_le _,by exact gC,by exact gC,by exact gC,by exact gC,by exact gC,by(simp (disch:=omega) only [go_sem,List.take_zero,List.foldl_nil]<;>repeat' first|rfl|refine⟨?_,?_⟩),_,rfl,by exact gC⟩
theorem Zjb (p:Po) (o:Int) (h0:p≠[]) (hm:∀u∈p,Sm u.2) (hl:p.length≤1000000):Pure Tryz.prog 18 [poA p,.v (.int .i64 o)] (.tup [tmA (ldO o p),.v (.bool true)]):=by
 cases p with
 | nil=>exact absurd rfl h0
 | cons t r =>
   have c:=slMax t r o hm (by simp only [List.length_cons] at hl;omega);generalize ldO o (t :: r)=w at *;refine Zaa (tok:=0) Tryz.func18 rfl Tryz.ntmps18 Tryz.results18 Tryz.call18 (by rfl) (by simp) ?_
   (repeat' (first|(with_reducible first|refine stp ?_|apply gx1|apply gx2|apply gx3|apply gx4|apply gx5|apply gx6|apply gx7|apply gy8|apply gz2|apply gz3|apply gw1 (c))|(with_reducible refine Zbf ?_;intro _)|((with_reducible refine gE ?_);(try simp (disch:=omega) only [go_sem,List.length_map,List.length_cons,decide_eq_true,decide_eq_false,if_pos,if_neg,Int.reduceAdd,Int.reduceSub,Int.reduceToNat,Int.zero_add])<;>first|rfl|omega)|with_reducible refine Zaf (by decide) ?_|((with_reducible apply gy1);iterate 3 focus rfl)|((with_reducible apply gy2);iterate 3 focus rfl)|((with_reducible apply gy3);iterate 2 focus rfl)|((with_reducible apply gy4);iterate 1 focus rfl)|((with_reducible apply gy5);iterate 4 focus rfl)|((with_reducible apply gy5c);iterate 4 focus rfl)|((with_reducible apply gy6);iterate 4 focus rfl)|((with_reducible apply Zc0);iterate 3 focus rfl)|((with_reducible apply Zcz);iterate 1 focus rfl)|((with_reducible apply gy7);iterate 1 focus rfl)|((with_reducible apply gy9);(focus ((with_reducible refine gE ?_);(try simp (disch:=omega) only [go_sem,List.length_map,List.length_cons,decide_eq_true,decide_eq_false,if_pos,if_neg,Int.reduceAdd,Int.reduceSub,Int.reduceToNat,Int.zero_add])<;>rfl)))|((with_reducible apply gz1);(focus first|rfl|(simp (disch:=omega) only [go_sem,List.length_map,List.length_cons,decide_eq_true,decide_eq_false,if_pos,if_neg,Int.reduceAdd,Int.reduceSub,Int.reduceToNat,Int.zero_add];done)))|((with_reducible apply Za2 (Zcg []) [] []);(focus kernel_rfl);(focus rfl);(focus kernel_rfl);(focus (simp only [List.length_cons,List.length_nil,Nat.reduceAdd];rfl)))|((with_reducible first|apply Zbm|apply Zbw|apply Zbn);all_goals (intro hc;(try simp only [bool_to_prop] at hc);try (exfalso;omega)))))
   (all_goals (try simp (disch:=omega) only [go_sem,decide_eq_true,decide_eq_false,if_pos,if_neg,Int.reduceAdd,Int.reduceSub,Int.reduceToNat,Int.zero_add]));(all_goals first|done|rfl|(congr 2;first|done|omega|(rw [Bool.eq_iff_iff];simp only [bool_to_prop,Bool.false_eq_true,iff_true,true_iff,iff_false,false_iff];omega))|skip)
theorem poLeadN (o:Int):Pure Tryz.prog 18 [poA [],.v (.int .i64 o)] (.tup [.agg [.v (.bool false),.v (.slice none 0 0),.v (.slice none 0 0),.v (.slice none 0 0)],.v (.bool false)]):=by
 refine Zaa (tok:=0) Tryz.func18 rfl Tryz.ntmps18 Tryz.results18 Tryz.call18 (by rfl) (by simp) ?_
 (repeat' (first|(with_reducible first|refine stp ?_|apply gx1|apply gx2|apply gx3|apply gx4|apply gx5|apply gx6|apply gx7|apply gy8|apply gz2|apply gz3)|(with_reducible refine Zbf ?_;intro _)|((with_reducible refine gE ?_);(try simp (disch:=omega) only [go_sem,List.length_map,List.length_nil,List.map_nil,decide_eq_true,decide_eq_false,if_pos,if_neg,Int.reduceAdd,Int.reduceSub,Int.reduceToNat,Int.zero_add])<;>first|rfl|omega)|with_reducible refine Zaf (by decide) ?_|((with_reducible apply gy1);iterate 3 focus rfl)|((with_reducible apply gy2);iterate 3 focus rfl)|((with_reducible apply gy3);iterate 2 focus rfl)|((with_reducible apply gy4);iterate 1 focus rfl)|((with_reducible apply gy5);iterate 4 focus rfl)|((with_reducible apply gy5c);iterate 4 focus rfl)|((with_reducible apply gy6);iterate 4 focus rfl)|((with_reducible apply Zc0);iterate 3 focus rfl)|((with_reducible apply Zcz);iterate 1 focus rfl)|((with_reducible apply gy7);iterate 1 focus rfl)|((with_reducible apply gy9);(focus ((with_reducible refine gE ?_);(try simp (disch:=omega) only [go_sem,List.length_map,List.length_nil,List.map_nil,decide_eq_true,decide_eq_false,if_pos,if_neg,Int.reduceAdd,Int.reduceSub,Int.reduceToNat,Int.zero_add])<;>rfl)))|((with_reducible apply gz1);(focus first|rfl|(simp (disch:=omega) only [go_sem,List.length_map,List.length_nil,List.map_nil,decide_eq_true,decide_eq_false,if_pos,if_neg,Int.reduceAdd,Int.reduceSub,Int.reduceToNat,Int.zero_add];done)))|((with_reducible apply Za2 (Zcg []) [] []);(focus kernel_rfl);(focus rfl);(focus kernel_rfl);(focus (simp only [List.length_cons,List.length_nil,Nat.reduceAdd];rfl)))|((with_reducible first|apply Zbm|apply Zbw|apply Zbn);all_goals (intro hc;(try simp only [bool_to_prop] at hc);try (exfalso;omega)))))
 (all_goals (try simp (disch:=omega) only [go_sem,decide_eq_true,decide_eq_false,if_pos,if_neg,Int.reduceAdd,Int.reduceSub,Int.reduceToNat,Int.zero_add]));(all_goals first|done|rfl|(congr 2;first|done|omega|(rw [Bool.eq_iff_iff];simp only [bool_to_prop,Bool.false_eq_true,iff_true,true_iff,iff_false,false_iff];omega))|skip)
theorem Zmx (p:Po) (o:Int) (h0:p≠[]) (hm:∀u∈p,Sm u.2) (hl:p.length≤1000000):Pure Tryz.prog 34 [poA p,.v (.int .i64 o)] (.tup [tmA (ldO o p),.v (.bool true)]):=by
 cases p with
 | nil=>exact absurd rfl h0
 | cons t r =>
   rw [List.length_cons] at hl;refine Zaa (tok:=0) Tryz.func34 rfl Tryz.ntmps34 Tryz.results34 Tryz.call34 (by rfl) (by simp) ?_
   (repeat' (first|(with_reducible first|refine stp ?_|apply gx1|apply gx2|apply gx3|apply gx4|apply gx5|apply gx6|apply gx7|apply gy8|apply gz2|apply gz3)|(with_reducible refine Zbf ?_;intro _)|((with_reducible refine gE ?_);(try simp (disch:=omega) only [go_sem,List.length_map,List.length_cons,decide_eq_true,decide_eq_false,if_pos,if_neg,Int.reduceAdd,Int.reduceSub,Int.reduceToNat,Int.zero_add])<;>first|rfl|omega)|with_reducible refine Zaf (by decide) ?_|((with_reducible apply gy1);iterate 3 focus rfl)|((with_reducible apply gy2);iterate 3 focus rfl)|((with_reducible apply gy3);iterate 2 focus rfl)|((with_reducible apply gy4);iterate 1 focus rfl)|((with_reducible apply gy5);iterate 4 focus rfl)|((with_reducible apply gy5c);iterate 4 focus rfl)|((with_reducible apply gy6);iterate 4 focus rfl)|((with_reducible apply Zc0);iterate 3 focus rfl)|((with_reducible apply Zcz);iterate 1 focus rfl)|((with_reducible apply gy7);iterate 1 focus rfl)|((with_reducible apply gy9);(focus ((with_reducible refine gE ?_);(try simp (disch:=omega) only [go_sem,List.length_map,List.length_cons,decide_eq_true,decide_eq_false,if_pos,if_neg,Int.reduceAdd,Int.reduceSub,Int.reduceToNat,Int.zero_add])<;>rfl)))|((with_reducible apply gz1);(focus first|rfl|(simp (disch:=omega) only [go_sem,List.length_map,List.length_cons,decide_eq_true,decide_eq_false,if_pos,if_neg,Int.reduceAdd,Int.reduceSub,Int.reduceToNat,Int.zero_add];done)))|((with_reducible apply Za2 (Zcg []) [] []);(focus kernel_rfl);(focus rfl);(focus kernel_rfl);(focus (simp only [List.length_cons,List.length_nil,Nat.reduceAdd];rfl)))|((with_reducible first|apply Zbm|apply Zbw|apply Zbn);all_goals (intro hc;(try simp only [bool_to_prop] at hc);try (exfalso;omega)))))
   rename_i g4 g6;refine Zag (ι:=Nat) (λj e m=>j≤r.length∧e 0=poA (t :: r)∧e 1=.v (.int .i64 o)∧e 7=iv ((j:Int)+1)∧e 6=.pbox 6 g6 0∧e 4=.pbox 4 g4 0∧m 6=some (.box g6 48 [.v (.bool (decide (((r.take j).foldl (ldF o) t).1.num < 0))),lim (toL ((r.take j).foldl (ldF o) t).1.num.natAbs),lim (toL ((r.take j).foldl (ldF o) t).1.den),ivs ((r.take j).foldl (ldF o) t).2] false)∧∃es:List AV,es.length=4∧m 4=some (.box g4 48 es false)) (λj=>r.length - j) 0 (by rfl) ?_ ?_
   ·rintro j e m ⟨hj,e0,e1,e7,e6,e4,m6,es,hes,m4⟩
    by_cases hlt:j < r.length
    ·have hg:=Zbb tmA hlt;have m1:=Ztf (o:=o) (λu=>Sm u.2) hm j;have m2:=hm _ (.tail _ (List.getElem_mem hlt));have st:=Ztg o t r hlt;generalize (r.take j).foldl (ldF o) t=w at *;generalize r[j]=u at *;have c:Pure Tryz.prog 62 [ivs u.2,ivs w.2,.v (.int .i64 o)] (.v (.int .i64 (cmpI u.2 w.2 o))):=mrCmp u.2 w.2 o m2 m1;rw [show ldF o w u=if 0 < cmpI u.2 w.2 o then u else w from rfl] at st;obtain⟨w1,w2⟩:=w;obtain⟨u1,u2⟩:=u;simp only at c st m6;by_cases h:0 < cmpI u2 w2 o
     ·rw [if_pos h] at st
      (repeat' (first|(with_reducible first|refine stp ?_|apply gx1|apply gx2|apply gx3|apply gx4|apply gx5|apply gx6|apply gx7|apply gy8|apply gz2|apply gz3|refine gw0 (c) ?_ ?_|refine gw3 (c) ?_ ?_ ?_)|(with_reducible refine Zbf ?_;intro _)|((with_reducible refine gE ?_);(try simp (disch:=omega) only [go_sem,e0,e1,e7,e6,e4,m6,m4,hg,List.length_map,List.length_cons,decide_eq_true,decide_eq_false,if_pos,if_neg,Int.reduceAdd,Int.reduceSub,Int.reduceToNat,Int.zero_add])<;>first|rfl|omega)|with_reducible refine Zaf (by decide) ?_|((with_reducible apply gy1);iterate 3 focus rfl)|((with_reducible apply gy2);iterate 3 focus rfl)|((with_reducible apply gy3);iterate 2 focus rfl)|((with_reducible apply gy4);iterate 1 focus rfl)|((with_reducible apply gy5);iterate 4 focus rfl)|((with_reducible apply gy5c);iterate 4 focus rfl)|((with_reducible apply gy6);iterate 4 focus rfl)|((with_reducible apply Zc0);iterate 3 focus rfl)|((with_reducible apply Zcz);iterate 1 focus rfl)|((with_reducible apply gy7);iterate 1 focus rfl)|((with_reducible apply gy9);(focus ((with_reducible refine gE ?_);(try simp (disch:=omega) only [go_sem,e0,e1,e7,e6,e4,m6,m4,hg,List.length_map,List.length_cons,decide_eq_true,decide_eq_false,if_pos,if_neg,Int.reduceAdd,Int.reduceSub,Int.reduceToNat,Int.zero_add])<;>rfl)))|((with_reducible apply gz1);(focus first|rfl|(simp (disch:=omega) only [go_sem,e0,e1,e7,e6,e4,m6,m4,hg,List.length_map,List.length_cons,decide_eq_true,decide_eq_false,if_pos,if_neg,Int.reduceAdd,Int.reduceSub,Int.reduceToNat,Int.zero_add];done)))|((with_reducible apply Za2 (id:=7) (Zcg [(8,iv (cmpI u2 w2 o))]) [] []);(focus kernel_rfl);(focus rfl);(focus kernel_rfl);(focus (simp only [List.length_cons,List.length_nil,Nat.reduceAdd];rfl)))|((with_reducible first|apply Zbm|apply Zbw|apply Zbn);all_goals (intro hc;(try simp only [bool_to_prop] at hc);try (exfalso;omega)))))
      exact⟨j+1,⟨by omega,by exact gW e0,by exact gW e1,by exact gC,by exact gW e6,by exact gW e4,by exact gW st,_,hes,by exact gW m4⟩,by omega⟩
     ·rw [if_neg h] at st
      (repeat' (first|(with_reducible first|refine stp ?_|apply gx1|apply gx2|apply gx3|apply gx4|apply gx5|apply gx6|apply gx7|apply gy8|apply gz2|apply gz3|refine gw0 (c) ?_ ?_|refine gw3 (c) ?_ ?_ ?_)|(with_reducible refine Zbf ?_;intro _)|((with_reducible refine gE ?_);(try simp (disch:=omega) only [go_sem,e0,e1,e7,e6,e4,m6,m4,hg,List.length_map,List.length_cons,decide_eq_true,decide_eq_false,if_pos,if_neg,Int.reduceAdd,Int.reduceSub,Int.reduceToNat,Int.zero_add])<;>first|rfl|omega)|with_reducible refine Zaf (by decide) ?_|((with_reducible apply gy1);iterate 3 focus rfl)|((with_reducible apply gy2);iterate 3 focus rfl)|((with_reducible apply gy3);iterate 2 focus rfl)|((with_reducible apply gy4);iterate 1 focus rfl)|((with_reducible apply gy5);iterate 4 focus rfl)|((with_reducible apply gy5c);iterate 4 focus rfl)|((with_reducible apply gy6);iterate 4 focus rfl)|((with_reducible apply Zc0);iterate 3 focus rfl)|((with_reducible apply Zcz);iterate 1 focus rfl)|((with_reducible apply gy7);iterate 1 focus rfl)|((with_reducible apply gy9);(focus ((with_reducible refine gE ?_);(try simp (disch:=omega) only [go_sem,e0,e1,e7,e6,e4,m6,m4,hg,List.length_map,List.length_cons,decide_eq_true,decide_eq_false,if_pos,if_neg,Int.reduceAdd,Int.reduceSub,Int.reduceToNat,Int.zero_add])<;>rfl)))|((with_reducible apply gz1);(focus first|rfl|(simp (disch:=omega) only [go_sem,e0,e1,e7,e6,e4,m6,m4,hg,List.length_map,List.length_cons,decide_eq_true,decide_eq_false,if_pos,if_neg,Int.reduceAdd,Int.reduceSub,Int.reduceToNat,Int.zero_add];done)))|((with_reducible apply Za2 (id:=7) (Zcg [(8,iv (cmpI u2 w2 o))]) [] []);(focus kernel_rfl);(focus rfl);(focus kernel_rfl);(focus (simp only [List.length_cons,List.length_nil,Nat.reduceAdd];rfl)))|((with_reducible first|apply Zbm|apply Zbw|apply Zbn);all_goals (intro hc;(try simp only [bool_to_prop] at hc);try (exfalso;omega)))))
      exact⟨j+1,⟨by omega,by exact gW e0,by exact gW e1,by exact gC,by exact gW e6,by exact gW e4,by exact gW (And.intro st m6),_,hes,by exact gW m4⟩,by omega⟩
    ·have hj2:j=r.length:=by omega
     subst hj2;rw [List.take_length] at m6;rw [show ldO o (t :: r)=r.foldl (ldF o) t from rfl];generalize r.foldl (ldF o) t=w at *
     (repeat' (first|(with_reducible first|refine stp ?_|apply gx1|apply gx2|apply gx3|apply gx4|apply gx5|apply gx6|apply gx7|apply gy8|apply gz2|apply gz3)|(with_reducible refine Zbf ?_;intro _)|((with_reducible refine gE ?_);(try simp (disch:=omega) only [go_sem,e0,e1,e7,e6,e4,m6,m4,hes,List.length_map,List.length_cons,decide_eq_true,decide_eq_false,if_pos,if_neg,Int.reduceAdd,Int.reduceSub,Int.reduceToNat,Int.zero_add])<;>first|rfl|omega)|with_reducible refine Zaf (by decide) ?_|((with_reducible apply gy1);iterate 3 focus rfl)|((with_reducible apply gy2);iterate 3 focus rfl)|((with_reducible apply gy3);iterate 2 focus rfl)|((with_reducible apply gy4);iterate 1 focus rfl)|((with_reducible apply gy5);iterate 4 focus rfl)|((with_reducible apply gy5c);iterate 4 focus rfl)|((with_reducible apply gy6);iterate 4 focus rfl)|((with_reducible apply Zc0);iterate 3 focus rfl)|((with_reducible apply Zcz);iterate 1 focus rfl)|((with_reducible apply gy7);iterate 1 focus rfl)|((with_reducible apply gy9);(focus ((with_reducible refine gE ?_);(try simp (disch:=omega) only [go_sem,e0,e1,e7,e6,e4,m6,m4,hes,List.length_map,List.length_cons,decide_eq_true,decide_eq_false,if_pos,if_neg,Int.reduceAdd,Int.reduceSub,Int.reduceToNat,Int.zero_add])<;>rfl)))|((with_reducible apply gz1);(focus first|rfl|(simp (disch:=omega) only [go_sem,e0,e1,e7,e6,e4,m6,m4,hes,List.length_map,List.length_cons,decide_eq_true,decide_eq_false,if_pos,if_neg,Int.reduceAdd,Int.reduceSub,Int.reduceToNat,Int.zero_add];done)))|((with_reducible apply Za2 (Zcg []) [] []);(focus kernel_rfl);(focus rfl);(focus kernel_rfl);(focus (simp only [List.length_cons,List.length_nil,Nat.reduceAdd];rfl)))|((with_reducible first|apply Zbm|apply Zbw|apply Zbn);all_goals (intro hc;(try simp only [bool_to_prop] at hc);try (exfalso;omega)))))
     (all_goals (try simp (disch:=omega) only [go_sem,e4,decide_eq_true,decide_eq_false,if_pos,if_neg,Int.reduceAdd,Int.reduceSub,Int.reduceToNat,Int.zero_add]));(all_goals first|done|rfl|(congr 2;first|done|omega|(rw [Bool.eq_iff_iff];simp only [bool_to_prop,Bool.false_eq_true,iff_true,true_iff,iff_false,false_iff];omega))|skip)
   ·exact⟨Nat.zero_le _,by exact gC,by exact gC,by exact gC,by exact gC,by exact gC,by(simp (disch:=omega) only [go_sem,List.take_zero,List.foldl_nil]<;>repeat' first|rfl|refine⟨?_,?_⟩),_,rfl,by exact gC⟩
attribute [local go_sem] Tryz.underlying24
theorem rgtM {m:List Int} (hc:Can m) (hl:m.length≤64) (he:∀j,gI m j≤1048576):Zb8 m=true:=by
 unfold Zb8
 have h1:(m.getLast?.getD 1 == 0)=false:=by
  rw [beq_eq_false_iff_ne];rcases hc.2 with h | h
  ·rw [List.length_eq_zero_iff.1 h];decide
  ·have hn:m≠[]:=λe=>by rw [e] at h;exact h rfl
   rw [List.getLast?_eq_some_getLast hn,Option.getD_some,List.getLast_eq_getElem hn];rw [Zfr (by have:=List.length_pos_iff.2 hn;omega)] at h;exact h
 have h2:m.all Zfz=true:=by
  rw [List.all_eq_true];intro x hx;obtain⟨j,hj,rfl⟩:=List.mem_iff_getElem.1 hx;have a:=hc.1 j;have b:=he j;rw [Zfr hj] at a b;unfold Zfz;simp;omega
 rw [h1,h2,decide_eq_true hl];rfl
theorem Zs6 {m:List Int} (hc:Can m) (hl:m.length≤64) (he:∀j,gI m j≤1048576):Zne m=m:=by
 unfold Zne;simp only [Zir hc,rgtM hc hl he,if_true]
theorem Zsv (c:Rat) (m:List Int) (h0:c≠0) {k:Nat} (hs:Sz c k) (hk:k≤500000) (hc:Can m) (hl:m.length≤64) (he:∀j,gI m j≤1048576):Pure Tryz.prog 32 [poA [(c,m)]] (poA [(c,m)]):=by
 have c1:Pure Tryz.prog 43 [ivs m] (.v (.bool true)):=by have:=Zly m;rwa [rgtM hc hl he] at this
 have c2:=ratOf 0 (by omega);have c3:=Zsq c 0 hs (Sz.int (z:=0) (k:=1) (by simp [Za3]) (by omega)) (by omega) (by omega);rw [Rat.add_zero] at c3;have c4:Pure Tryz.prog 76 [ivs m] (ivs m):=by have:=monNorm m (by omega);rwa [Zs6 hc hl he] at this
 have c5:=Zqc c m h0 hs (by omega);have c6:=poSum [[(c,m)]] (K:=k) (e:=1048576) (λp hp=>by rw [List.mem_singleton] at hp;subst hp;exact Srt.cons .nil h0 hc (by simp)) (SumOk.one (by simp) λp hp=>by rw [List.mem_singleton] at hp;subst hp;exact⟨λt ht=>by rw [List.mem_singleton] at ht;subst ht;exact⟨hs,(show m.length≤1000 by omega),λj=>⟨hc.1 j,he j⟩⟩,by simp⟩) (by simp) (by omega) (by omega);rw [show sumH ltM [[(c,m)]]=[(c,m)] by simp [sumH]] at c6;have hlast:m.length=0∨0 < m.length∧gI m (m.length - 1)≠0:=by rcases hc.2 with h | h;exact .inl h;by_cases g:m.length=0;exact .inl g;exact .inr ⟨by omega,h⟩
 simp only [List.map_cons,List.map_nil] at c6;rcases hlast with h | ⟨hp,h⟩
 ·have hm:m=[]:=List.length_eq_zero_iff.1 h;subst hm
  replace c1:Pure Tryz.prog 43 [.sl 1 []] (.v (.bool true)):=c1
  refine Zaa (tok:=0) Tryz.func32 rfl Tryz.ntmps32 Tryz.results32 Tryz.call32 (by rfl) (by simp) ?_;(focus (refine wkax w_t (w_5 c1 c2 c3 c4 c5) (w_1 (w_d 9 [(2,ratQ ((0:Nat):Rat)),(3,ratQ c),(6,ivs []),(7,poA [(c,[])])] [] [])) (w_1 c6) w_t w_t (w_r 3) ?_;(repeat' first|exact w_t|apply w_l);all_goals intros))
  (all_goals (try simp (disch:=omega) only [go_sem,decide_eq_true,decide_eq_false,if_pos,if_neg,Int.reduceAdd,Int.reduceSub,Int.reduceToNat,Int.zero_add]));(all_goals first|done|rfl|(congr 2;first|done|omega|(rw [Bool.eq_iff_iff];simp only [bool_to_prop,Bool.false_eq_true,iff_true,true_iff,iff_false,false_iff];omega))|skip)
 ·have hi:((m.length:Nat):Int) - 1=((m.length - 1:Nat):Int):=by omega
  have tk:(m.map iv).take m.length=m.map iv:=by rw [←List.length_map (f:=iv),List.take_length]
  refine Zaa (tok:=0) Tryz.func32 rfl Tryz.ntmps32 Tryz.results32 Tryz.call32 (by rfl) (by simp) ?_;(focus (refine wkax (w_4 @Za4 hi h tk) (w_5 c1 c2 c3 c4 c5) (w_1 (w_d 9 [(2,ratQ ((0:Nat):Rat)),(3,ratQ c),(6,ivs m),(7,poA [(c,m)])] [] [])) (w_1 c6) w_t w_t (w_r 3) ?_;(repeat' first|exact w_t|apply w_l);all_goals intros))
  (all_goals (try simp (disch:=omega) only [go_sem,decide_eq_true,decide_eq_false,if_pos,if_neg,Int.reduceAdd,Int.reduceSub,Int.reduceToNat,Int.zero_add]));(all_goals first|done|rfl|(congr 2;first|done|omega|(rw [Bool.eq_iff_iff];simp only [bool_to_prop,Bool.false_eq_true,iff_true,true_iff,iff_false,false_iff];omega))|skip)
structure TO (t:Tm) (k:Nat):Prop where
 n:t.1≠0
 z:Sz t.1 k
 c:Can t.2
 l:t.2.length≤64
 e:∀j,gI t.2 j≤1048576
theorem TO.wd {t:Tm} {k:Nat} (h:TO t k):Wd t.2:=⟨by have:=h.l;omega,λj=>by have:=h.c.1 j;have:=h.e j;omega⟩
theorem TO.quo {t b:Tm} {j k:Nat} (h:TO t j) (g:TO b k) (d:divI b.2 t.2=true):TO (t.1/b.1,quoI t.2 b.2) (j+k) where
 n:=by
   show t.1/b.1≠0;rw [Rat.div_def];intro e;rcases Rat.mul_eq_zero.1 e with e | e
   ·exact h.n e
   ·have:=Rat.mul_inv_cancel _ g.n;rw [e,Rat.mul_zero] at this;exact absurd this (by decide)
 z:=h.z.div g.z
 c:=Zor h.c g.c d
 l:=by
   have h1:=Zd6 b.2 (quoI t.2 b.2);rw [Zqa h.c g.c d] at h1;have:=h.l;show(quoI t.2 b.2).length≤64;omega
 e:=λi=>by
   show gI (quoI t.2 b.2) i≤_;rw [Zqb d];have:=h.e i;have:=g.c.1 i;omega
theorem Ztp (t b:Tm) {j k:Nat} (ht:TO t j) (hb:TO b k) (hj:j≤400000) (hk:k≤100000) (d:divI b.2 t.2=true):Pure Tryz.prog 30 [tmA t,tmA b] (.tup [poA [(t.1/b.1,quoI t.2 b.2)],.v (.bool true)]):=by
 have g:=ht.quo hb d;have c1:Pure Tryz.prog 70 [ivs t.2,ivs b.2] (.tup [ivs (quoI t.2 b.2),.v (.bool true)]):=by have:=monQuo t.2 b.2 ht.wd hb.wd;rwa [d] at this
 have c2:=ratDiv t.1 b.1 ht.z hb.z (by omega) (by omega) hb.n;have c3:=Zsv (t.1/b.1) (quoI t.2 b.2) g.n g.z (by omega) g.c g.l g.e;obtain⟨t1,t2⟩:=t;obtain⟨b1,b2⟩:=b;simp only at c1 c2 c3;show Pure _ _ _ (.tup [poA [(t1/b1,quoI t2 b2)],_]);generalize t1/b1=q at *;generalize quoI t2 b2=m at *;refine Zaa (tok:=0) Tryz.func30 rfl Tryz.ntmps30 Tryz.results30 Tryz.call30 (by rfl) (by simp) ?_;(focus (refine wkax w_t (w_2 c1 c2) w_t (w_1 c3) w_t w_t (w_r 0) ?_;(repeat' first|exact w_t|apply w_l);all_goals intros))
 (all_goals (try simp (disch:=omega) only [go_sem,decide_eq_true,decide_eq_false,if_pos,if_neg,Int.reduceAdd,Int.reduceSub,Int.reduceToNat,Int.zero_add]));(all_goals first|done|rfl|(congr 2;first|done|omega|(rw [Bool.eq_iff_iff];simp only [bool_to_prop,Bool.false_eq_true,iff_true,true_iff,iff_false,false_iff];omega))|skip)
theorem grQuotN (t b:Tm) {j k:Nat} (ht:TO t j) (hb:TO b k) (d:divI b.2 t.2=false):Pure Tryz.prog 30 [tmA t,tmA b] (.tup [.v (.slice none 0 0),.v (.bool false)]):=by
 have c1:Pure Tryz.prog 70 [ivs t.2,ivs b.2] (.tup [ivs (quoI t.2 b.2),.v (.bool false)]):=by have:=monQuo t.2 b.2 ht.wd hb.wd;rwa [d] at this
 obtain⟨t1,t2⟩:=t;obtain⟨b1,b2⟩:=b;simp only at c1;generalize quoI t2 b2=m at *;refine Zaa (tok:=0) Tryz.func30 rfl Tryz.ntmps30 Tryz.results30 Tryz.call30 (by rfl) (by simp) ?_;(focus (refine wkld w_t (w_1 c1) w_t w_t ?_;(repeat' first|exact w_t|apply w_l);all_goals intros))
theorem Ztr (bs:List Po) (o:Int) (h:∀b∈bs,b≠[]∧(∀u∈b,Sm u.2)∧b.length≤1000000) (hl:bs.length≤1000) (h0:bs.length≠0):Pure Tryz.prog 28 [.sl 1 (bs.map poA),.v (.int .i64 o)] (.tup [.sl 4 (bs.map λb=>tmA (ldO o b)),.v (.bool true)]):=by
 refine Zaa (tok:=0) Tryz.func28 rfl Tryz.ntmps28 Tryz.results28 Tryz.call28 (by rfl) (by simp) ?_;(focus (refine wkad (w_1 @Za4) w_t w_t ?_;(repeat' first|exact w_t|apply w_l);all_goals intros));refine Zag (ι:=Nat) (λi e m=>i≤bs.length∧e 11=.sl 1 (bs.map poA)∧e 12=iv bs.length∧e 13=iv i∧e 1=.v (.int .i64 o)∧(i=0→e 6=.v (.slice none 0 0))∧(i≠0→∃sv,e 6=.own 28 sv∧m 28=some (.row sv 48 4 ((bs.take i).map λb=>tmA (ldO o b)) 0))) (λi=>bs.length - i) 0 (by rfl) ?_ ?_
 ·rintro i e m ⟨hi,e11,e12,e13,e1,hz,hp⟩
  by_cases hlt:i < bs.length
  ·have hg:=Zbb poA hlt;have hb:=h _ (List.getElem_mem hlt);have c:=Zjb bs[i] o hb.1 hb.2.1 hb.2.2
   have hs:(bs.take (i+1)).map (λb=>tmA (ldO o b))=(bs.take i).map (λb=>tmA (ldO o b))++[tmA (ldO o bs[i])]:=by
    rw [List.take_succ_eq_append_getElem hlt,List.map_append];rfl
   have hn:((bs.take i).map λb=>tmA (ldO o b)).length=i:=by rw [List.length_map,List.length_take];omega
   generalize ldO o bs[i]=w at *;generalize bs[i]=b at *;by_cases hi0:i=0
   ·subst hi0;have e6:=hz rfl;(focus (refine wkad (w_7 e11 e12 e13 e1 e6 hg @Za4) (w_1 c) w_t ?_;(repeat' first|exact w_t|apply w_l);all_goals intros));exact⟨0+1,⟨by omega,by exact gW e11,by exact gW e12,by exact gC,by exact gW e1,λh=>by omega,λ_=>⟨_,by exact gC,by rw [hs];(simp (disch:=omega) only [go_sem,List.take_zero,List.map_nil]<;>repeat' first|rfl|refine⟨?_,?_⟩)⟩⟩,by omega⟩
   ·obtain⟨sv,e6,em⟩:=hp hi0;generalize (bs.take i).map (λb=>tmA (ldO o b))=out at *;(focus (refine wkad (w_9 e11 e12 e13 e1 e6 em hg hn @Za4) (w_1 c) w_t ?_;(repeat' first|exact w_t|apply w_l);all_goals intros));exact⟨i+1,⟨by omega,by exact gW e11,by exact gW e12,by exact gS,by exact gW e1,λh=>by omega,λ_=>⟨_,by exact gC,by rw [hs];exact gC⟩⟩,by omega⟩
  ·have hi2:i=bs.length:=by omega
   subst hi2;obtain⟨sv,e6,em⟩:=hp h0;rw [List.take_length] at em;generalize (bs.map λb=>tmA (ldO o b))=out at *;(focus (refine wkld (w_7 e11 e12 e13 e1 e6 em @Za4) w_t (w_1 em) w_t ?_;(repeat' first|exact w_t|apply w_l);all_goals intros))
 ·exact⟨Nat.zero_le _,by exact gC,by(simp (disch:=omega) only [go_sem,List.length_map]<;>repeat' first|rfl|refine⟨?_,?_⟩),by exact gC,by exact gC,λ_=>by exact gC,λh=>absurd rfl h⟩
theorem grLeads0 (o:Int):Pure Tryz.prog 28 [.sl 1 [],.v (.int .i64 o)] (.tup [.v (.slice none 0 0),.v (.bool true)]):=by
 refine Zaa (tok:=0) Tryz.func28 rfl Tryz.ntmps28 Tryz.results28 Tryz.call28 (by rfl) (by simp) ?_
 (repeat' (first|(with_reducible first|refine stp ?_|apply gx1|apply gx2|apply gx3|apply gx4|apply gx5|apply gx6|apply gx7|apply gy8|apply gz2|apply gz3)|(with_reducible refine Zbf ?_;intro _)|((with_reducible refine gE ?_);(try simp (disch:=omega) only [go_sem,List.length_nil,decide_eq_true,decide_eq_false,if_pos,if_neg,Int.reduceAdd,Int.reduceSub,Int.reduceToNat,Int.zero_add])<;>first|rfl|omega)|with_reducible refine Zaf (by decide) ?_|((with_reducible apply gy1);iterate 3 focus rfl)|((with_reducible apply gy2);iterate 3 focus rfl)|((with_reducible apply gy3);iterate 2 focus rfl)|((with_reducible apply gy4);iterate 1 focus rfl)|((with_reducible apply gy5);iterate 4 focus rfl)|((with_reducible apply gy5c);iterate 4 focus rfl)|((with_reducible apply gy6);iterate 4 focus rfl)|((with_reducible apply Zc0);iterate 3 focus rfl)|((with_reducible apply Zcz);iterate 1 focus rfl)|((with_reducible apply gy7);iterate 1 focus rfl)|((with_reducible apply gy9);(focus ((with_reducible refine gE ?_);(try simp (disch:=omega) only [go_sem,List.length_nil,decide_eq_true,decide_eq_false,if_pos,if_neg,Int.reduceAdd,Int.reduceSub,Int.reduceToNat,Int.zero_add])<;>rfl)))|((with_reducible apply gz1);(focus first|rfl|(simp (disch:=omega) only [go_sem,List.length_nil,decide_eq_true,decide_eq_false,if_pos,if_neg,Int.reduceAdd,Int.reduceSub,Int.reduceToNat,Int.zero_add];done)))|((with_reducible apply Za2 (Zcg []) [] []);(focus kernel_rfl);(focus rfl);(focus kernel_rfl);(focus (simp only [List.length_cons,List.length_nil,Nat.reduceAdd];rfl)))|((with_reducible first|apply Zbm|apply Zbw|apply Zbn);all_goals (intro hc;(try simp only [bool_to_prop] at hc);try (exfalso;omega)))|((with_reducible apply Zlk 2);(focus rfl))))
 (all_goals (try simp (disch:=omega) only [go_sem,decide_eq_true,decide_eq_false,if_pos,if_neg,Int.reduceAdd,Int.reduceSub,Int.reduceToNat,Int.zero_add]));(all_goals first|done|rfl|(congr 2;first|done|omega|(rw [Bool.eq_iff_iff];simp only [bool_to_prop,Bool.false_eq_true,iff_true,true_iff,iff_false,false_iff];omega))|skip)
theorem rpZeros (m:List Int) (hl:m.length≤1000):Pure Tryz.prog 134 [ivs m,ivs m] (.v (.bool true)):=by
 show Pure _ _ [ints m,ints m] _;unfold ints;refine Zaa (tok:=0) Tryz.func134 rfl Tryz.ntmps134 Tryz.results134 Tryz.call134 (by rfl) (by simp) ?_;(focus (refine wkad w_t w_t w_t ?_;(repeat' first|exact w_t|apply w_l);all_goals intros));refine Zag (ι:=Nat) (λk e m'=>k≤m.length∧e 0=.sl 1 (m.map λn=>AV.v (.int .i64 n))∧e 1=.sl 1 (m.map λn=>AV.v (.int .i64 n))∧e 5=.v (.int .i64 k)) (λk=>m.length - k) 0 (by rfl) ?_ ?_
 ·rintro k e m' ⟨hk,e0,e1,e5⟩
  by_cases hlt:k < m.length
  ·have hx:=Zfk m k;(focus (refine wkad (w_3 e0 e1 e5) (w_1 hx) (w_1 (w_d 4 [(6,.v (.int .i64 (gI m k)))] [] [])) ?_;(repeat' first|exact w_t|apply w_l);all_goals intros));exact⟨k+1,⟨by omega,by exact gW e0,by exact gW e1,by exact gS⟩,by omega⟩
  ·(focus (refine wkld (w_3 e0 e1 e5) w_t w_t w_t ?_;(repeat' first|exact w_t|apply w_l);all_goals intros))
 ·exact⟨Nat.zero_le _,by exact gC,by exact gC,by exact gC⟩
theorem rpNorm1 (c:Rat) (m:List Int) (h0:c≠0) {k:Nat} (hs:Sz c k) (hk:k≤500000) (hc:Can m) (hl:m.length≤64) (he:∀j,gI m j≤1048576):Pure Tryz.prog 79 [poA [(c,m)]] (poA [(c,m)]):=by
 have c1:Pure Tryz.prog 133 [ivs m] (ivs m):=by have:=mrNorm m (by omega);rwa [Zs6 hc hl he] at this
 have c2:=rpZeros m (by omega);have c3:=Zp0 c m hs (by omega);rw [if_neg h0] at c3;generalize hv:m.map iv=v at *;refine Zaa (tok:=0) Tryz.func79 rfl Tryz.ntmps79 Tryz.results79 Tryz.call79 (by rfl) (by simp) ?_;(focus (refine wkax (w_1 hv) (w_3 c1 c2 c3) w_t w_t w_t w_t (w_r 2) ?_;(repeat' first|exact w_t|apply w_l);all_goals intros))
 (all_goals (try simp (disch:=omega) only [go_sem,hv,decide_eq_true,decide_eq_false,if_pos,if_neg,Int.reduceAdd,Int.reduceSub,Int.reduceToNat,Int.zero_add]));(all_goals first|done|rfl|(congr 2;first|done|omega|(rw [Bool.eq_iff_iff];simp only [bool_to_prop,Bool.false_eq_true,iff_true,true_iff,iff_false,false_iff];omega))|skip)
theorem Zp2 (c:Rat) (m:List Int) (h0:c≠0) {k:Nat} (hs:Sz c k) (hk:k≤500000) (hc:Can m) (hl:m.length≤64) (he:∀j,gI m j≤1048576):Pure Tryz.prog 36 [ratQ c,ivs m] (poA [(c,m)]):=by
 have c1:=rpNorm1 c m h0 hs hk hc hl he;refine Zaa (tok:=0) Tryz.func36 rfl Tryz.ntmps36 Tryz.results36 Tryz.call36 (by rfl) (by simp) ?_;(focus (refine wkax w_t w_t w_t (w_1 c1) w_t w_t (w_r 0) ?_;(repeat' first|exact w_t|apply w_l);all_goals intros))
 (all_goals (try simp (disch:=omega) only [go_sem,decide_eq_true,decide_eq_false,if_pos,if_neg,Int.reduceAdd,Int.reduceSub,Int.reduceToNat,Int.zero_add]));(all_goals first|done|rfl|(congr 2;first|done|omega|(rw [Bool.eq_iff_iff];simp only [bool_to_prop,Bool.false_eq_true,iff_true,true_iff,iff_false,false_iff];omega))|skip)
theorem Zsj (t:Tm) (b:Po) (o:Int) {j k:Nat} (ht:TO t j) (h0:b≠[]) (hm:∀u∈b,Sm u.2) (hl:b.length≤1000000) (hb:TO (ldO o b) k) (hj:j≤400000) (hk:k≤100000) (d:divI (ldO o b).2 t.2=true):Pure Tryz.prog 35 [tmA t,poA b,.v (.int .i64 o)] (.tup [poA [(t.1/(ldO o b).1,quoI t.2 (ldO o b).2)],.v (.bool true)]):=by
 have g:=ht.quo hb d;have c0:=Zmx b o h0 hm hl;have c1:Pure Tryz.prog 77 [ivs t.2,ivs (ldO o b).2] (.tup [ivs (quoI t.2 (ldO o b).2),.v (.bool true)]):=by have:=refQuo t.2 (ldO o b).2 ht.wd hb.wd;rwa [d,quoR_quo ht.c hb.c] at this
 have c2:=qDiv t.1 (ldO o b).1 ht.z hb.z (by omega) (by omega) hb.n;have c3:=Zp2 (t.1/(ldO o b).1) (quoI t.2 (ldO o b).2) g.n g.z (by omega) g.c g.l g.e;generalize ldO o b=w at *;obtain⟨t1,t2⟩:=t;obtain⟨b1,b2⟩:=w;simp only at c1 c2 c3;show Pure _ _ _ (.tup [poA [(t1/b1,quoI t2 b2)],_]);generalize t1/b1=q at *;generalize quoI t2 b2=m at *;refine Zaa (tok:=0) Tryz.func35 rfl Tryz.ntmps35 Tryz.results35 Tryz.call35 (by rfl) (by simp) ?_;(focus (refine wkax w_t (w_3 c0 c1 c2) w_t (w_1 c3) w_t w_t (w_r 0) ?_;(repeat' first|exact w_t|apply w_l);all_goals intros))
 (all_goals (try simp (disch:=omega) only [go_sem,decide_eq_true,decide_eq_false,if_pos,if_neg,Int.reduceAdd,Int.reduceSub,Int.reduceToNat,Int.zero_add]));(all_goals first|done|rfl|(congr 2;first|done|omega|(rw [Bool.eq_iff_iff];simp only [bool_to_prop,Bool.false_eq_true,iff_true,true_iff,iff_false,false_iff];omega))|skip)
theorem rfFactN (t:Tm) (b:Po) (o:Int) {j k:Nat} (ht:TO t j) (h0:b≠[]) (hm:∀u∈b,Sm u.2) (hl:b.length≤1000000) (hb:TO (ldO o b) k) (d:divI (ldO o b).2 t.2=false):Pure Tryz.prog 35 [tmA t,poA b,.v (.int .i64 o)] (.tup [.v (.slice none 0 0),.v (.bool false)]):=by
 have c0:=Zmx b o h0 hm hl;have c1:Pure Tryz.prog 77 [ivs t.2,ivs (ldO o b).2] (.tup [ivs (quoR t.2 (ldO o b).2),.v (.bool false)]):=by have:=refQuo t.2 (ldO o b).2 ht.wd hb.wd;rwa [d] at this
 generalize ldO o b=w at *;obtain⟨t1,t2⟩:=t;obtain⟨b1,b2⟩:=w;simp only at c1;generalize quoR t2 b2=m at *;refine Zaa (tok:=0) Tryz.func35 rfl Tryz.ntmps35 Tryz.results35 Tryz.call35 (by rfl) (by simp) ?_;(focus (refine wkld w_t (w_2 c0 c1) w_t w_t ?_;(repeat' first|exact w_t|apply w_l);all_goals intros))
theorem rsSame (qs:List Po) (hl:qs.length≤1000) (h:∀q∈qs,Pure Tryz.prog 11 [poA q,poA q] (.v (.bool true))):Pure Tryz.prog 10 [.sl 1 (qs.map poA),.sl 1 (qs.map poA)] (.v (.bool true)):=by
 refine Zaa (tok:=0) Tryz.func10 rfl Tryz.ntmps10 Tryz.results10 Tryz.call10 (by rfl) (by simp) ?_;(focus (refine wkad (w_1 @Za4) w_t w_t ?_;(repeat' first|exact w_t|apply w_l);all_goals intros));refine Zag (ι:=Nat) (λi e m=>i≤qs.length∧e 0=.sl 1 (qs.map poA)∧e 1=.sl 1 (qs.map poA)∧e 5=iv i) (λi=>qs.length - i) 0 (by rfl) ?_ ?_
 ·rintro i e m ⟨hi,e0,e1,e5⟩
  by_cases hlt:i < qs.length
  ·have hg:=Zbb poA hlt;have c:=h _ (List.getElem_mem hlt);generalize qs[i]=q at *;(focus (refine wkad (w_5 e0 e1 e5 hg @Za4) (w_1 c) (w_1 (w_d 6 [(8,.v (.bool true))] [] [])) ?_;(repeat' first|exact w_t|apply w_l);all_goals intros));exact⟨i+1,⟨by omega,by exact gW e0,by exact gW e1,by exact gS⟩,by omega⟩
  ·(focus (refine wkld (w_4 e0 e1 e5 @Za4) w_t w_t w_t ?_;(repeat' first|exact w_t|apply w_l);all_goals intros))
 ·exact⟨Nat.zero_le _,by exact gC,by exact gC,by exact gC⟩
theorem grFactsV (P Q f g:Po) (o:Int) (a b:Tm) (l:List Int)
 (c1:Pure Tryz.prog 18 [poA P,.v (.int .i64 o)] (.tup [tmA a,.v (.bool true)]))
 (c2:Pure Tryz.prog 18 [poA Q,.v (.int .i64 o)] (.tup [tmA b,.v (.bool true)]))
 (c3:Pure Tryz.prog 75 [iv 1] (ratQ 1))
 (c4:Pure Tryz.prog 83 [ivs a.2,ivs b.2] (ivs l))
 (c5:Pure Tryz.prog 30 [tmA (1,l),tmA a] (.tup [poA f,.v (.bool true)]))
 (c6:Pure Tryz.prog 30 [tmA (1,l),tmA b] (.tup [poA g,.v (.bool true)])) :
 Pure Tryz.prog 39 [poA P,poA Q,.v (.int .i64 o)] (.tup [poA f,poA g,.v (.int .i64 0)]):=by
 obtain⟨a1,a2⟩:=a;obtain⟨b1,b2⟩:=b;simp only at c4 c5 c6;generalize (1:Rat)=q at *;refine Zaa (tok:=0) Tryz.func39 rfl Tryz.ntmps39 Tryz.results39 Tryz.call39 (by rfl) (by simp) ?_;(focus (refine wkld w_t (w_6 c1 c2 c3 c4 c5 c6) w_t (w_1 (w_d 5 [(0,ratQ q),(5,ivs l)] [] [13])) ?_;(repeat' first|exact w_t|apply w_l);all_goals intros))
theorem grPairV (P Q f g x y z:Po) (o:Int) (b:Bool)
 (c1:Pure Tryz.prog 39 [poA P,poA Q,.v (.int .i64 o)] (.tup [poA f,poA g,.v (.int .i64 0)]))
 (c2:Pure Tryz.prog 17 [poA f,poA P] (poA x))
 (c3:Pure Tryz.prog 17 [poA g,poA Q] (poA y))
 (c4:Pure Tryz.prog 31 [poA x,poA y] (poA z))
 (c5:Pure Tryz.prog 29 [poA z] (.v (.bool b))) :
 Pure Tryz.prog 13 [poA P,poA Q,.v (.int .i64 o)] (if b=true then .tup [.v (.slice none 0 0),.v (.int .i64 4)] else .tup [poA z,.v (.int .i64 0)]):=by
 cases b
 ·rw [if_neg (by decide)];refine Zaa (tok:=0) Tryz.func13 rfl Tryz.ntmps13 Tryz.results13 Tryz.call13 (by rfl) (by simp) ?_;(focus (refine wkld w_t (w_5 c1 c2 c3 c4 c5) w_t w_t ?_;(repeat' first|exact w_t|apply w_l);all_goals intros))
 ·rw [if_pos rfl];refine Zaa (tok:=0) Tryz.func13 rfl Tryz.ntmps13 Tryz.results13 Tryz.call13 (by rfl) (by simp) ?_;(focus (refine wkld w_t (w_5 c1 c2 c3 c4 c5) w_t w_t ?_;(repeat' first|exact w_t|apply w_l);all_goals intros))
theorem rfFactsV (P Q f g:Po) (o:Int) (a b:Tm) (l:List Int)
 (c1:Pure Tryz.prog 34 [poA P,.v (.int .i64 o)] (.tup [tmA a,.v (.bool true)]))
 (c2:Pure Tryz.prog 34 [poA Q,.v (.int .i64 o)] (.tup [tmA b,.v (.bool true)]))
 (c3:Pure Tryz.prog 56 [iv 1] (ratQ 1))
 (c4:Pure Tryz.prog 84 [ivs a.2,ivs b.2] (ivs l))
 (c5:Pure Tryz.prog 35 [tmA (1,l),poA P,.v (.int .i64 o)] (.tup [poA f,.v (.bool true)]))
 (c6:Pure Tryz.prog 35 [tmA (1,l),poA Q,.v (.int .i64 o)] (.tup [poA g,.v (.bool true)])) :
 Pure Tryz.prog 40 [poA P,poA Q,.v (.int .i64 o)] (.tup [poA f,poA g]):=by
 obtain⟨a1,a2⟩:=a;obtain⟨b1,b2⟩:=b;simp only at c4 c5 c6;generalize (1:Rat)=q at *;refine Zaa (tok:=0) Tryz.func40 rfl Tryz.ntmps40 Tryz.results40 Tryz.call40 (by rfl) (by simp) ?_;(focus (refine wkld w_t (w_6 c1 c2 c3 c4 c5 c6) w_t (w_1 (w_d 3 [(0,ratQ q),(5,ivs l)] [] [12])) ?_;(repeat' first|exact w_t|apply w_l);all_goals intros))
theorem rfPairV (P Q f g x y z:Po) (o:Int) (b:Bool) (h1:P.length≠0) (h2:Q.length≠0)
 (c1:Pure Tryz.prog 40 [poA P,poA Q,.v (.int .i64 o)] (.tup [poA f,poA g]))
 (c2:Pure Tryz.prog 27 [poA f,poA P] (poA x))
 (c3:Pure Tryz.prog 27 [poA g,poA Q] (poA y))
 (c4:Pure Tryz.prog 24 [poA x,poA y] (poA z))
 (c5:Pure Tryz.prog 33 [poA z] (.v (.bool b))) :
 Pure Tryz.prog 14 [poA P,poA Q,.v (.int .i64 o)] (if b=true then .tup [.v (.slice none 0 0),.v (.int .i64 4)] else .tup [poA z,.v (.int .i64 0)]):=by
 cases b
 ·rw [if_neg (by decide)];refine Zaa (tok:=0) Tryz.func14 rfl Tryz.ntmps14 Tryz.results14 Tryz.call14 (by rfl) (by simp) ?_;(focus (refine wkld (w_3 @Za4 h1 h2) (w_5 c1 c2 c3 c4 c5) w_t w_t ?_;(repeat' first|exact w_t|apply w_l);all_goals intros))
 ·rw [if_pos rfl];refine Zaa (tok:=0) Tryz.func14 rfl Tryz.ntmps14 Tryz.results14 Tryz.call14 (by rfl) (by simp) ?_;(focus (refine wkld (w_3 @Za4 h1 h2) (w_5 c1 c2 c3 c4 c5) w_t w_t ?_;(repeat' first|exact w_t|apply w_l);all_goals intros))
theorem BO.ld {o:Int} {b:Po} (h:BO b):TO (ldO o b) 1:=by
 have m:=Zez (o:=o) h.s h.n;have g:=(h.pb.k _ m).2.2;exact⟨(h.s.1 _ m).1,h.z _ m,h.s.dom _ m,by have:=(h.x _ m).1;omega,λj=>by have:=(g j).2;omega⟩
theorem DI.ld {o:Int} {bs:List Po} {k:Nat} {s:DS} (h:DI o bs k s) (h0:s.p≠[]):TO (ldO o s.p) (10+8*k):=by
 have m:=Zez (o:=o) h.sp h0;have c:=h.sp.dom _ m;exact⟨(h.sp.1 _ m).1,h.sz _ m,c,by have:=(h.bp _ m).1;omega,λj=>by have:=(h.bp _ m).e c j;omega⟩
theorem DI.pb {o:Int} {bs:List Po} {k:Nat} {s:DS} (h:DI o bs k s):PB s.p (8+4*k) (10+8*k) 16:=⟨h.sp,h.pk,h.lp⟩
theorem DI.qb {o:Int} {bs:List Po} {k i:Nat} {s:DS} (h:DI o bs k s) (hi:i < bs.length):PB (s.q.getD i []) k (10+8*k) 16:=⟨(h.pq hi).1,(h.pq hi).2.1,(h.pq hi).2.2⟩
theorem DI.rb {o:Int} {bs:List Po} {k:Nat} {s:DS} (h:DI o bs k s):PB s.r k (10+8*k) 16:=⟨h.pr.1,h.pr.2.1,h.pr.2.2⟩
theorem one_pb {f:Tm} {k e:Nat} (h0:f.1≠0) (hz:Sz f.1 k) (hc:Can f.2) (hl:f.2.length≤1000) (he:∀j,gI f.2 j≤e):PB [f] 1 k e :=
 ⟨Srt.cons .nil h0 hc (by simp),λt ht=>by rw [List.mem_singleton] at ht;subst ht;exact⟨hz,hl,λj=>⟨hc.1 j,he j⟩⟩,by simp⟩
theorem TO.one {t:Tm} {k e:Nat} (h:TO t k) (he:∀j,gI t.2 j≤e):PB [t] 1 k e:=one_pb h.n h.z h.c (by have:=h.l;omega) he
def dvR:Option DS→AV
 | none=>.tup [.v (.slice none 0 0),.v (.slice none 0 0),iv 4]
 | some s=>.tup [.sl 1 (s.q.map poA),poA s.r,iv 0]
theorem dv_go {o:Int} {bs:List Po} {k i:Nat} {s:DS} {f:Tm} (hb:∀b∈bs,BO b) (h:DI o bs k s) (hk:k+dvM o s≤20809) (h0:s.p≠[]) (hi:i < bs.length) (hj:∀j,j < i→Zet o (ldO o s.p) (bs.getD j [])=none) (hf:Zet o (ldO o s.p) (bs.getD i [])=some f) :
 ((bigP (subM s.p (mlM [f] (bs.getD i []))) || bigP (addM (s.q.getD i []) [f]))=true→Zdn o bs s=none) ∧
 ((bigP (subM s.p (mlM [f] (bs.getD i []))) || bigP (addM (s.q.getD i []) [f]))=false→Zdn o bs s=Zdn o bs ⟨subM s.p (mlM [f] (bs.getD i [])),s.q.set i (addM (s.q.getD i []) [f]),s.r⟩∧(∃k',DI o bs k' ⟨subM s.p (mlM [f] (bs.getD i [])),s.q.set i (addM (s.q.getD i []) [f]),s.r⟩∧k'+dvM o ⟨subM s.p (mlM [f] (bs.getD i [])),s.q.set i (addM (s.q.getD i []) [f]),s.r⟩≤20809)∧dvM o ⟨subM s.p (mlM [f] (bs.getD i [])),s.q.set i (addM (s.q.getD i []) [f]),s.r⟩ < dvM o s):=by
 have hs:=fst_at hj hi hf;refine⟨λg=>Zj4 h0 (by unfold Ze2;rw [hs];simp only [g,if_true]),λg=>?_⟩;obtain⟨a,b,c,d⟩:=Zh9 (s':=⟨subM s.p (mlM [f] (bs.getD i [])),s.q.set i (addM (s.q.getD i []) [f]),s.r⟩) hb h hk h0 (by unfold Ze2;rw [hs];simp only [g,Bool.false_eq_true,if_false]);exact⟨a,⟨_,b,c⟩,d⟩
theorem dv_out {o:Int} {bs:List Po} {k:Nat} {s:DS} (hb:∀b∈bs,BO b) (h:DI o bs k s) (hk:k+dvM o s≤20809) (h0:s.p≠[]) (hj:∀j,j < bs.length→Zet o (ldO o s.p) (bs.getD j [])=none) :
 (bigP (addM s.r [ldO o s.p])=true→Zdn o bs s=none) ∧
 (bigP (addM s.r [ldO o s.p])=false→Zdn o bs s=Zdn o bs ⟨subM s.p [ldO o s.p],s.q,addM s.r [ldO o s.p]⟩∧(∃k',DI o bs k' ⟨subM s.p [ldO o s.p],s.q,addM s.r [ldO o s.p]⟩∧k'+dvM o ⟨subM s.p [ldO o s.p],s.q,addM s.r [ldO o s.p]⟩≤20809)∧dvM o ⟨subM s.p [ldO o s.p],s.q,addM s.r [ldO o s.p]⟩ < dvM o s):=by
 have hs:fstO o (ldO o s.p) bs=none:=Zqq λb hb=>by
  obtain⟨j,hj2,rfl⟩:=List.mem_iff_getElem.1 hb;have:=hj j hj2
  rwa [List.getD_eq_getElem?_getD,List.getElem?_eq_getElem hj2] at this
 refine⟨λg=>Zj4 h0 (by unfold Ze2;rw [hs];simp only [g,if_true]),λg=>?_⟩;obtain⟨a,b,c,d⟩:=Zh9 (s':=⟨subM s.p [ldO o s.p],s.q,addM s.r [ldO o s.p]⟩) hb h hk h0 (by unfold Ze2;rw [hs];simp only [g,Bool.false_eq_true,if_false]);exact⟨a,⟨_,b,c⟩,d⟩
theorem lgB {p:Po} {n j e:Nat} (h:PB p n j e) (hn:n≤1000000) (he:e≤1000):Pure Tryz.prog 29 [poA p] (.v (.bool (bigP p)))∧Pure Tryz.prog 33 [poA p] (.v (.bool (bigP p))) :=
 have:=h.l
 ⟨grLarge p h.k (by omega) (by omega),rpLarge p h.k (by omega) (by omega)⟩
theorem dv_con {o:Int} {bs:List Po} {k i:Nat} {s:DS} {f:Tm} (hb:∀b∈bs,BO b) (h:DI o bs k s) (hk:k≤20809) (h0:s.p≠[]) (hi:i < bs.length) (hf:Zet o (ldO o s.p) (bs.getD i [])=some f) :
 (Pure Tryz.prog 16 [poA (s.q.getD i []),poA [f]] (poA (addM (s.q.getD i []) [f]))∧Pure Tryz.prog 25 [poA (s.q.getD i []),poA [f]] (poA (addM (s.q.getD i []) [f]))) ∧
 (Pure Tryz.prog 17 [poA [f],poA (bs.getD i [])] (poA (mlM [f] (bs.getD i [])))∧Pure Tryz.prog 27 [poA [f],poA (bs.getD i [])] (poA (mlM [f] (bs.getD i [])))) ∧
 (Pure Tryz.prog 31 [poA s.p,poA (mlM [f] (bs.getD i []))] (poA (subM s.p (mlM [f] (bs.getD i []))))∧Pure Tryz.prog 24 [poA s.p,poA (mlM [f] (bs.getD i []))] (poA (subM s.p (mlM [f] (bs.getD i []))))) ∧
 (Pure Tryz.prog 29 [poA (subM s.p (mlM [f] (bs.getD i [])))] (.v (.bool (bigP (subM s.p (mlM [f] (bs.getD i []))))))∧Pure Tryz.prog 33 [poA (subM s.p (mlM [f] (bs.getD i [])))] (.v (.bool (bigP (subM s.p (mlM [f] (bs.getD i []))))))) ∧
 (Pure Tryz.prog 29 [poA (addM (s.q.getD i []) [f])] (.v (.bool (bigP (addM (s.q.getD i []) [f]))))∧Pure Tryz.prog 33 [poA (addM (s.q.getD i []) [f])] (.v (.bool (bigP (addM (s.q.getD i []) [f]))))):=by
 have hbi:=hb _ (Zgc hi);obtain⟨f0,fc,fl,fe,fz,-,-⟩:=Zpl h.sp h0 hbi h.bp h.sz hf;have pf:PB [f] 1 (11+8*k) 16:=one_pb f0 fz fc (by omega) fe;have pq:=h.qb hi;have pb:=hbi.pb;have pm:=pf.mul pb;have pp:=h.pb;exact⟨hpAdd pq pf (by omega) (by omega) (by omega) (by omega) (by omega) (by omega),hpMul pf pb (by omega) (by omega) (by omega) (by omega) (by omega) (by omega) (by omega) (by rw [show min 1 4=1 from rfl];omega) (by omega),hpSub pp pm (by omega) (by omega) (by omega) (by omega) (by omega) (by omega),lgB (pp.sub pm) (by omega) (by omega),lgB (pq.add pf) (by omega) (by omega)⟩
theorem Ztz {o:Int} {bs:List Po} {k:Nat} {s:DS} (h:DI o bs k s) (hk:k≤20809) (h0:s.p≠[]) :
 (Pure Tryz.prog 32 [poA [ldO o s.p]] (poA [ldO o s.p])∧Pure Tryz.prog 36 [ratQ (ldO o s.p).1,ivs (ldO o s.p).2] (poA [ldO o s.p])) ∧
 (Pure Tryz.prog 16 [poA s.r,poA [ldO o s.p]] (poA (addM s.r [ldO o s.p]))∧Pure Tryz.prog 25 [poA s.r,poA [ldO o s.p]] (poA (addM s.r [ldO o s.p]))) ∧
 (Pure Tryz.prog 31 [poA s.p,poA [ldO o s.p]] (poA (subM s.p [ldO o s.p]))∧Pure Tryz.prog 24 [poA s.p,poA [ldO o s.p]] (poA (subM s.p [ldO o s.p]))) ∧
 (Pure Tryz.prog 29 [poA (addM s.r [ldO o s.p])] (.v (.bool (bigP (addM s.r [ldO o s.p]))))∧Pure Tryz.prog 33 [poA (addM s.r [ldO o s.p])] (.v (.bool (bigP (addM s.r [ldO o s.p]))))):=by
 have t:=h.ld h0;have m:=Zez (o:=o) h.sp h0;have te:∀j,gI (ldO o s.p).2 j≤(16:Nat):=λj=>(h.bp _ m).e (h.sp.dom _ m) j;have pt:=t.one te;have pr:=h.rb;have pp:=h.pb;exact⟨⟨Zsv _ _ t.n t.z (by omega) t.c t.l t.e,Zp2 _ _ t.n t.z (by omega) t.c t.l t.e⟩,hpAdd pr pt (by omega) (by omega) (by omega) (by omega) (by omega) (by omega),hpSub pp pt (by omega) (by omega) (by omega) (by omega) (by omega) (by omega),lgB (pr.add pt) (by omega) (by omega)⟩
theorem grLeadsA (bs:List Po) (o:Int) (hb:∀b∈bs,BO b) (hl:bs.length≤1000):Pure Tryz.prog 28 [.sl 1 (bs.map poA),.v (.int .i64 o)] (.tup [.sl 4 (bs.map λb=>tmA (ldO o b)),.v (.bool true)]):=by
 cases bs with
 | nil=>exact Zho (grLeads0 o) (Vk.tupL (.cons (.nil 4) (.cons (.refl _) .nil)))
 | cons b r=>exact Ztr _ o (λc hc=>⟨(hb c hc).n,λu hu=>(hb c hc).pb.k.sm (by omega) hu,by have:=(hb c hc).l;omega⟩) hl (by simp)
attribute [local go_sem] Tryz.underlying27
theorem nilsVk (n:Nat):VkL (flat (List.replicate n (.v (.slice none 0 0)))) (flat ((List.replicate n ([]:Po)).map poA)):=by
 induction n with
 | zero=>exact .nil
 | succ n ih=>exact .cons (.nil 4) ih
theorem Zl6 (o:Int) (bs:List Po) (p:Po) (hb:∀b∈bs,BO b) (hl:bs.length≤1000) (hp:PB p 8 10 16) (h:DI o bs 0 ⟨p,List.replicate bs.length [],[]⟩∧0+dvM o ⟨p,List.replicate bs.length [],[]⟩≤20809) :
 Pure Tryz.prog 8 [poA p,.sl 1 (bs.map poA),.v (.int .i64 o)] (dvR (if bigP p=true then none else Zdn o bs ⟨p,List.replicate bs.length [],[]⟩)):=by
 have cL:=grLeadsA bs o hb hl;have cB:=(lgB hp (by omega) (by omega)).1;by_cases hbig:bigP p=true
 ·rw [if_pos hbig];rw [hbig] at cB;unfold dvR;refine Zaa (tok:=0) Tryz.func8 rfl Tryz.ntmps8 Tryz.results8 Tryz.call8 (by rfl) (by simp) ?_;(focus (refine wkad w_t w_t w_t ?_;(repeat' first|exact w_t|apply w_l);all_goals intros));refine Zoq (by rfl) ?_;(focus (refine wkld (w_1 @Za4) (w_2 cL cB) w_t w_t ?_;(repeat' first|exact w_t|apply w_l);all_goals intros))
 ·rw [if_neg hbig];rw [Bool.not_eq_true] at hbig;rw [hbig] at cB;generalize hR:dvR (Zdn o bs ⟨p,List.replicate bs.length [],[]⟩)=R;generalize hLd:(bs.map λb=>tmA (ldO o b))=Ld at *;have hLg:∀i,i < bs.length→Ld.getD i .u=tmA (ldO o (bs.getD i [])):=λi hi=>by
   rw [←hLd,List.getD_eq_getElem?_getD,List.getElem?_map,List.getElem?_eq_getElem hi,List.getD_eq_getElem?_getD,List.getElem?_eq_getElem hi];rfl
  have hLl:Ld.length=bs.length:=by rw [←hLd,List.length_map]
  have hBg:∀i,i < bs.length→(bs.map poA).getD i .u=poA (bs.getD i []):=λi hi=>by
   rw [List.getD_eq_getElem?_getD,List.getElem?_map,List.getElem?_eq_getElem hi,List.getD_eq_getElem?_getD,List.getElem?_eq_getElem hi];rfl
  have hBl:(bs.map poA).length=bs.length:=List.length_map ..;generalize hBm:bs.map poA=Bm at *;refine Zaa (tok:=0) Tryz.func8 rfl Tryz.ntmps8 Tryz.results8 Tryz.call8 (by rfl) (by simp) ?_;(focus (refine wkad w_t w_t w_t ?_;(repeat' first|exact w_t|apply w_l);all_goals intros));refine Zoq (by rfl) ?_;(focus (refine wkad (w_2 hBl hLl) (w_2 cL cB) w_t ?_;(repeat' first|exact w_t|apply w_l);all_goals intros));refine Ze5 (Frz.rowVk (es':=(List.replicate bs.length ([]:Po)).map poA) (K:=28) (by exact gC) (by simp) (λx hx=>by obtain⟨y,-,rfl⟩:=List.mem_map.1 hx;rfl) (λx hx=>by obtain⟨y,-,rfl⟩:=List.mem_map.1 hx;rfl) (nilsVk _)) ?_
  refine Ze5 (Frz.nil (d:=7) 4 (by exact gC)) ?_;refine Zag (ι:=DS) (λs e m=>(∃k,DI o bs k s∧k+dvM o s≤20809)∧dvR (Zdn o bs s)=R∧e 0=poA s.p∧e 1=.sl 1 Bm∧e 2=.v (.int .i64 o)∧e 9=.sl 4 Ld∧e 7=poA s.r∧∃sv,e 6=.own 28 sv∧m 28=some (.row sv 23 1 (s.q.map poA) 0)) (λs=>dvM o s) ⟨p,List.replicate bs.length [],[]⟩ (by rfl) ?_ ?_
  ·rintro s e m ⟨⟨k,hD,hk⟩,hR,e0,e1,e2,e9,e7,sv,e6,m28⟩
   by_cases h0:s.p=[]
   ·rw [Zj3 h0] at hR;rw [h0] at e0
    replace hR:AV.tup [.sl 1 (s.q.map poA),poA s.r,iv 0]=R:=hR
    generalize s.q.map poA=Q at *;subst hR;(focus (refine wkld (w_7 e0 e1 e2 e9 e7 e6 m28) w_t (w_1 m28) w_t ?_;(repeat' first|exact w_t|apply w_l);all_goals intros))
   ·have hpl:s.p.length≠0:=λg=>h0 (List.length_eq_zero_iff.1 g);have hq:s.q.length=bs.length:=hD.lq;have t0:=hD.ld h0;have cl:=Zjb s.p o h0 (λu hu=>hD.pb.k.sm (by omega) hu) (by have:=hD.lp;omega);have hgo:=fun(i:Nat) (f:Tm)=>dv_go (i:=i) (f:=f) hb hD hk h0;have hcon:=fun(i:Nat) (f:Tm)=>dv_con (i:=i) (f:=f) hb hD (by omega) h0;have hout:=dv_out hb hD hk h0;obtain⟨⟨r1,-⟩,⟨r2,-⟩,⟨r3,-⟩,⟨r4,-⟩⟩:=Ztz hD (by omega) h0;have hfa:∀b,Zet o (ldO o s.p) b=if divI (ldO o b).2 (ldO o s.p).2=true then some ((ldO o s.p).1/(ldO o b).1,quoI (ldO o s.p).2 (ldO o b).2) else none:=λb=>rfl;generalize ldO o s.p=t at *
    obtain⟨t1,t2⟩:=t;(focus (refine wkad (w_10 e0 e1 e2 e9 e7 e6 m28 hpl hLl @Za4) (w_1 cl) w_t ?_;(repeat' first|exact w_t|apply w_l);all_goals intros));rename_i g;refine Zag (ι:=Nat) (λi e m=>i≤bs.length∧(∀j,j < i→Zet o (t1,t2) (bs.getD j [])=none)∧e 0=poA s.p∧e 1=.sl 1 Bm∧e 2=.v (.int .i64 o)∧e 9=.sl 4 Ld∧e 7=poA s.r∧e 6=.own 28 sv∧m 28=some (.row sv 23 1 (s.q.map poA) 0)∧e 11=.pbox 11 g 0∧m 11=some (.box g 48 [.v (.bool (decide (t1.num < 0))),lim (toL t1.num.natAbs),lim (toL t1.den),ivs t2] false)∧e 40=.sl 4 Ld∧e 41=iv bs.length∧e 42=iv i) (λi=>bs.length - i) 0 (by rfl) ?_ ?_
    ·rintro i e m ⟨hi,hj,e0,e1,e2,e9,e7,e6,m28,e11,m11,e40,e41,e42⟩
     by_cases hlt:i < bs.length
     ·have hg:=hLg i hlt;have hbg:=hBg i hlt;have b0:=(hb _ (Zgc hlt)).ld (o:=o);have hfi:=hfa (bs.getD i []);by_cases d:divI (ldO o (bs.getD i [])).2 t2=true
      ·rw [if_pos d] at hfi;obtain⟨n1,n2⟩:=hgo i _ hlt hj hfi;obtain⟨⟨a1,-⟩,⟨a2,-⟩,⟨a3,-⟩,⟨a4,-⟩,⟨a5,-⟩⟩:=hcon i _ hlt hfi;have cq:=Ztp (t1,t2) (ldO o (bs.getD i [])) t0 b0 (by omega) (by omega) d;have gq:(s.q.map poA).getD i .u=poA (s.q.getD i []):=by rw [List.getD_eq_getElem?_getD,List.getElem?_map,List.getElem?_eq_getElem (by omega),List.getD_eq_getElem?_getD,List.getElem?_eq_getElem (by omega)];rfl
       have sq:∀x:Po,(s.q.set i x).map poA=(s.q.map poA).set i (poA x):=λx=>List.map_set ..;have sg:∀x:AV,((s.q.map poA).set i x).getD i .u=x:=λx=>by rw [List.getD_eq_getElem?_getD,List.getElem?_set_self (by rw [List.length_map];omega)];rfl
       have ql:(s.q.map poA).length=bs.length:=by rw [List.length_map];exact hq
       clear hgo hcon hout hfa hfi hj b0 t0 hD r1 r2 r3 r4;simp only at cq a1 a2 a3 a4 a5 n1 n2;generalize (t1/(ldO o (bs.getD i [])).1,quoI t2 (ldO o (bs.getD i [])).2)=f at *;generalize ldO o (bs.getD i [])=l at *;obtain⟨l1,l2⟩:=l;generalize bs.getD i []=b at *;generalize s.q.getD i []=q at *;generalize hx:mlM [f] b=x at *;generalize hp2:subM s.p x=p2 at *;generalize hq2:addM q [f]=q2 at *;by_cases hbg2:(bigP p2 || bigP q2)=true
       ·rw [n1 hbg2] at hR;subst hR;unfold dvR;generalize bigP p2=u at *;generalize bigP q2=v at *;generalize s.q.map poA=Q at *;cases u<;>cases v
        ·exact absurd hbg2 (by decide)
        all_goals
         (focus (refine wkax (w_20 e0 e1 e2 e9 e7 e6 m28 e11 m11 e40 e41 e42 hg hbg hBl hLl gq sg ql @Ztj) (w_4 cq a1 a2 a3) w_t w_t (w_2 a4 a5) w_t (w_r 0) ?_;(repeat' first|exact w_t|apply w_l);all_goals intros))
         (all_goals (try simp (disch:=omega) only [go_sem,decide_eq_true,decide_eq_false,if_pos,if_neg,Int.reduceAdd,Int.reduceSub,Int.reduceToNat,Int.zero_add]));(all_goals first|done|rfl|(congr 2;first|done|omega|(rw [Bool.eq_iff_iff];simp only [bool_to_prop,Bool.false_eq_true,iff_true,true_iff,iff_false,false_iff];omega))|skip)
       ·rw [Bool.not_eq_true] at hbg2;obtain⟨k1,k2,k3⟩:=n2 hbg2;rw [k1] at hR;rw [Bool.or_eq_false_iff] at hbg2;rw [hbg2.1] at a4;rw [hbg2.2] at a5;(focus (refine wkax (w_20 e0 e1 e2 e9 e7 e6 m28 e11 m11 e40 e41 e42 hg hbg hBl hLl gq sg ql @Ztj) (w_4 cq a1 a2 a3) w_t w_t (w_2 a4 a5) w_t (w_r 0) ?_;(repeat' first|exact w_t|apply w_l);all_goals intros));exact⟨_,⟨k2,hR,by exact gC,by exact gW e1,by exact gW e2,by exact gW e9,by exact gW e7,sv,by exact gW e6,by simp only [sq];exact gC⟩,k3⟩
      ·rw [if_neg d] at hfi;rw [Bool.not_eq_true] at d;have cq:=grQuotN (t1,t2) (ldO o (bs.getD i [])) t0 b0 d;clear hgo hcon hout hfa b0 t0 hD r1 r2 r3 r4;generalize s.q.map poA=Q at *;generalize ldO o (bs.getD i [])=l at *;obtain⟨l1,l2⟩:=l;(focus (refine wkad (w_14 e0 e1 e2 e9 e7 e6 m28 e11 m11 e40 e41 e42 hg hLl) (w_1 cq) w_t ?_;(repeat' first|exact w_t|apply w_l);all_goals intros));exact⟨i+1,⟨by omega,λj hj2=>by
        by_cases e:j=i
        ·rw [e];exact hfi
        ·exact hj j (by omega),by exact gW e0,by exact gW e1,by exact gW e2,by exact gW e9,by exact gW e7,by exact gW e6,by exact gW m28,by exact gW e11,by exact gW m11,by exact gW e40,by exact gW e41,by exact gS⟩,by omega⟩
     ·obtain⟨n1,n2⟩:=hout λj hj2=>hj j (by omega);clear hgo hcon hout hfa t0 hD;generalize hp2:subM s.p [(t1,t2)]=p2 at *;generalize hr2:addM s.r [(t1,t2)]=r' at *;by_cases hbg2:bigP r'=true
      ·rw [n1 hbg2] at hR;subst hR;unfold dvR;rw [hbg2] at r4;generalize s.q.map poA=Q at *;(focus (refine wkax (w_12 e0 e1 e2 e9 e7 e6 m28 e11 m11 e40 e41 e42) (w_3 r2 r3 r4) w_t (w_1 r1) w_t w_t (w_r 0) ?_;(repeat' first|exact w_t|apply w_l);all_goals intros))
       (all_goals (try simp (disch:=omega) only [go_sem,decide_eq_true,decide_eq_false,if_pos,if_neg,Int.reduceAdd,Int.reduceSub,Int.reduceToNat,Int.zero_add]));(all_goals first|done|rfl|(congr 2;first|done|omega|(rw [Bool.eq_iff_iff];simp only [bool_to_prop,Bool.false_eq_true,iff_true,true_iff,iff_false,false_iff];omega))|skip)
      ·rw [Bool.not_eq_true] at hbg2;obtain⟨k1,k2,k3⟩:=n2 hbg2;rw [k1] at hR;rw [hbg2] at r4;(focus (refine wkax (w_12 e0 e1 e2 e9 e7 e6 m28 e11 m11 e40 e41 e42) (w_3 r2 r3 r4) w_t (w_1 r1) w_t w_t (w_r 0) ?_;(repeat' first|exact w_t|apply w_l);all_goals intros));exact⟨_,⟨k2,hR,by exact gC,by exact gW e1,by exact gW e2,by exact gW e9,by exact gC,sv,by exact gW e6,by exact gW m28⟩,k3⟩
    ·exact⟨Nat.zero_le _,λj h=>absurd h (by omega),by exact gW e0,by exact gW e1,by exact gW e2,by exact gW e9,by exact gW e7,by exact gW e6,by exact gW m28,by exact gC,by exact gC,by exact gW e9,by(simp (disch:=omega) only [go_sem,hLl]<;>repeat' first|rfl|refine⟨?_,?_⟩),by exact gC⟩
  ·exact⟨⟨0,h⟩,hR,by exact gC,by exact gC,by exact gC,by exact gC,by exact gC,_,by exact gC,by exact gC⟩
theorem rfDivide (o:Int) (bs:List Po) (p:Po) (hb:∀b∈bs,BO b) (hl:bs.length≤1000) (hp:PB p 8 10 16) (h:DI o bs 0 ⟨p,List.replicate bs.length [],[]⟩∧0+dvM o ⟨p,List.replicate bs.length [],[]⟩≤20809) :
 Pure Tryz.prog 9 [poA p,.sl 1 (bs.map poA),.v (.int .i64 o)] (dvR (if bigP p=true then none else Zdn o bs ⟨p,List.replicate bs.length [],[]⟩)):=by
 have cB:=(lgB hp (by omega) (by omega)).2;have hBg:∀i,i < bs.length→(bs.map poA).getD i .u=poA (bs.getD i []):=λi hi=>by
  rw [List.getD_eq_getElem?_getD,List.getElem?_map,List.getElem?_eq_getElem hi,List.getD_eq_getElem?_getD,List.getElem?_eq_getElem hi];rfl
 have hBl:(bs.map poA).length=bs.length:=List.length_map ..;have hbn:∀i,i < bs.length→(bs.getD i []).length≠0:=λi hi g=>(hb _ (Zgc hi)).n (List.length_eq_zero_iff.1 g);generalize hR:dvR (if bigP p=true then none else Zdn o bs ⟨p,List.replicate bs.length [],[]⟩)=R;generalize hBm:bs.map poA=Bm at *;refine Zaa (tok:=0) Tryz.func9 rfl Tryz.ntmps9 Tryz.results9 Tryz.call9 (by rfl) (by simp) ?_;(focus (refine wkad w_t w_t w_t ?_;(repeat' first|exact w_t|apply w_l);all_goals intros));refine Zag (ι:=Nat) (λi e m=>i≤bs.length∧e 0=poA p∧e 1=.sl 1 Bm∧e 2=.v (.int .i64 o)∧e 9=iv i) (λi=>bs.length - i) 0 (by rfl) ?_ ?_
 ·rintro i e m ⟨hi,e0,e1,e2,e9⟩
  by_cases hlt:i < bs.length
  ·have hg:=hBg i hlt;have hn:=hbn i hlt;generalize bs.getD i []=b at *;(focus (refine wkad (w_8 e0 e1 e2 e9 hg hBl hn @Za4) w_t w_t ?_;(repeat' first|exact w_t|apply w_l);all_goals intros));exact⟨i+1,⟨by omega,by exact gW e0,by exact gW e1,by exact gW e2,by exact gS⟩,by omega⟩
  ·by_cases hbig:bigP p=true
   ·rw [hbig] at cB;rw [if_pos hbig] at hR;subst hR;unfold dvR;(focus (refine wkld (w_5 e0 e1 e2 e9 hBl) (w_1 cB) w_t w_t ?_;(repeat' first|exact w_t|apply w_l);all_goals intros))
   ·rw [if_neg hbig] at hR;rw [Bool.not_eq_true] at hbig;rw [hbig] at cB;clear hbn;(focus (refine wkad (w_5 e0 e1 e2 e9 hBl) (w_1 cB) w_t ?_;(repeat' first|exact w_t|apply w_l);all_goals intros));refine Ze5 (Frz.rowVk (es':=(List.replicate bs.length ([]:Po)).map poA) (K:=35) (by exact gC) (by simp) (λx hx=>by obtain⟨y,-,rfl⟩:=List.mem_map.1 hx;rfl) (λx hx=>by obtain⟨y,-,rfl⟩:=List.mem_map.1 hx;rfl) (nilsVk _)) ?_;refine Ze5 (Frz.nil (d:=11) 4 (by exact gC)) ?_;refine Zag (ι:=DS) (λs e m=>(∃k,DI o bs k s∧k+dvM o s≤20809)∧dvR (Zdn o bs s)=R∧e 0=poA s.p∧e 1=.sl 1 Bm∧e 2=.v (.int .i64 o)∧e 11=poA s.r∧∃sv,e 10=.own 35 sv∧m 35=some (.row sv 23 1 (s.q.map poA) 0)) (λs=>dvM o s) ⟨p,List.replicate bs.length [],[]⟩ (by rfl) ?_ ?_
    ·rintro s e m ⟨⟨k,hD,hk⟩,hR,e0,e1,e2,e11,sv,e10,m35⟩
     by_cases h0:s.p=[]
     ·rw [Zj3 h0] at hR;rw [h0] at e0
      replace hR:AV.tup [.sl 1 (s.q.map poA),poA s.r,iv 0]=R:=hR
      generalize s.q.map poA=Q at *;subst hR;(focus (refine wkld (w_6 e0 e1 e2 e11 e10 m35) w_t (w_1 m35) w_t ?_;(repeat' first|exact w_t|apply w_l);all_goals intros))
     ·have hpl:s.p.length≠0:=λg=>h0 (List.length_eq_zero_iff.1 g);have hq:s.q.length=bs.length:=hD.lq;have t0:=hD.ld h0;have cl:=Zmx s.p o h0 (λu hu=>hD.pb.k.sm (by omega) hu) (by have:=hD.lp;omega);have hgo:=fun(i:Nat) (f:Tm)=>dv_go (i:=i) (f:=f) hb hD hk h0;have hcon:=fun(i:Nat) (f:Tm)=>dv_con (i:=i) (f:=f) hb hD (by omega) h0;have hout:=dv_out hb hD hk h0;obtain⟨⟨-,r1⟩,⟨-,r2⟩,⟨-,r3⟩,⟨-,r4⟩⟩:=Ztz hD (by omega) h0;have hfa:∀b,Zet o (ldO o s.p) b=if divI (ldO o b).2 (ldO o s.p).2=true then some ((ldO o s.p).1/(ldO o b).1,quoI (ldO o s.p).2 (ldO o b).2) else none:=λb=>rfl;generalize ldO o s.p=t at *
      obtain⟨t1,t2⟩:=t;simp only at r1;(focus (refine wkad (w_8 e0 e1 e2 e11 e10 m35 hpl @Za4) (w_1 cl) w_t ?_;(repeat' first|exact w_t|apply w_l);all_goals intros));rename_i g;refine Zag (ι:=Nat × Bool) (λx e m=>x.1≤bs.length∧e 1=.sl 1 Bm∧e 2=.v (.int .i64 o)∧e 11=poA s.r∧e 10=.own 35 sv∧e 12=.pbox 12 g 0∧m 12=some (.box g 48 [.v (.bool (decide (t1.num < 0))),lim (toL t1.num.natAbs),lim (toL t1.den),ivs t2] false)∧e 14=.v (.bool x.2)∧e 15=iv x.1 ∧
       (x.2=false→(∀j,j < x.1→Zet o (t1,t2) (bs.getD j [])=none)∧e 0=poA s.p∧m 35=some (.row sv 23 1 (s.q.map poA) 0)) ∧
       (x.2=true→∃s':DS,s'.r=s.r∧(∃k,DI o bs k s'∧k+dvM o s'≤20809)∧dvR (Zdn o bs s')=R∧dvM o s' < dvM o s∧e 0=poA s'.p∧m 35=some (.row sv 23 1 (s'.q.map poA) 0))) (λx=>if x.2=true then 0 else bs.length+1 - x.1) (0,false) (by rfl) ?_ ?_
      ·rintro ⟨i,fo⟩ e m ⟨hi,e1,e2,e11,e10,e12,m12,e14,e15,H1,H2⟩
       simp only at hi e14 e15 H1 H2;cases fo
       ·obtain⟨hj,e0,m35⟩:=H1 rfl;clear H1 H2;by_cases hlt2:i < bs.length
        ·have hbg:=hBg i hlt2;have hbi:=hb _ (Zgc hlt2);have b0:=hbi.ld (o:=o);have hfi:=hfa (bs.getD i []);have smb:∀u∈bs.getD i [],Sm u.2:=λu hu=>hbi.pb.k.sm (by omega) hu;have lnb:(bs.getD i []).length≤1000000:=by have:=hbi.l;omega
         by_cases d:divI (ldO o (bs.getD i [])).2 t2=true
         ·rw [if_pos d] at hfi;obtain⟨n1,n2⟩:=hgo i _ hlt2 hj hfi;obtain⟨⟨-,a1⟩,⟨-,a2⟩,⟨-,a3⟩,⟨-,a4⟩,⟨-,a5⟩⟩:=hcon i _ hlt2 hfi;have cq:=Zsj (t1,t2) (bs.getD i []) o t0 hbi.n smb lnb b0 (by omega) (by omega) d;have gq:(s.q.map poA).getD i .u=poA (s.q.getD i []):=by rw [List.getD_eq_getElem?_getD,List.getElem?_map,List.getElem?_eq_getElem (by omega),List.getD_eq_getElem?_getD,List.getElem?_eq_getElem (by omega)];rfl
          have sq:∀x:Po,(s.q.set i x).map poA=(s.q.map poA).set i (poA x):=λx=>List.map_set ..;have sg:∀x:AV,((s.q.map poA).set i x).getD i .u=x:=λx=>by rw [List.getD_eq_getElem?_getD,List.getElem?_set_self (by rw [List.length_map];omega)];rfl
          have ql:(s.q.map poA).length=bs.length:=by rw [List.length_map];exact hq
          clear hgo hcon hout hfa hfi hj b0 t0 hD r1 r2 r3 r4 smb lnb hbi;simp only at cq a1 a2 a3 a4 a5 n1 n2;generalize (t1/(ldO o (bs.getD i [])).1,quoI t2 (ldO o (bs.getD i [])).2)=f at *;generalize ldO o (bs.getD i [])=l at *;generalize bs.getD i []=b at *;generalize s.q.getD i []=q at *;generalize hx:mlM [f] b=x at *;generalize hp2:subM s.p x=p2 at *;generalize hq2:addM q [f]=q2 at *;by_cases hbg2:(bigP p2 || bigP q2)=true
          ·rw [n1 hbg2] at hR;subst hR;unfold dvR;generalize bigP p2=u at *;generalize bigP q2=v at *;generalize s.q.map poA=Q at *;cases u<;>cases v
           ·exact absurd hbg2 (by decide)
           all_goals
            (focus (refine wkax (w_16 e0 e1 e2 e11 e10 m35 e12 m12 e14 e15 hbg hBl gq sg ql @Ztj) (w_4 cq a1 a2 a3) (w_1 (w_d 16 [(6,.tup [poA [f],.v (.bool true)])] [] [])) w_t (w_2 a4 a5) w_t (w_r 0) ?_;(repeat' first|exact w_t|apply w_l);all_goals intros))
            (all_goals (try simp (disch:=omega) only [go_sem,decide_eq_true,decide_eq_false,if_pos,if_neg,Int.reduceAdd,Int.reduceSub,Int.reduceToNat,Int.zero_add]));(all_goals first|done|rfl|(congr 2;first|done|omega|(rw [Bool.eq_iff_iff];simp only [bool_to_prop,Bool.false_eq_true,iff_true,true_iff,iff_false,false_iff];omega))|skip)
          ·rw [Bool.not_eq_true] at hbg2;obtain⟨k1,k2,k3⟩:=n2 hbg2;rw [k1] at hR;rw [Bool.or_eq_false_iff] at hbg2;rw [hbg2.1] at a4;rw [hbg2.2] at a5;(focus (refine wkax (w_16 e0 e1 e2 e11 e10 m35 e12 m12 e14 e15 hbg hBl gq sg ql @Ztj) (w_4 cq a1 a2 a3) (w_1 (w_d 16 [(6,.tup [poA [f],.v (.bool true)])] [] [])) w_t (w_2 a4 a5) w_t (w_r 0) ?_;(repeat' first|exact w_t|apply w_l);all_goals intros));exact⟨(i+1,true),⟨by simp only;omega,by exact gW e1,by exact gW e2,by exact gW e11,by exact gW e10,by exact gW e12,by exact gW m12,by exact gC,by exact gS,λh=>(by cases h),λ_=>⟨⟨p2,s.q.set i q2,s.r⟩,rfl,k2,hR,k3,by exact gC,by simp only [sq];exact gC⟩⟩,by simp only [if_true];rw [if_neg (by decide)];omega⟩
         ·rw [if_neg d] at hfi;rw [Bool.not_eq_true] at d;have cq:=rfFactN (t1,t2) (bs.getD i []) o t0 hbi.n smb lnb b0 d;clear hgo hcon hout hfa b0 t0 hD r1 r2 r3 r4 smb lnb hbi;generalize hqm:s.q.map poA=Q at *;have hjn:∀j,j < i+1→Zet o (t1,t2) (bs.getD j [])=none:=λj hj2=>by
           by_cases e:j=i
           ·rw [e];exact hfi
           ·exact hj j (by omega)
          clear hfi hj d;generalize bs.getD i []=b at *;(focus (refine wkad (w_12 e0 e1 e2 e11 e10 m35 e12 m12 e14 e15 hbg hBl) (w_1 cq) (w_1 (w_d 16 [(6,.tup [.v (.slice none 0 0),.v (.bool false)])] [] [])) ?_;(repeat' first|exact w_t|apply w_l);all_goals intros));exact⟨(i+1,false),⟨by simp only;omega,by exact gW e1,by exact gW e2,by exact gW e11,by exact gW e10,by exact gW e12,by exact gW m12,by exact gW e14,by exact gS,λ_=>⟨hjn,by exact gW e0,by exact gW m35⟩,λh=>(by cases h)⟩,by simp only [Bool.false_eq_true,if_false];omega⟩
        ·obtain⟨n1,n2⟩:=hout λj hj2=>hj j (by omega);clear hgo hcon hout hfa t0 hD;generalize hp2:subM s.p [(t1,t2)]=p2 at *;generalize hr2:addM s.r [(t1,t2)]=r' at *;by_cases hbg2:bigP r'=true
         ·rw [n1 hbg2] at hR;subst hR;unfold dvR;rw [hbg2] at r4;generalize s.q.map poA=Q at *;(focus (refine wkld (w_11 e0 e1 e2 e11 e10 m35 e12 m12 e14 e15 hBl) (w_4 r1 r2 r3 r4) w_t w_t ?_;(repeat' first|exact w_t|apply w_l);all_goals intros))
         ·rw [Bool.not_eq_true] at hbg2;obtain⟨k1,k2,k3⟩:=n2 hbg2;rw [k1] at hR;rw [hbg2] at r4;(focus (refine wkad (w_11 e0 e1 e2 e11 e10 m35 e12 m12 e14 e15 hBl) (w_4 r1 r2 r3 r4) w_t ?_;(repeat' first|exact w_t|apply w_l);all_goals intros));exact⟨_,⟨k2,hR,by exact gC,by exact gW e1,by exact gW e2,by exact gC,sv,by exact gW e10,by exact gW m35⟩,k3⟩
       ·obtain⟨s',hr',k2,hR',k3,e0,m35⟩:=H2 rfl;clear H1 H2 hgo hcon hout hfa t0 hD r1 r2 r3 r4;(focus (refine wkad (w_11 e0 e1 e2 e11 e10 m35 e12 m12 e14 e15 hBl) w_t w_t ?_;(repeat' first|exact w_t|apply w_l);all_goals intros));all_goals exact⟨s',⟨k2,hR',by exact gW e0,by exact gW e1,by exact gW e2,by rw [hr'];exact gW e11,sv,by exact gW e10,by exact gW m35⟩,k3⟩
      ·exact⟨Nat.zero_le _,by exact gW e1,by exact gW e2,by exact gW e11,by exact gW e10,by exact gC,by exact gC,by exact gC,by exact gC,λ_=>⟨λj h=>absurd h (by simp only;omega),by exact gW e0,by exact gW m35⟩,λh=>(by cases h)⟩
    ·exact⟨⟨0,h⟩,hR,by exact gW e0,by exact gW e1,by exact gW e2,by exact gC,_,by exact gC,by exact gC⟩
 ·exact⟨Nat.zero_le _,by exact gC,by exact gC,by exact gC,by exact gC⟩
structure RT where
 r:RQ
 m:List Int
abbrev RT.av (t:RT):AV:=.agg [.v (.bool t.r.s),lim t.r.l,lim t.r.d,ivs t.m]
abbrev RT.tm (t:RT):Tm:=(t.r.q,t.m)
abbrev RT.zero:RT:=⟨⟨false,[],[]⟩,[]⟩
def RT.ok (t:RT):Bool:=t.r.ok && (decide (t.r.q≠0) && Zb8 t.m)
def Zi0 (l:List RT) (i:Nat):Bool:=(l.getD i RT.zero).ok && (decide (i=0) || decide (ltM (l.getD i RT.zero).m (l.getD (i - 1) RT.zero).m))
def Zln (l:List RT):Bool:=(List.range l.length).all (Zi0 l)
theorem Zm1 {l:List RT} {i:Nat} (h:i < l.length):l.getD i RT.zero=l[i]:=by rw [List.getD_eq_getElem?_getD,List.getElem?_eq_getElem h];rfl
theorem Zhn {m:List Int} (h:Zb8 m=true):Can m∧m.length≤64∧∀j,gI m j≤1048576:=by
 unfold Zb8 at h;simp only [Bool.and_eq_true,decide_eq_true_eq,Bool.not_eq_true',List.all_eq_true] at h;obtain⟨⟨h1,h2⟩,h3⟩:=h;have hj:∀j,0≤gI m j∧gI m j≤1048576:=λj=>by
  by_cases hl:j < m.length
  ·have:=h3 m[j] (List.getElem_mem hl);rw [Zfr hl];unfold Zfz at this;simp at this;omega
  ·rw [Zbi (by omega)];omega
 refine⟨⟨λj=>(hj j).1,?_⟩,h1,λj=>(hj j).2⟩;by_cases h0:m.length=0
 ·exact .inl h0
 ·rw [Zea (by omega)] at h2;exact .inr (by simpa using h2)
theorem pol_no {l:List RT} {i:Nat} (hi:i < l.length) (h:Zi0 l i=false):Zln l=false:=by
 unfold Zln;rw [List.all_eq_false];exact⟨i,List.mem_range.2 hi,by rw [h];simp⟩
theorem pol_in {l:List RT} {k:Nat} (h:Zln l=true) (hs:∀t∈l,t.r.lm k) :
 .sl 4 (l.map RT.av)=poA (l.map RT.tm)∧SrtM (l.map RT.tm)∧PK (l.map RT.tm) k 1048576∧∀t∈l,t.m.length≤64:=by
 have hall:∀i (hi:i < l.length),l[i].ok=true∧(i=0∨ltM l[i].m (l.getD (i - 1) RT.zero).m):=λi hi=>by
  have:=List.all_eq_true.1 h i (List.mem_range.2 hi);unfold Zi0 at this;rw [Zm1 hi] at this
  simpa using this
 have hok:∀t∈l,t.r.ok=true∧t.r.q≠0∧Zb8 t.m=true:=λt ht=>by
  obtain⟨i,hi,rfl⟩:=List.mem_iff_getElem.1 ht;have:=(hall i hi).1;unfold RT.ok at this;simp only [Bool.and_eq_true,decide_eq_true_eq] at this;exact this
 refine⟨?_,⟨λu hu=>?_,?_⟩,λu hu=>?_,λt ht=>(Zhn (hok t ht).2.2).2.1⟩
 ·rw [poA,List.map_map];congr 1;refine List.map_congr_left λt ht=>?_;have:=(RQ.ok_av (hs t ht) (hok t ht).1).1;simp only [AV.agg.injEq,List.cons.injEq] at this;show AV.agg [_,_,_,_]=AV.agg [_,_,_,_];rw [this.1,this.2.1,this.2.2.1]
 ·obtain⟨t,ht,rfl⟩:=List.mem_map.1 hu;exact⟨(hok t ht).2.1,(Zhn (hok t ht).2.2).1⟩
 ·have key:∀d i,i+d+1 < l.length→ltM (l.getD (i+d+1) RT.zero).m (l.getD i RT.zero).m:=by
   intro d
   induction d with
   | zero =>
     intro i hi;have:=(hall (i+1) hi).2;rw [Zm1 hi];rcases this with h0 | h0
     ·omega
     ·exact h0
   | succ d ih =>
     intro i hi;have h1:=ih i (by omega);have h2:=(hall (i+(d+1)+1) hi).2;rw [Zm1 hi];rcases h2 with h0 | h0
     ·omega
     ·exact ordM.tr _ _ _ h0 h1
  rw [List.pairwise_map,List.pairwise_iff_getElem];intro i j hi hj hij;have:=key (j - i - 1) i (by omega);rw [show i+(j - i - 1)+1=j by omega,Zm1 hi,Zm1 hj] at this;exact this
 ·obtain⟨t,ht,rfl⟩:=List.mem_map.1 hu;obtain⟨h1,h2,h3⟩:=Zhn (hok t ht).2.2;exact⟨(RQ.ok_av (hs t ht) (hok t ht).1).2,by show t.m.length≤1000;omega,λj=>⟨h1.1 j,h3 j⟩⟩
theorem rawRight (l:List RT) (ll:l.length≤1000000000) (hs:∀t∈l,t.r.lm 2000000):Pure Tryz.prog 38 [.sl 4 (l.map RT.av)] (.v (.bool (Zln l))):=by
 have hlen:(l.map RT.av).length=l.length:=List.length_map ..;have hgl:∀i (h:i < l.length),(l.map RT.av).getD i .u=l[i].av:=λi h=>Zbb RT.av h;generalize hL:l.map RT.av=L at *;refine Zaa (tok:=0) Tryz.func38 rfl Tryz.ntmps38 Tryz.results38 Tryz.call38 (by rfl) (by simp) ?_;(focus (refine wkad (w_1 hlen) w_t w_t ?_;(repeat' first|exact w_t|apply w_l);all_goals intros));refine Zag (ι:=Nat) (λi e m=>i≤l.length∧e 0=.sl 4 L∧e 3=iv i∧∀j,j < i→Zi0 l j=true) (λi=>l.length - i) 0 (by rfl) ?_ ?_
 ·rintro i e m ⟨hi,e0,e3,hj⟩
  by_cases hi2:i < l.length
  ·have hg:L.getD i .u=.agg [.v (.bool l[i].r.s),lim l[i].r.l,lim l[i].r.d,ivs l[i].m]:=hgl i hi2;have hm:=hs _ (List.getElem_mem hi2);have hti:=Zm1 hi2;have cr:=qRight l[i].r.s l[i].r.l l[i].r.d hm.1 hm.2.1 (by have:=hm.2.2.1;omega) (by have:=hm.2.2.2;omega);have cm:Pure Tryz.prog 82 [ivs l[i].m] (.v (.bool (Zb8 l[i].m))):=Zp7 l[i].m;have hno:Zi0 l i=false→Zln l=false:=pol_no hi2;have htr:Zi0 l i=(l[i].ok && (decide (i=0) || decide (ltM l[i].m (l.getD (i - 1) RT.zero).m))):=by unfold Zi0;rw [hti]
   have hnx:Zi0 l i=true→∀j,j < i+1→Zi0 l j=true:=λh j hjj=>by
    by_cases e:j=i
    ·rw [e];exact h
    ·exact hj j (by omega)
   have hsg:l[i].r.ok=true→Pure Tryz.prog 64 [.agg [.v (.bool l[i].r.s),lim l[i].r.l,lim l[i].r.d]] (.v (.int .i64 l[i].r.q.num.sign)):=λo=>by
    obtain⟨av,sz⟩:=RQ.ok_av hm o;have:=qSign l[i].r.q sz (by omega)
    rwa [←av] at this
   have hcl:Zb8 l[i].m=true→i≠0→(l.getD (i - 1) RT.zero).ok=true→Pure Tryz.prog 62 [ivs (l.getD (i - 1) RT.zero).m,ivs l[i].m,iv 0] (iv (lexC (l.getD (i - 1) RT.zero).m l[i].m (max (l.getD (i - 1) RT.zero).m.length l[i].m.length))):=λh1 h2 h3=>by
    obtain⟨a1,a2,a3⟩:=Zhn h1;have h4:Zb8 (l.getD (i - 1) RT.zero).m=true:=by unfold RT.ok at h3;simp only [Bool.and_eq_true] at h3;exact h3.2.2
    obtain⟨b1,b2,b3⟩:=Zhn h4;exact rpLex _ _ ⟨by omega,λj=>by have:=b1.1 j;have:=b3 j;omega⟩ ⟨by omega,λj=>by have:=a1.1 j;have:=a3 j;omega⟩
   have hpr:i≠0→(l.getD (i - 1) RT.zero).ok=true:=λh0=>by
    have:=hj (i - 1) (by omega);unfold Zi0 at this;simp only [Bool.and_eq_true] at this;exact this.1
   have hgp:i≠0→L.getD (i - 1) .u=(l.getD (i - 1) RT.zero).av:=λh0=>by rw [hgl (i - 1) (by omega),Zm1 (show i - 1 < l.length by omega)]
   have hlt:∀a b:List Int,ltM a b↔lexC b a (max b.length a.length)=1:=λa b=>by
    rw [Zgq,Nat.max_comm];show lexC a b (max a.length b.length)=-1↔_;omega
   have h3:∀a b:List Int,lexC a b (max a.length b.length)=0∨lexC a b (max a.length b.length)=-1∨lexC a b (max a.length b.length)=1:=λa b=>by
    rcases Zfd (a:=a) (b:=b) (max a.length b.length) with h | h | h
    ·exact .inl h.1
    ·exact .inr (.inl h)
    ·exact .inr (.inr h)
   simp only [hlt] at htr;unfold RT.ok at htr;have hsz:(l[i].r.q=0)↔l[i].r.q.num.sign=0:=by rw [Zev]
   clear hs hj hti hm hgl hlt;generalize l[i].r.ok=ok at *;generalize l[i].r.q=q at *;generalize hsn:q.num.sign=z at *;generalize l[i].m=mm at *;generalize l[i].r.s=rs at *;generalize l[i].r.l=rl at *;generalize l[i].r.d=rd at *
   cases ok with
   | false =>
     rw [hno (by rw [htr];rfl)];(focus (refine wkld (w_4 e0 e3 hg hlen) (w_1 cr) w_t w_t ?_;(repeat' first|exact w_t|apply w_l);all_goals intros))
   | true =>
     have cs:=hsg rfl;by_cases hz:z=0
     ·have hq:=hsz.2 hz;rw [hno (by rw [htr];simp [hq])];subst hz;(focus (refine wkld (w_4 e0 e3 hg hlen) (w_2 cr cs) w_t w_t ?_;(repeat' first|exact w_t|apply w_l);all_goals intros))
     ·have hq:¬q=0:=λe=>hz (hsz.1 e)
      cases hr:Zb8 mm with
      | false =>
        rw [hr] at cm htr;rw [hno (by rw [htr];simp)];(focus (refine wkld (w_5 e0 e3 hg hlen hz) (w_3 cr cs cm) w_t w_t ?_;(repeat' first|exact w_t|apply w_l);all_goals intros))
      | true =>
        rw [hr] at cm htr;by_cases h0:i=0
        ·subst h0;have:=hnx (by rw [htr];simp [hq]);(focus (refine wkad (w_5 e0 e3 hg hlen hz) (w_3 cr cs cm) (w_1 (w_d 6 [] [] [])) ?_;(repeat' first|exact w_t|apply w_l);all_goals intros));exact⟨1,⟨by omega,by exact gW e0,by exact gC,this⟩,by omega⟩
        ·have cl:=hcl hr h0 (hpr h0);have hh:=hgp h0;obtain⟨k,rfl⟩:∃k,i=k+1:=⟨i - 1,by omega⟩;have hi1:((k+1:Nat):Int) - 1=(k:Int):=by omega
         rw [show k+1 - 1=k from rfl] at *;generalize l.getD k RT.zero=t at *;obtain⟨⟨ts,tl,td⟩,tm⟩:=t;simp only at *;have hx:=h3 tm mm;generalize lexC tm mm (max tm.length mm.length)=x at *;rcases hx with rfl | rfl | rfl
         ·rw [hno (by rw [htr];simp)];(focus (refine wkld (w_7 e0 e3 hg hh hi1 hlen hz) (w_4 cr cs cm cl) w_t (w_1 (w_d 6 [(14,iv 0)] [] [])) ?_;(repeat' first|exact w_t|apply w_l);all_goals intros))
         ·rw [hno (by rw [htr];simp)];(focus (refine wkld (w_7 e0 e3 hg hh hi1 hlen hz) (w_4 cr cs cm cl) w_t (w_1 (w_d 6 [(14,iv (-1))] [] [])) ?_;(repeat' first|exact w_t|apply w_l);all_goals intros))
         ·have:=hnx (by rw [htr];simp [hq]);(focus (refine wkad (w_7 e0 e3 hg hh hi1 hlen hz) (w_4 cr cs cm cl) (w_1 (w_d 6 [(14,iv 1)] [] [])) ?_;(repeat' first|exact w_t|apply w_l);all_goals intros));exact⟨k+1+1,⟨by omega,by exact gW e0,by exact gS,this⟩,by omega⟩
  ·have hi3:i=l.length:=by omega
   subst hi3;have:Zln l=true:=List.all_eq_true.2 λj hjj=>hj j (List.mem_range.1 hjj);rw [this];(focus (refine wkld (w_3 e0 e3 hlen) w_t w_t w_t ?_;(repeat' first|exact w_t|apply w_l);all_goals intros))
 ·exact⟨Nat.zero_le _,by exact gC,by exact gC,λj h=>by omega⟩
def tmSm (vars exps:Nat) (t:RT):Bool:=decide (t.m.length≤vars) && (decide (t.r.l.length≤4) && (decide (t.r.d.length≤4) && t.m.all λx=>decide (x≤exps)))
def Zeg (l:List RT) (terms vars exps:Nat):Bool:=decide (l.length≤terms) && (l.all (tmSm vars exps) && Zln l)
theorem sm_len {l:List RT} {a b c:Nat} (h:a < l.length):Zeg l a b c=false:=by
 unfold Zeg;rw [decide_eq_false (by omega),Bool.false_and]
theorem sm_at {l:List RT} {a b c i:Nat} (hi:i < l.length) (h:tmSm b c l[i]=false):Zeg l a b c=false:=by
 unfold Zeg;rw [show l.all (tmSm b c)=false from List.all_eq_false.2 ⟨l[i],List.getElem_mem hi,by rw [h];decide⟩,Bool.false_and,Bool.and_false]
theorem sm_end {l:List RT} {a b c:Nat} (hl:l.length≤a) (h:∀j (hj:j < l.length),tmSm b c l[j]=true):Zeg l a b c=Zln l:=by
 unfold Zeg;rw [decide_eq_true hl,show l.all (tmSm b c)=true from List.all_eq_true.2 λt ht=>by obtain⟨j,hj,rfl⟩:=List.mem_iff_getElem.1 ht;exact h j hj,Bool.true_and,Bool.true_and]
theorem sm_in {l:List RT} {a b c k:Nat} (h:Zeg l a b c=true) (hs:∀t∈l,t.r.lm k):.sl 4 (l.map RT.av)=poA (l.map RT.tm)∧PB (l.map RT.tm) a 4 c∧∀t∈l.map RT.tm,t.2.length≤b∧t.2.length≤64:=by
 unfold Zeg at h;simp only [Bool.and_eq_true,decide_eq_true_eq,List.all_eq_true] at h;obtain⟨h1,h2,h3⟩:=h;have hm:∀t∈l,t.m.length≤b∧t.r.l.length≤4∧t.r.d.length≤4∧∀x∈t.m,x≤(c:Int):=λt ht=>by
  have:=h2 t ht;unfold tmSm at this
  simpa only [Bool.and_eq_true,decide_eq_true_eq,List.all_eq_true] using this
 obtain⟨e,s,p,ml⟩:=pol_in (k:=4) h3 λt ht=>⟨(hs t ht).1,(hs t ht).2.1,(hm t ht).2.1,(hm t ht).2.2.1⟩;refine⟨e,⟨s,λu hu=>?_,by rw [List.length_map];exact h1⟩,λu hu=>?_⟩
 ·obtain⟨g1,g2,g3⟩:=p u hu;obtain⟨t,ht,rfl⟩:=List.mem_map.1 hu;refine⟨g1,g2,λj=>⟨(g3 j).1,?_⟩⟩;by_cases hj:j < t.m.length
  ·show gI t.m j≤_;rw [Zfr hj];exact(hm t ht).2.2.2 _ (List.getElem_mem hj)
  ·show gI t.m j≤_;rw [Zbi (by omega)];omega
 ·obtain⟨t,ht,rfl⟩:=List.mem_map.1 hu;exact⟨(hm t ht).1,ml t ht⟩
theorem rpSmall (l:List RT) (a b c:Nat) (ha:a≤1000) (hb:b≤1000) (hs:∀t∈l,Lm t.r.l∧Lm t.r.d):Pure Tryz.prog 12 [.sl 4 (l.map RT.av),iv a,iv b,iv c] (.v (.bool (Zeg l a b c))):=by
 have hlen:(l.map RT.av).length=l.length:=List.length_map ..;have hgl:∀i (h:i < l.length),(l.map RT.av).getD i .u=l[i].av:=λi h=>Zbb RT.av h;by_cases hl:a < l.length
 ·rw [sm_len hl];generalize l.map RT.av=L at *;refine Zaa (tok:=0) Tryz.func12 rfl Tryz.ntmps12 Tryz.results12 Tryz.call12 (by rfl) (by simp) ?_;(focus (refine wkld (w_1 hlen) w_t w_t w_t ?_;(repeat' first|exact w_t|apply w_l);all_goals intros))
 have cr:(∀j (hj:j < l.length),tmSm b c l[j]=true)→Pure Tryz.prog 38 [.sl 4 (l.map RT.av)] (.v (.bool (Zln l))):=λh=>rawRight l (by omega) λt ht=>by
  obtain⟨j,hj,rfl⟩:=List.mem_iff_getElem.1 ht;have:=h j hj;unfold tmSm at this;simp only [Bool.and_eq_true,decide_eq_true_eq] at this;exact⟨(hs _ ht).1,(hs _ ht).2,by omega,by omega⟩
 have hE:=sm_end (l:=l) (a:=a) (b:=b) (c:=c) (by omega);have hN:∀i (hi:i < l.length),tmSm b c l[i]=false→Zeg l a b c=false:=λi hi h=>sm_at hi h;generalize Zeg l a b c=R at *;generalize l.map RT.av=L at *;refine Zaa (tok:=0) Tryz.func12 rfl Tryz.ntmps12 Tryz.results12 Tryz.call12 (by rfl) (by simp) ?_;(focus (refine wkad (w_1 hlen) w_t w_t ?_;(repeat' first|exact w_t|apply w_l);all_goals intros));refine Zag (ι:=Nat) (λi e m=>i≤l.length∧e 0=.sl 4 L∧e 2=iv b∧e 3=iv c∧e 9=iv i∧∀j (hj:j < l.length),j < i→tmSm b c l[j]=true) (λi=>l.length - i) 0 (by rfl) ?_ ?_
 ·rintro i e m ⟨hi,e0,e2,e3,e9,hj⟩
  by_cases hi2:i < l.length
  ·have hg:=hgl i hi2;have hno:=hN i hi2;have hnx:tmSm b c l[i]=true→∀j (hj:j < l.length),j < i+1→tmSm b c l[j]=true:=λh j hj2 hlt=>by
    by_cases e:j=i
    ·subst e;exact h
    ·exact hj j hj2 (by omega)
   clear hj hN hE cr;generalize l[i]=t at *;obtain⟨⟨s,li,d⟩,m1⟩:=t;by_cases h1:m1.length≤b∧li.length≤4∧d.length≤4
   ·(focus (refine wkad (w_6 e0 e2 e3 e9 hg hlen) w_t w_t ?_;(repeat' first|exact w_t|apply w_l);all_goals intros));refine Zag (ι:=Nat) (λv e m=>v≤m1.length∧e 0=.sl 4 L∧e 2=iv b∧e 3=iv c∧e 9=iv i∧e 10=iv v∧∀x,x < v→gI m1 x≤c) (λv=>m1.length - v) 0 (by rfl) ?_ ?_
    ·rintro v e m ⟨hv,f0,f2,f3,f9,f10,hx⟩
     by_cases hv2:v < m1.length
     ·by_cases hc:gI m1 v≤c
      ·(focus (refine wkad (w_7 f0 f2 f3 f9 f10 hg hlen) w_t w_t ?_;(repeat' first|exact w_t|apply w_l);all_goals intros));exact⟨v+1,⟨by omega,by exact gW f0,by exact gW f2,by exact gW f3,by exact gW f9,by exact gS,λx hlt=>by
        by_cases e:x=v
        ·rw [e];exact hc
        ·exact hx x (by omega)⟩,by omega⟩
      ·obtain rfl:=hno (by
        unfold tmSm;rw [show(m1.all λx=>decide (x≤(c:Int)))=false from List.all_eq_false.2 ⟨m1[v],List.getElem_mem hv2,by rw [←Zfr hv2];simpa using hc⟩];simp only [Bool.and_false])
       (focus (refine wkld (w_7 f0 f2 f3 f9 f10 hg hlen) w_t w_t w_t ?_;(repeat' first|exact w_t|apply w_l);all_goals intros))
     ·have hT:=hnx (by
       unfold tmSm;simp only [Bool.and_eq_true,decide_eq_true_eq,List.all_eq_true];refine⟨h1.1,h1.2.1,h1.2.2,λx hxm=>?_⟩;obtain⟨j,hj,rfl⟩:=List.mem_iff_getElem.1 hxm;have:=hx j (by omega)
       rwa [Zfr hj] at this)
      (focus (refine wkad (w_7 f0 f2 f3 f9 f10 hg hlen) w_t w_t ?_;(repeat' first|exact w_t|apply w_l);all_goals intros));exact⟨i+1,⟨by omega,by exact gW f0,by exact gW f2,by exact gW f3,by exact gS,hT⟩,by omega⟩
    ·exact⟨Nat.zero_le _,by exact gW e0,by exact gW e2,by exact gW e3,by exact gW e9,by exact gC,λx hx=>absurd hx (by omega)⟩
   ·obtain rfl:=hno (by
     unfold tmSm;simp only [←Bool.not_eq_true,Bool.and_eq_true,decide_eq_true_eq];exact λh=>h1 ⟨h.1,h.2.1,h.2.2.1⟩)
    (focus (refine wkld (w_6 e0 e2 e3 e9 hg hlen) w_t w_t w_t ?_;(repeat' first|exact w_t|apply w_l);all_goals intros))
  ·have hA:∀j (hj:j < l.length),tmSm b c l[j]=true:=λj hj2=>hj j hj2 (by omega);have cR:=cr hA;rw [←hE hA] at cR;(focus (refine wkld (w_5 e0 e2 e3 e9 hlen) (w_1 cR) w_t w_t ?_;(repeat' first|exact w_t|apply w_l);all_goals intros))
 ·exact⟨Nat.zero_le _,by exact gC,by exact gC,by exact gC,by exact gC,λj hj h=>absurd h (by omega)⟩
def lcmM (a b:List Int):List Int:=zipI max a b
theorem Zkz (a b:List Int) (j:Nat):gI (lcmM a b) j=max (gI a j) (gI b j):=Zdi _ (by decide) a b j
theorem Zti (a b:List Int):(lcmM a b).length=max a.length b.length:=by simp [lcmM,zipI]
theorem Zl3 {a b:List Int} (ha:Can a) (hb:Can b):Can (lcmM a b):=by
 refine⟨λj=>by rw [Zkz];have:=ha.1 j;omega,?_⟩;rw [Zkz,Zti];rcases Nat.le_total a.length b.length with h | h
 ·rw [Nat.max_eq_right h];rcases hb.2 with g | g
  ·exact .inl g
  ·have:=hb.1 (b.length - 1);exact .inr (by omega)
 ·rw [Nat.max_eq_left h];rcases ha.2 with g | g
  ·exact .inl g
  ·have:=ha.1 (a.length - 1);exact .inr (by omega)
theorem lcm_div {a b:List Int} (ha:Can a) (hb:Can b):divI a (lcmM a b)=true∧divI b (lcmM a b)=true :=
 ⟨(Zmd (Zl3 ha hb) ha).2 λj=>by rw [Zkz];omega,(Zmd (Zl3 ha hb) hb).2 λj=>by rw [Zkz];omega⟩
structure PS (p:Po):Prop where
 b:PB p 8 4 8
 l:∀t∈p,t.2.length≤64
theorem PS.ld {p:Po} (h:PS p) (h0:p≠[]) (o:Int):TO (ldO o p) 4∧∀j,gI (ldO o p).2 j≤(8:Nat):=by
 have m:=Zez (o:=o) h.b.s h0;obtain⟨g1,g2,g3⟩:=h.b.k _ m;exact⟨⟨(h.b.s.1 _ m).1,g1,h.b.s.dom _ m,h.l _ m,λj=>by have:=(g3 j).2;omega⟩,λj=>(g3 j).2⟩
def fcT (o:Int) (P Q X:Po):Tm:=(1/(ldO o X).1,quoI (lcmM (ldO o P).2 (ldO o Q).2) (ldO o X).2)
def prZ (o:Int) (P Q:Po):Po:=subM (mlM [fcT o P Q P] P) (mlM [fcT o P Q Q] Q)
def prA (o:Int) (P Q:Po):AV:=if P=[]∨Q=[] then .tup [.v (.slice none 0 0),iv 3] else if bigP (prZ o P Q)=true then .tup [.v (.slice none 0 0),iv 4] else .tup [poA (prZ o P Q),iv 0]
theorem Zqe:Sz (1:Rat) 1:=by simpa using Sz.int (z:=1) (k:=1) (by rw [show Int.natAbs 1=1 from rfl,Zfw];omega) (by omega)
theorem Zqs {o:Int} {P Q X:Po} (hP:PS P) (hQ:PS Q) (h0:P≠[]) (h1:Q≠[]) (hX:X=P∨X=Q):TO ((1:Rat),lcmM (ldO o P).2 (ldO o Q).2) 1∧divI (ldO o X).2 (lcmM (ldO o P).2 (ldO o Q).2)=true∧PB [fcT o P Q X] 1 5 8:=by
 obtain⟨a,ae⟩:=hP.ld h0 o;obtain⟨b,be⟩:=hQ.ld h1 o;have lt:TO ((1:Rat),lcmM (ldO o P).2 (ldO o Q).2) 1:=⟨by show(1:Rat)≠0;decide,Zqe,Zl3 a.c b.c,by show(lcmM _ _).length≤64;rw [Zti];have:=a.l;have:=b.l;omega,λj=>by show gI (lcmM _ _) j≤_;rw [Zkz];have:=ae j;have:=be j;omega⟩;have d:=lcm_div a.c b.c
 have key:∀{c:Tm},TO c 4→divI c.2 (lcmM (ldO o P).2 (ldO o Q).2)=true→PB [((1:Rat)/c.1,quoI (lcmM (ldO o P).2 (ldO o Q).2) c.2)] 1 5 8:=λ{c} hc hd =>
  (lt.quo hc hd).one λj=>by show gI (quoI _ _) j≤_;rw [Zqb hd,Zkz];have:=ae j;have:=be j;have:=hc.c.1 j;omega
 rcases hX with rfl | rfl
 ·exact⟨lt,d.1,key a d.1⟩
 ·exact⟨lt,d.2,key b d.2⟩
theorem prZ_pb {o:Int} {P Q:Po} (hP:PS P) (hQ:PS Q) (h0:P≠[]) (h1:Q≠[]):PB (prZ o P Q) 16 161 16 :=
 ((Zqs (o:=o) hP hQ h0 h1 (.inl rfl)).2.2.mul hP.b).sub ((Zqs (o:=o) hP hQ h0 h1 (.inr rfl)).2.2.mul hQ.b)
theorem grPair (o:Int) {P Q:Po} (hP:PS P) (hQ:PS Q) (h0:P≠[]) (h1:Q≠[]) :
 Pure Tryz.prog 39 [poA P,poA Q,.v (.int .i64 o)] (.tup [poA [fcT o P Q P],poA [fcT o P Q Q],.v (.int .i64 0)])∧Pure Tryz.prog 13 [poA P,poA Q,.v (.int .i64 o)] (prA o P Q)∧Pure Tryz.prog 14 [poA P,poA Q,.v (.int .i64 o)] (prA o P Q):=by
 obtain⟨a,ae⟩:=hP.ld h0 o;obtain⟨b,be⟩:=hQ.ld h1 o;obtain⟨lt,d1,f1⟩:=Zqs (o:=o) hP hQ h0 h1 (.inl rfl);obtain⟨-,d2,f2⟩:=Zqs (o:=o) hP hQ h0 h1 (.inr rfl);have sP:∀u∈P,Sm u.2:=λu hu=>hP.b.k.sm (by omega) hu;have sQ:∀u∈Q,Sm u.2:=λu hu=>hQ.b.k.sm (by omega) hu;have lP:=hP.b.l;have lQ:=hQ.b.l;have zp:=prZ_pb (o:=o) hP hQ h0 h1;have m1:=hpMul f1 hP.b (by omega) (by omega) (by omega) (by omega) (by omega) (by omega) (by omega) (by omega) (by omega);have m2:=hpMul f2 hQ.b (by omega) (by omega) (by omega) (by omega) (by omega) (by omega) (by omega) (by omega) (by omega);have sb:=hpSub (f1.mul hP.b) (f2.mul hQ.b) (by omega) (by omega) (by omega) (by omega) (by omega) (by omega)
 have lg:=lgB zp (by omega) (by omega);have wa:=a.wd;have wb:=b.wd
 have cl:Pure Tryz.prog 83 [ivs (ldO o P).2,ivs (ldO o Q).2] (ivs (lcmM (ldO o P).2 (ldO o Q).2)):=by
  have:=monLcm (ldO o P).2 (ldO o Q).2 (by have:=a.l;omega) (by have:=b.l;omega)
  rwa [show Zcx (zipI max (ldO o P).2 (ldO o Q).2)=lcmM (ldO o P).2 (ldO o Q).2 from Zir (Zl3 a.c b.c)] at this
 have fa:=grFactsV P Q [fcT o P Q P] [fcT o P Q Q] o (ldO o P) (ldO o Q) (lcmM (ldO o P).2 (ldO o Q).2) (Zjb P o h0 sP (by omega)) (Zjb Q o h1 sQ (by omega)) (ratOf 1 (by omega)) cl (Ztp _ _ lt a (by omega) (by omega) d1) (Ztp _ _ lt b (by omega) (by omega) d2);have ra:=rfFactsV P Q [fcT o P Q P] [fcT o P Q Q] o (ldO o P) (ldO o Q) (lcmM (ldO o P).2 (ldO o Q).2) (Zmx P o h0 sP (by omega)) (Zmx Q o h1 sQ (by omega)) (qOf 1 (by omega)) (refLcm _ _ wa wb) (Zsj _ P o lt h0 sP (by omega) a (by omega) (by omega) d1) (Zsj _ Q o lt h1 sQ (by omega) b (by omega) (by omega) d2);have e:prA o P Q=if bigP (prZ o P Q)=true then .tup [.v (.slice none 0 0),iv 4] else .tup [poA (prZ o P Q),iv 0]:=if_neg (by rintro (g | g);exact h0 g;exact h1 g)
 rw [e];exact⟨fa,grPairV P Q _ _ _ _ (prZ o P Q) o _ fa m1.1 m2.1 sb.1 lg.1,rfPairV P Q _ _ _ _ (prZ o P Q) o _ (λg=>h0 (List.length_eq_zero_iff.1 g)) (λg=>h1 (List.length_eq_zero_iff.1 g)) ra m1.2 m2.2 sb.2 lg.2⟩
abbrev rwA (b:Bool) (l d:List Nat) (m:List Int):AV:=.agg [.v (.bool b),lim l,lim d,ivs m]
theorem Zee:szOf Tryz.prog 87=some 2:=by kernel_rfl
theorem Zep:Zio Tryz.prog 87=some 48:=by kernel_rfl
theorem Zg4:Zb4 Tryz.prog 87=some (.agg #[.slice none 0 0,.slice none 0 0]):=by kernel_rfl
theorem Zg9:szOf Tryz.prog 83=some 1:=by kernel_rfl
theorem zSlE:Zb4 Tryz.prog 83=some (.slice none 0 0):=by kernel_rfl
theorem Zed:szOf Tryz.prog 24=some 1:=by kernel_rfl
theorem Zg3:Zb4 Tryz.prog 24=some (.slice none 0 0):=by kernel_rfl
theorem Zef:szOf Tryz.prog 120=some 4:=by kernel_rfl
theorem Zeq:Zio Tryz.prog 120=some 64:=by kernel_rfl
theorem Zg5:Zb4 Tryz.prog 120=some (.agg #[.int .i64 0,.slice none 0 0,.slice none 0 0,.map none]):=by kernel_rfl
end Go.Proofs.YtimmnimikmnljaaGreat
