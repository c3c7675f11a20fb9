/- Contracts of the functions that the law reaches, and the rules by which they are walked. They say what a call hands back for every input within the bounds that each names; no other condition. -/
import Derived.Test.YtaedgaikloifgaaBd6
set_option linter.unusedSimpArgs false
set_option linter.unusedVariables false
set_option maxRecDepth 20000
set_option maxHeartbeats 16000000
namespace Go.Proofs.Ytaedgaikloifgaa
open Go Go.RowKit Go.Pg Go.Pol Go.Proofs.Try
attribute [-bool_to_prop] Bool.and_eq_decide Bool.or_eq_decide Bool.decide_beq_decide decide_eq_decide
attribute [local go_sem] Zh9 Zgt Zgu Ze6 Ze8 Ze7 Zfa Zfe Zh3 Zfb Zff Zh4 Zh8 Zh6 Zh5 Zh7 eqP2 Zi6 Zj9 rg2
def AgrB (t:Nat) (m σ:Mem):Prop:=∀k,k+1000≠t→m (k+1000)=(σ k).map Ent.sh
theorem AgrB.of {t:Nat} {m σ:Mem} (h:Agr m σ):AgrB t m σ:=λk _=>h k
theorem AgrB.own {t:Nat} {m σ:Mem} (h:AgrB t m σ) {j:Nat} {x:Option Ent} (hj:j < 1000):AgrB t (upd m j x) σ:=λk hk=>by
 rw [Zaj,Zqw zo];exact h k hk
theorem AgrB.at {t:Nat} {m σ:Mem} (h:AgrB t m σ) {x:Option Ent}:AgrB t (upd m t x) σ:=λk hk=>by
 rw [Zaj,Zqw hk];exact h k hk
theorem AgrB.put {t:Nat} {m σ:Mem} (h:AgrB t m σ) {j k:Nat} {e e':Ent} (hj:j=k+1000) (he:e'=e.sh):AgrB t (upd m j (some e')) (upd σ k (some e)):=λq hq=>by
 subst hj;subst he;rw [Zaj,Zaj];by_cases hc:q=k
 ·subst hc;rw [Zqv rfl,Zqv rfl];rfl
 ·rw [Zqw zo,Zqw hc];exact h q hq
theorem AgrB.close {t:Nat} {m σ:Mem} (h:AgrB t m σ) {k:Nat} {e e':Ent} (hk:σ k=some e) (ht:t=k+1000) (he:e'=e.sh):Agr (upd m t (some e')) σ:=λq=>by
 rw [Zaj];by_cases hc:q+1000=t
 ·have:q=k:=zo;subst this;rw [Zqv hc,hk,he];rfl
 ·rw [Zqw hc];exact h q hc
theorem aE {P:Program} {n p t:Nat} {code:Code} {K:AE→St→Prop} {x X:AV} {m:Mem} {E:Nat→AV} (h5:E t=X) (h:∀E',E' t=X→Zam P 0 n code K ⟨upd E' p x,m⟩):Zam P 0 n code K ⟨upd E p x,m⟩:=h E h5
theorem drLines0 (ss:List RS) (gs:List RG) (cR:Pure prog 8 [figA ss gs] (iv (figE ss gs))) (h:figE ss gs≠0):Pure prog 5 [figA ss gs] (.tup [.sl 2 [],iv (figE ss gs)]):=by
 refine Ze0 (r:=.tup [.v (.slice none 0 0),iv (figE ss gs)]) ?_ (Vk.tupL (.cons (.nil 2) (.cons (.refl _) .nil)));have cR:Pure prog 8 [.agg [.sl 6 (ss.map RS.av),.sl 5 (gs.map RG.av)]] (iv (figE ss gs)):=cR;show Pure _ _ [.agg [.sl 6 (ss.map RS.av),.sl 5 (gs.map RG.av)]] _;generalize figE ss gs=z at *;generalize ss.map RS.av=M at *;generalize gs.map RG.av=N at *;refine pI func5 rfl ntmps5 results5 call5 ?_;(focus (refine wkld w_t (w_1 cR) w_t w_t ?_;(repeat' first|exact w_t|apply w_l);all_goals intros))
theorem drLines1 (ss:List RS) (gs:List RG) (cR:Pure prog 8 [figA ss gs] (iv 0)) (ok:LnOk ss gs):Pure prog 5 [figA ss gs] (.tup [.sl 2 ((Zcq (Zbu ss gs) ss.length ss.length).map prA),iv 0]):=by
 have cR:Pure prog 8 [.agg [.sl 6 (ss.map RS.av),.sl 5 (gs.map RG.av)]] (iv 0):=cR;have cP:=drPairs (ss.map RS.av) (gs.map RG.av) 10 11;have cI:=λl σ J=>prIt l ss gs σ J ok.l1 ok.l2 ok.hs ok.hg;show Pure _ _ [.agg [.sl 6 (ss.map RS.av),.sl 5 (gs.map RG.av)]] _;generalize ss.map RS.av=M at *;generalize gs.map RG.av=N at *;refine Znz 200 func5 rfl ntmps5 results5 call5 zs ?_;refine Zi3 zr ?_;(focus (refine wkad w_t w_t w_t ?_;(repeat' first|exact w_t|apply w_l);all_goals intros));refine Zi3 zr ?_;(focus (refine wkad w_t (w_1 cR) w_t ?_;(repeat' first|exact w_t|apply w_l);all_goals intros))
 refine Zi3 zr ?_;(focus (refine wkad w_t w_t w_t ?_;(repeat' first|exact w_t|apply w_l);all_goals intros));refine xw_seq ?_;refine Zi3 zr ?_;(focus (refine wkad w_t (w_1 cP) w_t ?_;(repeat' first|exact w_t|apply w_l);all_goals intros));rename_i g1 g5;refine xw_block ?_;refine xw_frz (Frz.nilBox (k:=5) (g:=g5) (bt:=27) (cs:=[.v (.slice none 0 0)]) 0 105 2 48 (gC) rfl zd) ?_;refine xw_loop 200 201 zd (gC) zd zr zr ?_;intro D l RR RB hround;have hAll:∀j,(Zbu ss gs).take j=(Zbu ss gs).take j:=λ_=>rfl;refine(Zqr (.cons (Sub.refl _) (.cons (Sub.refl _) (.cons (Zo1 _) (.cons (Zo1 _) .nil)))) (cI l _ (λj σ'=>∃sv,σ' 5=some (.box g5 27 [.own 105 sv] false)∧σ' 105=some (.row sv 48 2 ((oris ((Zbu ss gs).take j)).map prA) 0)∧σ' 200=some (.obj D (.deferred (some [])))∧σ' 201=some (.obj l RR)) ?_ ?_)).mono ?_
 ·intro j p hp m σ' hAg ⟨sv,h5,h105,h200,h201⟩;have ho:=Zpl hp;have hl0:=Zje ((Zbu ss gs).take j);have hl1:((Zbu ss gs).take j).length≤152:=by rw [Zrd];have:=ok.len;omega
  have hl2:((oris ((Zbu ss gs).take j)).map prA).length≤152:=by rw [Zq1];omega
  have at_:∀{k:Nat} {e:Ent},σ' k=some e→m (k+1000)=some e.sh:=λhk=>by rw [hAg,hk];rfl
  have m5:=at_ h5;have m105:=at_ h105;have m201:=at_ h201;have L5:=Zjo m5;have L105:=Zjo m105;have L201:=Zjo m201;simp only [Ent.sh,AV.shL,AV.sh,Nat.reduceAdd] at m5 m105 m201 L5 L105 L201;refine hround m (prA p) _ m201 ?_;clear hround cI cR cP ok;refine aE (t:=5) (X:=.pbox 2005 g5 0) rfl λE e5=>?_;obtain⟨a,b⟩:=p;show Zam _ _ _ _ _ ⟨upd E 14 (.agg [iv a,iv b]),_⟩;have fin:∀(sv2:Value) (M1:Mem),oris ((Zbu ss gs).take (j+1))=oris ((Zbu ss gs).take (j+1))→True:=λ_ _ _=>trivial;generalize hT:oris ((Zbu ss gs).take j)=T at *;obtain⟨mm,hmm⟩:∃mm,mm=lents m:=⟨_,rfl⟩;rw [←hmm] at L5 L105 L201 ⊢
  by_cases hab:a < b
  ·(repeat' (first|(with_reducible first|refine stp ?_|apply gx1|apply gx2|apply gx3|apply gx4|apply gx5|apply gx6|apply gx7|apply gy8|apply gz2|apply gz3)|(with_reducible refine Zb1 ?_;intro _)|((with_reducible refine gE ?_);(try simp (disch:=omega) only [go_sem,e5,L5,L105,L201,hab,hl2,Zqz,Zqy,Zqv,Zqw,Int.reduceAdd,Int.reduceSub,Int.reduceToNat,Zq2])<;>first|rfl|omega)|with_reducible refine Zag zd ?_|((with_reducible apply gy1);iterate 3 focus rfl)|((with_reducible apply gy2);iterate 3 focus rfl)|((with_reducible apply gy3);iterate 2 focus rfl)|((with_reducible apply gy4);iterate 1 focus rfl)|((with_reducible apply gy5);iterate 4 focus rfl)|((with_reducible apply gy5c);iterate 4 focus rfl)|((with_reducible apply gy6);iterate 4 focus rfl)|((with_reducible apply Zfo);iterate 3 focus rfl)|((with_reducible apply Zfj);iterate 1 focus rfl)|((with_reducible apply gy7);iterate 1 focus rfl)|((with_reducible apply gy9);(focus ((with_reducible refine gE ?_);(try simp (disch:=omega) only [go_sem,e5,L5,L105,L201,hab,hl2,Zqz,Zqy,Zqv,Zqw,Int.reduceAdd,Int.reduceSub,Int.reduceToNat,Zq2])<;>rfl)))|((with_reducible apply gz1);(focus first|rfl|(simp (disch:=omega) only [go_sem,e5,L5,L105,L201,hab,hl2,Zqz,Zqy,Zqv,Zqw,Int.reduceAdd,Int.reduceSub,Int.reduceToNat,Zq2];done)))|((with_reducible apply Zbz (Zdq []) [] []);(focus kernel_rfl);(focus rfl);(focus kernel_rfl);(focus (simp only [Zrj,Zrr,Nat.reduceAdd];rfl)))|((with_reducible first|apply Zb5|apply Zcn|apply Zb6);all_goals (intro hc;(try simp only [bool_to_prop] at hc);try (exfalso;omega)))))
   refine⟨rfl,by(simp (disch:=omega) only [go_sem,L201]<;>repeat' first|rfl|refine⟨?_,?_⟩),?_⟩
   (repeat' (first|(with_reducible first|refine stp ?_|apply gx1|apply gx2|apply gx3|apply gx4|apply gx5|apply gx6|apply gx7|apply gy8|apply gz2|apply gz3)|(with_reducible refine Zb1 ?_;intro _)|((with_reducible refine gE ?_);(try simp (disch:=omega) only [go_sem,e5,L5,L105,L201,hab,hl2,Zqz,Zqy,Zqv,Zqw,Int.reduceAdd,Int.reduceSub,Int.reduceToNat,Zq2])<;>first|rfl|omega)|with_reducible refine Zag zd ?_|((with_reducible apply gy1);iterate 3 focus rfl)|((with_reducible apply gy2);iterate 3 focus rfl)|((with_reducible apply gy3);iterate 2 focus rfl)|((with_reducible apply gy4);iterate 1 focus rfl)|((with_reducible apply gy5);iterate 4 focus rfl)|((with_reducible apply gy5c);iterate 4 focus rfl)|((with_reducible apply gy6);iterate 4 focus rfl)|((with_reducible apply Zfo);iterate 3 focus rfl)|((with_reducible apply Zfj);iterate 1 focus rfl)|((with_reducible apply gy7);iterate 1 focus rfl)|((with_reducible apply gy9);(focus ((with_reducible refine gE ?_);(try simp (disch:=omega) only [go_sem,e5,L5,L105,L201,hab,hl2,Zqz,Zqy,Zqv,Zqw,Int.reduceAdd,Int.reduceSub,Int.reduceToNat,Zq2])<;>rfl)))|((with_reducible apply gz1);(focus first|rfl|(simp (disch:=omega) only [go_sem,e5,L5,L105,L201,hab,hl2,Zqz,Zqy,Zqv,Zqw,Int.reduceAdd,Int.reduceSub,Int.reduceToNat,Zq2];done)))|((with_reducible apply Zbz (Zdq []) [] []);(focus kernel_rfl);(focus rfl);(focus kernel_rfl);(focus (simp only [Zrj,Zrr,Nat.reduceAdd];rfl)))|((with_reducible first|apply Zb5|apply Zcn|apply Zb6);all_goals (intro hc;(try simp only [bool_to_prop] at hc);try (exfalso;omega)))))
   rename_i g6 r23 sv2;have ho:oris ((Zbu ss gs).take (j+1))=T++[(a,b)]:=by rw [ho];unfold ori;simp only;first|rw [Zqv hab]|rw [Zqw hab,Zqv hba]
   refine⟨rfl,gC,.v (.bool true),upd (upd m 1105 (some (.row sv2 48 2 (T.map prA++[prA (a,b)]) 0))) 1005 (some (.box g5 27 [.own 1105 sv2] false)),Sub.refl _,⟨rfl,upd (upd σ' 105 (some (.row sv2 48 2 (T.map prA++[prA (a,b)]) 0))) 5 (some (.box g5 27 [.own 105 sv2] false)),by(refine Agr.put ?_ rfl rfl;refine Agr.put hAg rfl rfl),sv2,by rw [Zaj,Zqv rfl],by rw [Zaj,Zqw zd,Zaj,Zqv rfl,ho,Zui];rfl,by rw [Zaj,Zqw zd,Zaj,Zqw zd];exact h200,by rw [Zaj,Zqw zd,Zaj,Zqw zd];exact h201⟩,?_⟩;refine AgrB.close (k:=1201) (e:=.obj l RR) ?_ (by rw [Zaj,Zqw zd,Zaj,Zqw zd];exact m201) rfl rfl
   refine AgrB.put ?_ rfl rfl;refine AgrB.put ?_ rfl rfl
   (repeat' (first|(exact AgrB.of (by rw [hmm];exact Agr.start m))|(refine AgrB.own ?_ zo)|(refine AgrB.at ?_)))
  ·by_cases hba:a > b
   ·(repeat' (first|(with_reducible first|refine stp ?_|apply gx1|apply gx2|apply gx3|apply gx4|apply gx5|apply gx6|apply gx7|apply gy8|apply gz2|apply gz3)|(with_reducible refine Zb1 ?_;intro _)|((with_reducible refine gE ?_);(try simp (disch:=omega) only [go_sem,e5,L5,L105,L201,hab,hba,hl2,Zqz,Zqy,Zqv,Zqw,Int.reduceAdd,Int.reduceSub,Int.reduceToNat,Zq2])<;>first|rfl|omega)|with_reducible refine Zag zd ?_|((with_reducible apply gy1);iterate 3 focus rfl)|((with_reducible apply gy2);iterate 3 focus rfl)|((with_reducible apply gy3);iterate 2 focus rfl)|((with_reducible apply gy4);iterate 1 focus rfl)|((with_reducible apply gy5);iterate 4 focus rfl)|((with_reducible apply gy5c);iterate 4 focus rfl)|((with_reducible apply gy6);iterate 4 focus rfl)|((with_reducible apply Zfo);iterate 3 focus rfl)|((with_reducible apply Zfj);iterate 1 focus rfl)|((with_reducible apply gy7);iterate 1 focus rfl)|((with_reducible apply gy9);(focus ((with_reducible refine gE ?_);(try simp (disch:=omega) only [go_sem,e5,L5,L105,L201,hab,hba,hl2,Zqz,Zqy,Zqv,Zqw,Int.reduceAdd,Int.reduceSub,Int.reduceToNat,Zq2])<;>rfl)))|((with_reducible apply gz1);(focus first|rfl|(simp (disch:=omega) only [go_sem,e5,L5,L105,L201,hab,hba,hl2,Zqz,Zqy,Zqv,Zqw,Int.reduceAdd,Int.reduceSub,Int.reduceToNat,Zq2];done)))|((with_reducible apply Zbz (Zdq []) [] []);(focus kernel_rfl);(focus rfl);(focus kernel_rfl);(focus (simp only [Zrj,Zrr,Nat.reduceAdd];rfl)))|((with_reducible first|apply Zb5|apply Zcn|apply Zb6);all_goals (intro hc;(try simp only [bool_to_prop] at hc);try (exfalso;omega)))))
    refine⟨rfl,by(simp (disch:=omega) only [go_sem,L201]<;>repeat' first|rfl|refine⟨?_,?_⟩),?_⟩
    (repeat' (first|(with_reducible first|refine stp ?_|apply gx1|apply gx2|apply gx3|apply gx4|apply gx5|apply gx6|apply gx7|apply gy8|apply gz2|apply gz3)|(with_reducible refine Zb1 ?_;intro _)|((with_reducible refine gE ?_);(try simp (disch:=omega) only [go_sem,e5,L5,L105,L201,hab,hba,hl2,Zqz,Zqy,Zqv,Zqw,Int.reduceAdd,Int.reduceSub,Int.reduceToNat,Zq2])<;>first|rfl|omega)|with_reducible refine Zag zd ?_|((with_reducible apply gy1);iterate 3 focus rfl)|((with_reducible apply gy2);iterate 3 focus rfl)|((with_reducible apply gy3);iterate 2 focus rfl)|((with_reducible apply gy4);iterate 1 focus rfl)|((with_reducible apply gy5);iterate 4 focus rfl)|((with_reducible apply gy5c);iterate 4 focus rfl)|((with_reducible apply gy6);iterate 4 focus rfl)|((with_reducible apply Zfo);iterate 3 focus rfl)|((with_reducible apply Zfj);iterate 1 focus rfl)|((with_reducible apply gy7);iterate 1 focus rfl)|((with_reducible apply gy9);(focus ((with_reducible refine gE ?_);(try simp (disch:=omega) only [go_sem,e5,L5,L105,L201,hab,hba,hl2,Zqz,Zqy,Zqv,Zqw,Int.reduceAdd,Int.reduceSub,Int.reduceToNat,Zq2])<;>rfl)))|((with_reducible apply gz1);(focus first|rfl|(simp (disch:=omega) only [go_sem,e5,L5,L105,L201,hab,hba,hl2,Zqz,Zqy,Zqv,Zqw,Int.reduceAdd,Int.reduceSub,Int.reduceToNat,Zq2];done)))|((with_reducible apply Zbz (Zdq []) [] []);(focus kernel_rfl);(focus rfl);(focus kernel_rfl);(focus (simp only [Zrj,Zrr,Nat.reduceAdd];rfl)))|((with_reducible first|apply Zb5|apply Zcn|apply Zb6);all_goals (intro hc;(try simp only [bool_to_prop] at hc);try (exfalso;omega)))))
    rename_i g6 r23 sv2;have ho:oris ((Zbu ss gs).take (j+1))=T++[(b,a)]:=by rw [ho];unfold ori;simp only;first|rw [Zqv hab]|rw [Zqw hab,Zqv hba]
    refine⟨rfl,gC,.v (.bool true),upd (upd m 1105 (some (.row sv2 48 2 (T.map prA++[prA (b,a)]) 0))) 1005 (some (.box g5 27 [.own 1105 sv2] false)),Sub.refl _,⟨rfl,upd (upd σ' 105 (some (.row sv2 48 2 (T.map prA++[prA (b,a)]) 0))) 5 (some (.box g5 27 [.own 105 sv2] false)),by(refine Agr.put ?_ rfl rfl;refine Agr.put hAg rfl rfl),sv2,by rw [Zaj,Zqv rfl],by rw [Zaj,Zqw zd,Zaj,Zqv rfl,ho,Zui];rfl,by rw [Zaj,Zqw zd,Zaj,Zqw zd];exact h200,by rw [Zaj,Zqw zd,Zaj,Zqw zd];exact h201⟩,?_⟩;refine AgrB.close (k:=1201) (e:=.obj l RR) ?_ (by rw [Zaj,Zqw zd,Zaj,Zqw zd];exact m201) rfl rfl
    refine AgrB.put ?_ rfl rfl;refine AgrB.put ?_ rfl rfl
    (repeat' (first|(exact AgrB.of (by rw [hmm];exact Agr.start m))|(refine AgrB.own ?_ zo)|(refine AgrB.at ?_)))
   ·(repeat' (first|(with_reducible first|refine stp ?_|apply gx1|apply gx2|apply gx3|apply gx4|apply gx5|apply gx6|apply gx7|apply gy8|apply gz2|apply gz3)|(with_reducible refine Zb1 ?_;intro _)|((with_reducible refine gE ?_);(try simp (disch:=omega) only [go_sem,e5,L5,L105,L201,hab,hba,hl2,Zqz,Zqy,Zqv,Zqw,Int.reduceAdd,Int.reduceSub,Int.reduceToNat,Zq2])<;>first|rfl|omega)|with_reducible refine Zag zd ?_|((with_reducible apply gy1);iterate 3 focus rfl)|((with_reducible apply gy2);iterate 3 focus rfl)|((with_reducible apply gy3);iterate 2 focus rfl)|((with_reducible apply gy4);iterate 1 focus rfl)|((with_reducible apply gy5);iterate 4 focus rfl)|((with_reducible apply gy5c);iterate 4 focus rfl)|((with_reducible apply gy6);iterate 4 focus rfl)|((with_reducible apply Zfo);iterate 3 focus rfl)|((with_reducible apply Zfj);iterate 1 focus rfl)|((with_reducible apply gy7);iterate 1 focus rfl)|((with_reducible apply gy9);(focus ((with_reducible refine gE ?_);(try simp (disch:=omega) only [go_sem,e5,L5,L105,L201,hab,hba,hl2,Zqz,Zqy,Zqv,Zqw,Int.reduceAdd,Int.reduceSub,Int.reduceToNat,Zq2])<;>rfl)))|((with_reducible apply gz1);(focus first|rfl|(simp (disch:=omega) only [go_sem,e5,L5,L105,L201,hab,hba,hl2,Zqz,Zqy,Zqv,Zqw,Int.reduceAdd,Int.reduceSub,Int.reduceToNat,Zq2];done)))|((with_reducible apply Zbz (Zdq []) [] []);(focus kernel_rfl);(focus rfl);(focus kernel_rfl);(focus (simp only [Zrj,Zrr,Nat.reduceAdd];rfl)))|((with_reducible first|apply Zb5|apply Zcn|apply Zb6);all_goals (intro hc;(try simp only [bool_to_prop] at hc);try (exfalso;omega)))))
    refine⟨rfl,by(simp (disch:=omega) only [go_sem,L201]<;>repeat' first|rfl|refine⟨?_,?_⟩),?_⟩
    (repeat' (first|(with_reducible first|refine stp ?_|apply gx1|apply gx2|apply gx3|apply gx4|apply gx5|apply gx6|apply gx7|apply gy8|apply gz2|apply gz3)|(with_reducible refine Zb1 ?_;intro _)|((with_reducible refine gE ?_);(try simp (disch:=omega) only [go_sem,e5,L5,L105,L201,hab,hba,hl2,Zqz,Zqy,Zqv,Zqw,Int.reduceAdd,Int.reduceSub,Int.reduceToNat,Zq2])<;>first|rfl|omega)|with_reducible refine Zag zd ?_|((with_reducible apply gy1);iterate 3 focus rfl)|((with_reducible apply gy2);iterate 3 focus rfl)|((with_reducible apply gy3);iterate 2 focus rfl)|((with_reducible apply gy4);iterate 1 focus rfl)|((with_reducible apply gy5);iterate 4 focus rfl)|((with_reducible apply gy5c);iterate 4 focus rfl)|((with_reducible apply gy6);iterate 4 focus rfl)|((with_reducible apply Zfo);iterate 3 focus rfl)|((with_reducible apply Zfj);iterate 1 focus rfl)|((with_reducible apply gy7);iterate 1 focus rfl)|((with_reducible apply gy9);(focus ((with_reducible refine gE ?_);(try simp (disch:=omega) only [go_sem,e5,L5,L105,L201,hab,hba,hl2,Zqz,Zqy,Zqv,Zqw,Int.reduceAdd,Int.reduceSub,Int.reduceToNat,Zq2])<;>rfl)))|((with_reducible apply gz1);(focus first|rfl|(simp (disch:=omega) only [go_sem,e5,L5,L105,L201,hab,hba,hl2,Zqz,Zqy,Zqv,Zqw,Int.reduceAdd,Int.reduceSub,Int.reduceToNat,Zq2];done)))|((with_reducible apply Zbz (Zdq []) [] []);(focus kernel_rfl);(focus rfl);(focus kernel_rfl);(focus (simp only [Zrj,Zrr,Nat.reduceAdd];rfl)))|((with_reducible first|apply Zb5|apply Zcn|apply Zb6);all_goals (intro hc;(try simp only [bool_to_prop] at hc);try (exfalso;omega)))))
    have ho:oris ((Zbu ss gs).take (j+1))=T:=by rw [ho];unfold ori;simp only;rw [Zqw hab,Zqw hba,Zso]
    refine⟨rfl,gC,.v (.bool true),m,Sub.refl _,⟨rfl,σ',hAg,sv,h5,by rw [ho];exact h105,h200,h201⟩,?_⟩;refine AgrB.close (k:=1201) (e:=.obj l RR) ?_ m201 rfl rfl
    (repeat' (first|(exact AgrB.of (by rw [hmm];exact Agr.start m))|(refine AgrB.own ?_ zo)|(refine AgrB.at ?_)))
 ·have e0:oris ((Zbu ss gs).take 0)=[]:=rfl;exact⟨.slice none 0 0,gC,by rw [e0];exact gC,gC,gC⟩
 ·rintro r σ' ⟨sv,h5,h105,h200,h201⟩
  rw [Ztp] at h105;refine⟨h201,?_⟩;refine xw_flat zr ?_;have hsm:∀p∈oris (Zbu ss gs),smP p:=λp hp=>by
   have hl:=ok.l1;obtain⟨_,h | h⟩:=Zmx.1 hp
   ·obtain⟨a,b,c,d⟩:=ok.b _ h;exact⟨a,zo,c,zo⟩
   ·obtain⟨a,b,c,d⟩:=ok.b _ h;simp only at a b c d;exact⟨c,zo,a,zo⟩
  have hlen:(oris (Zbu ss gs)).length < 256:=by have:=Zje (Zbu ss gs);have:=ok.len;omega
  have q5:upd σ' 201 none 5=some (.box g5 27 [.own 105 sv] false):=by rw [Zaj,Zqw zd];exact h5
  have q105:upd σ' 201 none 105=some (.row sv 48 2 ((oris (Zbu ss gs)).map prA) 0):=by rw [Zaj,Zqw zd];exact h105
  have q200:upd σ' 201 none 200=some (.obj D (.deferred (some []))):=by rw [Zaj,Zqw zd];exact h200
  clear hround cI cR cP hAll;generalize upd σ' 201 none=σ1 at *;have co:=Zqd σ1 105 sv _ q105 hlen hsm;(focus (refine wkad (w_1 q5) w_t w_t ?_;(repeat' first|exact w_t|apply w_l);all_goals intros));refine Zji co ?_
  rintro r2 σ2 ⟨l',p1,p2,hC⟩
  have hln:=lines_eq ok.b p1 p2;rw [←hln];rcases hC with⟨hd,rfl,rfl⟩ | ⟨hle,rfl,rfl⟩
  ·rw [hd];(focus (refine wkad w_t w_t w_t ?_;(repeat' first|exact w_t|apply w_l);all_goals intros));refine .inr ⟨D,rfl,gW q200,?_⟩;generalize l'.map prA=LA at *;clear q5 q105 q200 co;(focus (refine wkad w_t w_t w_t ?_;(repeat' first|exact w_t|apply w_l);all_goals intros));all_goals exact gL
  ·(focus (refine wkad w_t w_t w_t ?_;(repeat' first|exact w_t|apply w_l);all_goals intros));refine .inr ⟨D,rfl,gW q200,?_⟩
   have hz:((Zar l').map prA++List.replicate (l'.length - (Zar l').length) (AV.agg [iv 0,iv 0])).take (Zar l').length=(Zar l').map prA:=by
    rw [List.take_append_of_le_length (by rw [Zq1];exact Zq0 _),Ztl (by rw [Zq1];exact Zq0 _)]
   generalize hF:(Zar l').map prA++List.replicate (l'.length - (Zar l').length) (AV.agg [iv 0,iv 0])=F at *;clear q5 q105 q200 co;generalize (Zar l').length=w at *;generalize (Zar l').map prA=LA at *;have hz0:F.take (0+w)=LA:=by rw [Zrg];exact hz
   (focus (refine wkad (w_1 hz0) w_t w_t ?_;(repeat' first|exact w_t|apply w_l);all_goals intros));all_goals exact gM (w_1 hz0)
theorem rs1 (k x:Int) (nm:ByteArray) (ar:List Int) (bo:Bool) (l d:List Nat) (hk:k=2∨k=5∨k=10∨k=12) (h:1 < ar.length):Pure prog 14 [.agg [iv k,strA nm,ivs ar,.v (.bool bo),lim l,lim d],iv x] (.sl 2 [.agg [iv (gI ar 0),iv (gI ar 1)]]):=by
 have a0:(ar.map iv).getD 0 .u=iv (gI ar 0):=by rw [Zah iv zo,Zbo zo]
 have a1:(ar.map iv).getD 1 .u=iv (gI ar 1):=by rw [Zah iv zo,Zbo zo]
 have hll:(ar.map iv).length=ar.length:=Zq1 ..;rcases hk with rfl | rfl | rfl | rfl
 all_goals refine pI func14 rfl ntmps14 results14 call14 ?_
 all_goals (focus (refine wkad (w_3 hll a0 a1) w_t w_t ?_;(repeat' first|exact w_t|apply w_l);all_goals intros))
 all_goals exact gL
theorem rs2 (k x:Int) (nm:ByteArray) (ar:List Int) (bo:Bool) (l d:List Nat) (hk:k=8) (h:2 < ar.length):Pure prog 14 [.agg [iv k,strA nm,ivs ar,.v (.bool bo),lim l,lim d],iv x] (.sl 2 [.agg [iv (gI ar 1),iv (gI ar 2)]]):=by
 have a1:(ar.map iv).getD 1 .u=iv (gI ar 1):=by rw [Zah iv zo,Zbo zo]
 have a2:(ar.map iv).getD 2 .u=iv (gI ar 2):=by rw [Zah iv zo,Zbo zo]
 have hll:(ar.map iv).length=ar.length:=Zq1 ..;subst hk;all_goals refine pI func14 rfl ntmps14 results14 call14 ?_
 all_goals (focus (refine wkad (w_3 hll a1 a2) w_t w_t ?_;(repeat' first|exact w_t|apply w_l);all_goals intros))
 all_goals exact gL
theorem rs3 (k x:Int) (nm:ByteArray) (ar:List Int) (bo:Bool) (l d:List Nat) (hk:k=3∨k=4∨k=7) (h:2 < ar.length):Pure prog 14 [.agg [iv k,strA nm,ivs ar,.v (.bool bo),lim l,lim d],iv x] (.sl 2 [.agg [iv (gI ar 1),iv (gI ar 2)],.agg [iv (gI ar 0),iv x]]):=by
 have a0:(ar.map iv).getD 0 .u=iv (gI ar 0):=by rw [Zah iv zo,Zbo zo]
 have a1:(ar.map iv).getD 1 .u=iv (gI ar 1):=by rw [Zah iv zo,Zbo zo]
 have a2:(ar.map iv).getD 2 .u=iv (gI ar 2):=by rw [Zah iv zo,Zbo zo]
 have hll:(ar.map iv).length=ar.length:=Zq1 ..;rcases hk with rfl | rfl | rfl
 all_goals refine pI func14 rfl ntmps14 results14 call14 ?_
 all_goals (focus (refine wkad (w_4 hll a0 a1 a2) w_t w_t ?_;(repeat' first|exact w_t|apply w_l);all_goals intros))
 all_goals exact gL
theorem rs4 (k x:Int) (nm:ByteArray) (ar:List Int) (bo:Bool) (l d:List Nat) (hk:k=9) (h:3 < ar.length):Pure prog 14 [.agg [iv k,strA nm,ivs ar,.v (.bool bo),lim l,lim d],iv x] (.sl 2 [.agg [iv (gI ar 0),iv (gI ar 1)],.agg [iv (gI ar 2),iv (gI ar 3)]]):=by
 have a0:(ar.map iv).getD 0 .u=iv (gI ar 0):=by rw [Zah iv zo,Zbo zo]
 have a1:(ar.map iv).getD 1 .u=iv (gI ar 1):=by rw [Zah iv zo,Zbo zo]
 have a2:(ar.map iv).getD 2 .u=iv (gI ar 2):=by rw [Zah iv zo,Zbo zo]
 have a3:(ar.map iv).getD 3 .u=iv (gI ar 3):=by rw [Zah iv zo,Zbo zo]
 have hll:(ar.map iv).length=ar.length:=Zq1 ..;subst hk;all_goals refine pI func14 rfl ntmps14 results14 call14 ?_
 all_goals (focus (refine wkad (w_5 hll a0 a1 a2 a3) w_t w_t ?_;(repeat' first|exact w_t|apply w_l);all_goals intros))
 all_goals exact gL
theorem rs5 (k x:Int) (nm:ByteArray) (ar:List Int) (bo:Bool) (l d:List Nat) (hk:k=14) (h:1 < ar.length):Pure prog 14 [.agg [iv k,strA nm,ivs ar,.v (.bool bo),lim l,lim d],iv x] (.sl 2 [.agg [iv (gI ar 0),iv (gI ar 1)],.agg [iv (gI ar 0),iv x],.agg [iv (gI ar 1),iv x]]):=by
 have a0:(ar.map iv).getD 0 .u=iv (gI ar 0):=by rw [Zah iv zo,Zbo zo]
 have a1:(ar.map iv).getD 1 .u=iv (gI ar 1):=by rw [Zah iv zo,Zbo zo]
 have hll:(ar.map iv).length=ar.length:=Zq1 ..;subst hk;all_goals refine pI func14 rfl ntmps14 results14 call14 ?_
 all_goals (focus (refine wkad (w_3 hll a0 a1) w_t w_t ?_;(repeat' first|exact w_t|apply w_l);all_goals intros))
 all_goals exact gL
theorem rs0 (k x:Int) (nm:ByteArray) (ar:List Int) (bo:Bool) (l d:List Nat) (n2:¬k=2) (n5:¬k=5) (n10:¬k=10) (n12:¬k=12) (n8:¬k=8) (n3:¬k=3) (n4:¬k=4) (n7:¬k=7) (n9:¬k=9) (n14:¬k=14):Pure prog 14 [.agg [iv k,strA nm,ivs ar,.v (.bool bo),lim l,lim d],iv x] (.v (.slice none 0 0)):=by
 refine pI func14 rfl ntmps14 results14 call14 ?_;(focus (refine wkad (w_10 n2 n5 n10 n12 n8 n3 n4 n7 n9 n14) w_t w_t ?_;(repeat' first|exact w_t|apply w_l);all_goals intros));all_goals exact gL
theorem rfStep (i:Nat) (s:RS) (hs:∀p∈Zbx s.k,p.1 < (s.ar.length:Int)∧p.2 < (s.ar.length:Int)):Pure prog 14 [s.av,iv i] (.sl 2 ((Zcw i s).map prA)):=by
 obtain⟨k,nm,ar,⟨bo,l,d⟩⟩:=s;show Pure _ _ [.agg [iv k,strA nm,ivs ar,.v (.bool bo),lim l,lim d],iv i] _;unfold Zcw;simp only at hs ⊢;unfold Zbx at hs ⊢;split
 ·rename_i h;rw [Zqv h] at hs;have:=(hs (0,1) zs).2;exact rs1 k i nm ar bo l d zo (by simp only at this;omega)
 ·rename_i h1;rw [Zqw h1] at hs;split
  ·rename_i h;rw [Zqv h] at hs;have:=(hs (1,2) zs).2;exact rs2 k i nm ar bo l d h (by simp only at this;omega)
  ·rename_i h2;rw [Zqw h2] at hs;split
   ·rename_i h;rw [Zqv h] at hs;have:=(hs (1,2) zs).2;exact rs3 k i nm ar bo l d h (by simp only at this;omega)
   ·rename_i h3;rw [Zqw h3] at hs;split
    ·rename_i h;rw [Zqv h] at hs;have:=(hs (2,3) zs).2;exact rs4 k i nm ar bo l d h (by simp only at this;omega)
    ·rename_i h4;rw [Zqw h4] at hs;split
     ·rename_i h;rw [Zqv h] at hs;have:=(hs (0,1) zs).2;exact rs5 k i nm ar bo l d h (by simp only at this;omega)
     ·exact Ze0 (rs0 k i nm ar bo l d zo zo zo zo zo zo zo zo zo zo) (.nil 2)
theorem rg1 (k:Int) (ar:List Int) (bo:Bool) (l d:List Nat) (hk:k=1) (h:2 < ar.length):Pure prog 15 [.agg [iv k,ivs ar,.v (.bool bo),lim l,lim d]] (.sl 2 [.agg [iv (gI ar 0),iv (gI ar 1)],.agg [iv (gI ar 1),iv (gI ar 2)]]):=by
 have a0:(ar.map iv).getD 0 .u=iv (gI ar 0):=by rw [Zah iv zo,Zbo zo]
 have a1:(ar.map iv).getD 1 .u=iv (gI ar 1):=by rw [Zah iv zo,Zbo zo]
 have a2:(ar.map iv).getD 2 .u=iv (gI ar 2):=by rw [Zah iv zo,Zbo zo]
 have hll:(ar.map iv).length=ar.length:=Zq1 ..;subst hk;all_goals refine pI func15 rfl ntmps15 results15 call15 ?_
 all_goals (focus (refine wkad (w_4 hll a0 a1 a2) w_t w_t ?_;(repeat' first|exact w_t|apply w_l);all_goals intros))
 all_goals exact gL
theorem rg2s (k:Int) (ar:List Int) (bo:Bool) (l d:List Nat) (hk:k=2∨k=3∨k=4∨k=9) (h:3 < ar.length):Pure prog 15 [.agg [iv k,ivs ar,.v (.bool bo),lim l,lim d]] (.sl 2 [.agg [iv (gI ar 0),iv (gI ar 1)],.agg [iv (gI ar 2),iv (gI ar 3)]]):=by
 have a0:(ar.map iv).getD 0 .u=iv (gI ar 0):=by rw [Zah iv zo,Zbo zo]
 have a1:(ar.map iv).getD 1 .u=iv (gI ar 1):=by rw [Zah iv zo,Zbo zo]
 have a2:(ar.map iv).getD 2 .u=iv (gI ar 2):=by rw [Zah iv zo,Zbo zo]
 have a3:(ar.map iv).getD 3 .u=iv (gI ar 3):=by rw [Zah iv zo,Zbo zo]
 have hll:(ar.map iv).length=ar.length:=Zq1 ..;rcases hk with rfl | rfl | rfl | rfl
 all_goals refine pI func15 rfl ntmps15 results15 call15 ?_
 all_goals (focus (refine wkad (w_5 hll a0 a1 a2 a3) w_t w_t ?_;(repeat' first|exact w_t|apply w_l);all_goals intros))
 all_goals exact gL
theorem rg3 (k:Int) (ar:List Int) (bo:Bool) (l d:List Nat) (hk:k=5) (h:2 < ar.length):Pure prog 15 [.agg [iv k,ivs ar,.v (.bool bo),lim l,lim d]] (.sl 2 [.agg [iv (gI ar 1),iv (gI ar 2)]]):=by
 have a1:(ar.map iv).getD 1 .u=iv (gI ar 1):=by rw [Zah iv zo,Zbo zo]
 have a2:(ar.map iv).getD 2 .u=iv (gI ar 2):=by rw [Zah iv zo,Zbo zo]
 have hll:(ar.map iv).length=ar.length:=Zq1 ..;subst hk;all_goals refine pI func15 rfl ntmps15 results15 call15 ?_
 all_goals (focus (refine wkad (w_3 hll a1 a2) w_t w_t ?_;(repeat' first|exact w_t|apply w_l);all_goals intros))
 all_goals exact gL
theorem rg4 (k:Int) (ar:List Int) (bo:Bool) (l d:List Nat) (hk:k=7) (h:7 < ar.length):Pure prog 15 [.agg [iv k,ivs ar,.v (.bool bo),lim l,lim d]] (.sl 2 [.agg [iv (gI ar 0),iv (gI ar 1)],.agg [iv (gI ar 2),iv (gI ar 3)],.agg [iv (gI ar 4),iv (gI ar 5)],.agg [iv (gI ar 6),iv (gI ar 7)]]):=by
 have a0:(ar.map iv).getD 0 .u=iv (gI ar 0):=by rw [Zah iv zo,Zbo zo]
 have a1:(ar.map iv).getD 1 .u=iv (gI ar 1):=by rw [Zah iv zo,Zbo zo]
 have a2:(ar.map iv).getD 2 .u=iv (gI ar 2):=by rw [Zah iv zo,Zbo zo]
 have a3:(ar.map iv).getD 3 .u=iv (gI ar 3):=by rw [Zah iv zo,Zbo zo]
 have a4:(ar.map iv).getD 4 .u=iv (gI ar 4):=by rw [Zah iv zo,Zbo zo]
 have a5:(ar.map iv).getD 5 .u=iv (gI ar 5):=by rw [Zah iv zo,Zbo zo]
 have a6:(ar.map iv).getD 6 .u=iv (gI ar 6):=by rw [Zah iv zo,Zbo zo]
 have a7:(ar.map iv).getD 7 .u=iv (gI ar 7):=by rw [Zah iv zo,Zbo zo]
 have hll:(ar.map iv).length=ar.length:=Zq1 ..;subst hk;all_goals refine pI func15 rfl ntmps15 results15 call15 ?_
 all_goals (focus (refine wkad (w_9 hll a0 a1 a2 a3 a4 a5 a6 a7) w_t w_t ?_;(repeat' first|exact w_t|apply w_l);all_goals intros))
 all_goals exact gL
theorem rg0 (k:Int) (ar:List Int) (bo:Bool) (l d:List Nat) (n1:¬k=1) (n2:¬k=2) (n3:¬k=3) (n4:¬k=4) (n9:¬k=9) (n5:¬k=5) (n7:¬k=7):Pure prog 15 [.agg [iv k,ivs ar,.v (.bool bo),lim l,lim d]] (.v (.slice none 0 0)):=by
 refine pI func15 rfl ntmps15 results15 call15 ?_;(focus (refine wkad (w_7 n1 n2 n3 n4 n9 n5 n7) w_t w_t ?_;(repeat' first|exact w_t|apply w_l);all_goals intros));all_goals exact gL
theorem rfGoal (g:RG) (hs:∀p∈Zby g.k,0≤p.1∧p.1 < (g.ar.length:Int)∧0≤p.2∧p.2 < (g.ar.length:Int)):Pure prog 15 [g.av] (.sl 2 ((Zcy g).map prA)):=by
 obtain⟨k,ar,⟨bo,l,d⟩⟩:=g;show Pure _ _ [.agg [iv k,ivs ar,.v (.bool bo),lim l,lim d]] _;unfold Zcy;simp only at hs ⊢;unfold Zby at hs ⊢;split
 ·rename_i h;rw [Zqv h] at hs;have:=(hs (1,2) zs).2.2.2;exact rg1 k ar bo l d h (by simp only at this;omega)
 ·rename_i h1;rw [Zqw h1] at hs;split
  ·rename_i h;rw [Zqv h] at hs;have:=(hs (2,3) zs).2.2.2;exact rg2s k ar bo l d h (by simp only at this;omega)
  ·rename_i h2;rw [Zqw h2] at hs;split
   ·rename_i h;rw [Zqv h] at hs;have:=(hs (1,2) zs).2.2.2;exact rg3 k ar bo l d h (by simp only at this;omega)
   ·rename_i h3;rw [Zqw h3] at hs;split
    ·rename_i h;rw [Zqv h] at hs;have:=(hs (6,7) zs).2.2.2;exact rg4 k ar bo l d h (by simp only at this;omega)
    ·exact Ze0 (rg0 k ar bo l d zo zo zo zo zo zo zo) (.nil 2)
theorem rfHas (all:List Pr) (p:Pr) (hl:all.length≤1000000):Pure prog 16 [.sl 2 (all.map prA),prA p] (.v (.bool (decide (p∈all)))):=by
 have hll:(all.map prA).length=all.length:=Zq1 ..;have kA:∀j (h:j < all.length),(all.map prA).getD j .u=.agg [iv all[j].1,iv all[j].2]:=λj h=>Zah prA h;obtain⟨a,b⟩:=p;show Pure _ _ [_,.agg [iv a,iv b]] _;generalize hM:all.map prA=M at *;refine pI func16 rfl ntmps16 results16 call16 ?_;(focus (refine wkad (w_1 hll) w_t w_t ?_;(repeat' first|exact w_t|apply w_l);all_goals intros));rename_i g3;refine Zai (ι:=Nat) (λi e m=>i≤all.length∧(e 3=.pbox 3 g3 0∧m 3=some (.box g3 48 [iv a,iv b] false))∧e 7=.sl 2 M∧e 8=iv all.length∧e 9=iv i∧∀j (h:j < all.length),j < i→all[j]≠(a,b)) (λi=>all.length - i) 0 zr ?_ ?_
 ·rintro i e m ⟨hi,⟨e3,m3⟩,e7,e8,e9,hn⟩
  by_cases hlt:i < all.length
  ·have gi:=kA i hlt;by_cases hc:all[i]=(a,b)
   ·rw [hc] at gi;rw [Zqz (by rw [←hc];exact Zrz hlt:(a,b)∈all)];(focus (refine wkad (w_7 e3 m3 e7 e8 e9 gi hll) w_t w_t ?_;(repeat' first|exact w_t|apply w_l);all_goals intros));all_goals exact gL
   ·have hne:∀j (h:j < all.length),j < i+1→all[j]≠(a,b):=λj h hj=>by
     by_cases e:j=i
     ·subst e;exact hc
     ·exact hn j h zo
    generalize all[i]=q at *;obtain⟨q1,q2⟩:=q;simp only at gi;by_cases h1:q1=a
    ·subst h1;have h2:¬q2=b:=λe=>hc (by rw [e]);(focus (refine wkad (w_8 e3 m3 e7 e8 e9 gi hll h2) w_t w_t ?_;(repeat' first|exact w_t|apply w_l);all_goals intros));exact⟨i+1,⟨zo,⟨gW e3,gW m3⟩,gW e7,gW e8,gS,hne⟩,zo⟩
    ·(focus (refine wkad (w_8 e3 m3 e7 e8 e9 gi hll h1) w_t w_t ?_;(repeat' first|exact w_t|apply w_l);all_goals intros));all_goals first|(rename_i hz;exact absurd hz.1 zs)|exact⟨i+1,⟨zo,⟨gW e3,gW m3⟩,gW e7,gW e8,gS,hne⟩,zo⟩
  ·have hii:i=all.length:=zo;subst hii;rw [Zqy (λh=>by obtain⟨j,hj,e⟩:=List.mem_iff_getElem.1 h;exact hn j hj hj e:¬(a,b)∈all)];(focus (refine wkad (w_6 e3 m3 e7 e8 e9 hll) w_t w_t ?_;(repeat' first|exact w_t|apply w_l);all_goals intros));all_goals exact gL
 ·exact⟨Zre _,⟨gC,gC⟩,gC,gW hll,gC,λj h hj=>zo⟩
theorem Zhb (all:List Pr) (i:Nat):∀m,(Zc1 all i m).length≤m
 | 0=>Zq0 _
 | m+1=>by
   have ih:=Zhb all i m;unfold Zc1;rw [Zro];split<;>simp<;>omega
theorem Zhe (all:List Pr) (n:Nat):∀m,(Zcq all n m).length≤m*n
 | 0=>Zre _
 | m+1=>by
   have ih:=Zhe all n m;have h:=Zhb all m (n - (m+1));unfold Zcq;rw [Zro,Nat.succ_mul];omega
theorem rfLines0 (ss:List RS) (gs:List RG) (cR:Pure prog 13 [figA ss gs] (iv (figE ss gs))) (h:figE ss gs≠0):Pure prog 6 [figA ss gs] (.tup [.sl 2 [],iv (figE ss gs)]):=by
 refine Ze0 (r:=.tup [.v (.slice none 0 0),iv (figE ss gs)]) ?_ (Vk.tupL (.cons (.nil 2) (.cons (.refl _) .nil)));have cR:Pure prog 13 [.agg [.sl 6 (ss.map RS.av),.sl 5 (gs.map RG.av)]] (iv (figE ss gs)):=cR;show Pure _ _ [.agg [.sl 6 (ss.map RS.av),.sl 5 (gs.map RG.av)]] _;generalize figE ss gs=z at *;generalize ss.map RS.av=M at *;generalize gs.map RG.av=N at *;refine pI func6 rfl ntmps6 results6 call6 ?_;(focus (refine wkld w_t (w_1 cR) w_t w_t ?_;(repeat' first|exact w_t|apply w_l);all_goals intros))
theorem rfLines1 (ss:List RS) (gs:List RG) (cR:Pure prog 13 [figA ss gs] (iv 0)) (ok:LnOk ss gs):Pure prog 6 [figA ss gs] (.tup [.sl 2 ((Zcq (Zbu ss gs) ss.length ss.length).map prA),iv 0]):=by
 have cR:Pure prog 13 [.agg [.sl 6 (ss.map RS.av),.sl 5 (gs.map RG.av)]] (iv 0):=cR;have hls:(ss.map RS.av).length=ss.length:=Zq1 ..;have hlg:(gs.map RG.av).length=gs.length:=Zq1 ..;have kS:∀i (h:i < ss.length),(ss.map RS.av).getD i .u=ss[i].av:=λi h=>Zah RS.av h;have kG:∀i (h:i < gs.length),(gs.map RG.av).getD i .u=gs[i].av:=λi h=>Zah RG.av h;have cS:=λi (h:i < ss.length)=>rfStep i ss[i] (ok.hs i h);have cG:=λi (h:i < gs.length)=>rfGoal gs[i] (ok.hg i h);have cH:=λp=>rfHas (Zbu ss gs) p (by have:=ok.len;omega);have l1:=ok.l1;have l2:=ok.l2;have hlen:=ok.len
 show Pure _ _ [.agg [.sl 6 (ss.map RS.av),.sl 5 (gs.map RG.av)]] _;generalize ss.map RS.av=M at *;generalize gs.map RG.av=N at *;refine pI func6 rfl ntmps6 results6 call6 ?_;(focus (refine wkad (w_1 hls) (w_1 cR) w_t ?_;(repeat' first|exact w_t|apply w_l);all_goals intros));rename_i g1;refine Zki (Frz.nilOwn (d:=5) 305 2 48 (gC)) ?_;refine Zai (ι:=Nat) (λi e m=>i≤ss.length∧(e 1=.pbox 1 g1 0∧m 1=some (.box g1 25 [.sl 6 M,.sl 5 N] false))∧e 19=.sl 6 M∧e 20=iv ss.length∧e 21=iv i∧∃sv,e 5=.own 305 sv∧m 305=some (.row sv 48 2 ((Zas ss i).map prA) 0)) (λi=>ss.length - i) 0 zr ?_ ?_
 ·rintro i e m ⟨hi,⟨e1,m1⟩,e19,e20,e21,sv,e5,m5⟩
  by_cases hlt:i < ss.length
  ·have gi:=kS i hlt;have c:=cS i hlt;have hsu:=Zed hlt;have h3:=Zd4 ss i;have hl3:((Zas ss i).map prA).length≤120:=by rw [Zq1];omega
   have h4:=Zmk ss[i].k;have hl4:((Zcw i ss[i]).map prA).length≤3:=by unfold Zcw;rw [Zq1,Zq1];exact h4
   have hsm:(Zas ss i).map prA++(Zcw i ss[i]).map prA=(Zas ss (i+1)).map prA:=by rw [hsu,Zui]
   clear hsu h3 h4 cS cG cH cR;generalize (Zas ss i).map prA=A at *;generalize (Zcw i ss[i]).map prA=C at *;generalize ss[i]=s at *;obtain⟨k,nm,ar,⟨bo,l,d⟩⟩:=s;have c:Pure prog 14 [.agg [iv k,strA nm,ivs ar,.v (.bool bo),lim l,lim d],iv i] (.sl 2 C):=c;have gi:M.getD i .u=.agg [iv k,strA nm,ivs ar,.v (.bool bo),lim l,lim d]:=gi;(focus (refine wkad (w_11 e1 m1 e19 e20 e21 e5 m5 gi hls hl3 hl4) (w_1 c) w_t ?_;(repeat' first|exact w_t|apply w_l);all_goals intros));exact⟨i+1,⟨zo,⟨gW e1,gW m1⟩,gW e19,gW e20,gS,_,gC,by rw [←hsm];exact gC⟩,zo⟩
  ·have hii:i=ss.length:=zo;subst hii;(focus (refine wkad (w_8 e1 m1 e19 e20 e21 e5 m5 hlg) w_t w_t ?_;(repeat' first|exact w_t|apply w_l);all_goals intros));refine Zai (ι:=Nat) (λi e m=>i≤gs.length∧(e 1=.pbox 1 g1 0∧m 1=some (.box g1 25 [.sl 6 M,.sl 5 N] false))∧e 33=.sl 5 N∧e 34=iv gs.length∧e 35=iv i∧∃sv,e 5=.own 305 sv∧m 305=some (.row sv 48 2 ((Zas ss ss.length++Za8 gs i).map prA) 0)) (λi=>gs.length - i) 0 zr ?_ ?_
   ·rintro i e m ⟨hi,⟨e1,m1⟩,e33,e34,e35,sv,e5,m5⟩
    by_cases hlt:i < gs.length
    ·have gi:=kG i hlt;have c:=cG i hlt;have hsu:=Zek hlt;have h3:=Zfm gs i;have h30:=Zd4 ss ss.length;have hl3:((Zas ss ss.length++Za8 gs i).map prA).length≤152:=by rw [Zq1,Zro];omega
     have h4:=Zmv gs[i].k;have hl4:((Zcy gs[i]).map prA).length≤4:=by unfold Zcy;rw [Zq1,Zq1];exact h4
     have hsm:(Zas ss ss.length++Za8 gs i).map prA++(Zcy gs[i]).map prA=(Zas ss ss.length++Za8 gs (i+1)).map prA:=by rw [hsu,←Zr6];simp only [Zui]
     clear hsu h3 h4 cS cG cH cR;generalize (Zas ss ss.length++Za8 gs i).map prA=A at *;generalize (Zcy gs[i]).map prA=C at *;generalize gs[i]=g at *;obtain⟨k,ar,⟨bo,l,d⟩⟩:=g;have c:Pure prog 15 [.agg [iv k,ivs ar,.v (.bool bo),lim l,lim d]] (.sl 2 C):=c;have gi:N.getD i .u=.agg [iv k,ivs ar,.v (.bool bo),lim l,lim d]:=gi;(focus (refine wkad (w_11 e1 m1 e33 e34 e35 e5 m5 gi hlg hl3 hl4) (w_1 c) w_t ?_;(repeat' first|exact w_t|apply w_l);all_goals intros));exact⟨i+1,⟨zo,⟨gW e1,gW m1⟩,gW e33,gW e34,gS,_,gC,by rw [←hsm];exact gC⟩,zo⟩
    ·have hii:i=gs.length:=zo;subst hii;have hal:(Zas ss ss.length++Za8 gs gs.length)=Zbu ss gs:=rfl;rw [hal] at m5;clear cR cS cG;(focus (refine wkad (w_8 e1 m1 e33 e34 e35 e5 m5 hls) w_t w_t ?_;(repeat' first|exact w_t|apply w_l);all_goals intros));refine Zki (Frz.own (d:=5) (k:=305) (sv:=sv) (ty:=48) (mm:=2) (es:=(Zbu ss gs).map prA) (pub:=0) (gW e5) (gW m5)) ?_;refine Zki (Frz.nilOwn (d:=10) 310 2 48 (gC)) ?_;generalize hall:Zbu ss gs=all at *;refine Zai (ι:=Nat) (λi e m=>i≤ss.length∧(e 1=.pbox 1 g1 0∧m 1=some (.box g1 25 [.sl 6 M,.sl 5 N] false))∧e 5=.sl 2 (all.map prA)∧e 46=iv ss.length∧e 47=iv i∧∃sv,e 10=.own 310 sv∧m 310=some (.row sv 48 2 ((Zcq all ss.length i).map prA) 0)) (λi=>ss.length - i) 0 zr ?_ ?_
     ·rintro i e m ⟨hi,⟨e1,m1⟩,e5,e46,e47,sv,e10,m10⟩
      by_cases hlt:i < ss.length
      ·(focus (refine wkad (w_7 e1 m1 e5 e46 e47 e10 m10) w_t w_t ?_;(repeat' first|exact w_t|apply w_l);all_goals intros));refine Zai (ι:=Nat) (λq e m=>i+1+q≤ss.length∧(e 1=.pbox 1 g1 0∧m 1=some (.box g1 25 [.sl 6 M,.sl 5 N] false))∧e 5=.sl 2 (all.map prA)∧e 46=iv ss.length∧e 47=iv i∧e 11=iv i∧e 12=iv ((i+1+q:Nat):Int)∧∃sv,e 10=.own 310 sv∧m 310=some (.row sv 48 2 ((Zcq all ss.length i++Zc1 all i q).map prA) 0)) (λq=>ss.length - q) 0 zr ?_ ?_
       ·rintro q e m ⟨hq,⟨e1,m1⟩,e5,e46,e47,e11,e12,sv,e10,m10⟩
        by_cases hql:i+1+q < ss.length
        ·have c1:=cH ((i:Int),((i+1+q:Nat):Int));have c2:=cH (((i+1+q:Nat):Int),(i:Int));have hrow:Zc1 all i (q+1)=Zc1 all i q++(if hasB all i (i+1+q) then [((i:Int),((i+1+q:Nat):Int))] else []):=rfl;have hb:hasB all i (i+1+q)=(decide (((i:Int),((i+1+q:Nat):Int))∈all) || decide ((((i+1+q:Nat):Int),(i:Int))∈all)):=rfl;rw [hb] at hrow;have hql2:((i+1+q:Nat):Int) < (ss.length:Int):=zo
         have hsl:((Zcq all ss.length i++Zc1 all i q).map prA).length≤1700:=by
          have r1:=Zhe all ss.length i;have r2:=Zhb all i q;have r3:i*ss.length≤40*40:=Zun zo l1;rw [Zq1,Zro];omega
         have c1:Pure prog 16 [.sl 2 (all.map prA),.agg [iv i,iv ((i+1+q:Nat):Int)]] _:=c1;have c2:Pure prog 16 [.sl 2 (all.map prA),.agg [iv ((i+1+q:Nat):Int),iv i]] _:=c2;have hw:IntKind.i64.wrap (((i+1+q:Nat):Int)+1)=((i+1+(q+1):Nat):Int):=by rw [Zeu zo zo];omega
         have hyes:(Zc1 all i (q+1)=Zc1 all i q++[((i:Int),((i+1+q:Nat):Int))])→(Zcq all ss.length i++Zc1 all i (q+1)).map prA=(Zcq all ss.length i++Zc1 all i q).map prA++[.agg [iv i,iv ((i+1+q:Nat):Int)]]:=λh=>by rw [h,←Zr6];simp only [Zui];rfl
         generalize decide (((i:Int),((i+1+q:Nat):Int))∈all)=b1 at *;generalize decide ((((i+1+q:Nat):Int),(i:Int))∈all)=b2 at *;clear cH
         cases b1 with
         | true =>
           have hrw:=hyes (by rw [hrow];rfl);generalize (Zcq all ss.length i++Zc1 all i q).map prA=A at *;generalize ((i+1+q:Nat):Int)=kk at *;(focus (refine wkad (w_13 e1 m1 e5 e46 e47 e11 e12 e10 m10 hls hql2 hsl hw) (w_2 c1 c2) w_t ?_;(repeat' first|exact w_t|apply w_l);all_goals intros));exact⟨q+1,⟨zo,⟨gW e1,gW m1⟩,gW e5,gW e46,gW e47,gW e11,gW hw,_,gC,by rw [hrw];exact gC⟩,zo⟩
         | false =>
           cases b2 with
           | true =>
             have hrw:=hyes (by rw [hrow];rfl);generalize (Zcq all ss.length i++Zc1 all i q).map prA=A at *;generalize ((i+1+q:Nat):Int)=kk at *;(focus (refine wkad (w_13 e1 m1 e5 e46 e47 e11 e12 e10 m10 hls hql2 hsl hw) (w_2 c1 c2) w_t ?_;(repeat' first|exact w_t|apply w_l);all_goals intros));exact⟨q+1,⟨zo,⟨gW e1,gW m1⟩,gW e5,gW e46,gW e47,gW e11,gW hw,_,gC,by rw [hrw];exact gC⟩,zo⟩
           | false =>
             have hrw:(Zcq all ss.length i++Zc1 all i (q+1)).map prA=(Zcq all ss.length i++Zc1 all i q).map prA:=by rw [hrow];simp
             generalize (Zcq all ss.length i++Zc1 all i q).map prA=A at *;generalize ((i+1+q:Nat):Int)=kk at *;(focus (refine wkad (w_13 e1 m1 e5 e46 e47 e11 e12 e10 m10 hls hql2 hsl hw) (w_2 c1 c2) w_t ?_;(repeat' first|exact w_t|apply w_l);all_goals intros));exact⟨q+1,⟨zo,⟨gW e1,gW m1⟩,gW e5,gW e46,gW e47,gW e11,gW hw,sv,gW e10,by rw [hrw];exact gW m10⟩,zo⟩
        ·have hqq:q=ss.length - (i+1):=zo;have hfin:Zcq all ss.length i++Zc1 all i q=Zcq all ss.length (i+1):=by rw [hqq];rfl
         rw [hfin] at m10;have hnl:¬((i+1+q:Nat):Int) < (ss.length:Int):=zo;generalize ((i+1+q:Nat):Int)=kk at *;(focus (refine wkad (w_11 e1 m1 e5 e46 e47 e11 e12 e10 m10 hls hnl) w_t w_t ?_;(repeat' first|exact w_t|apply w_l);all_goals intros));exact⟨i+1,⟨zo,⟨gW e1,gW m1⟩,gW e5,gW e46,gS,sv,gW e10,gW m10⟩,zo⟩
       ·exact⟨zo,⟨gW e1,gW m1⟩,gW e5,gW e46,gW e47,gC,gS,sv,gW e10,by rw [show Zcq all ss.length i++Zc1 all i 0=Zcq all ss.length i from Zso _];exact gW m10⟩
      ·have hii:i=ss.length:=zo;subst hii;generalize (Zcq all ss.length ss.length).map prA=F at *;clear cH;(focus (refine wkad (w_7 e1 m1 e5 e46 e47 e10 m10) w_t w_t ?_;(repeat' first|exact w_t|apply w_l);all_goals intros));all_goals exact gM (w_1 m10)
     ·exact⟨Zre _,⟨gW e1,gW m1⟩,gC,gW hls,gC,_,gC,gC⟩
   ·exact⟨Zre _,⟨gW e1,gW m1⟩,gC,gW hlg,gC,sv,gW e5,by rw [show Zas ss ss.length++Za8 gs 0=Zas ss ss.length from Zso _];exact gW m5⟩
 ·exact⟨Zre _,⟨gC,gC⟩,gC,gW hls,gC,_,gC,gC⟩
def Zf2 (s:RS):Bool:=!(decide (8 < s.ar.length) || decide (4 < s.r.l.length) || decide (4 < s.r.d.length))
def Zf3 (g:RG):Bool:=!(decide (12 < g.ar.length) || decide (4 < g.r.l.length) || decide (4 < g.r.d.length))
def fit45 (ss:List RS) (gs:List RG):Bool:=ss.all Zf2 && (gs.all Zf3 && (decide (ss.length≤60) && decide (gs.length≤12)))
theorem Zqq {α:Type} {p:α→Bool} {l:List α} {i:Nat} (h:i < l.length) (hp:p l[i]=false):l.all p=false:=by
 rw [Bool.eq_false_iff];intro ha;rw [Ztf] at ha;rw [ha _ (Zrz h)] at hp;cases hp
theorem Zqp {α:Type} {p:α→Bool} {l:List α} (h:∀j (hj:j < l.length),p l[j]=true):l.all p=true:=by
 rw [Ztf];intro x hx;obtain⟨j,hj,rfl⟩:=List.mem_iff_getElem.1 hx;exact h j hj
theorem lwFit45 (ss:List RS) (gs:List RG) (h1:ss.length≤maxLen) (h2:gs.length≤maxLen):Pure prog 4 [figA ss gs] (.v (.bool (fit45 ss gs))):=by
 have h1:ss.length≤9223372036854775807:=h1;have h2:gs.length≤9223372036854775807:=h2;have hls:(ss.map RS.av).length=ss.length:=Zq1 ..;have hlg:(gs.map RG.av).length=gs.length:=Zq1 ..;have kS:∀i (h:i < ss.length),(ss.map RS.av).getD i .u=ss[i].av:=λi h=>Zah RS.av h;have kG:∀i (h:i < gs.length),(gs.map RG.av).getD i .u=gs[i].av:=λi h=>Zah RG.av h;show Pure _ _ [.agg [.sl 6 (ss.map RS.av),.sl 5 (gs.map RG.av)]] _;generalize ss.map RS.av=M at *;generalize gs.map RG.av=N at *;unfold fit45;refine pI func4 rfl ntmps4 results4 call4 ?_;(focus (refine wkad (w_1 hls) w_t w_t ?_;(repeat' first|exact w_t|apply w_l);all_goals intros))
 rename_i g1;refine Zai (ι:=Nat) (λi e m=>i≤ss.length∧(e 1=.pbox 1 g1 0∧m 1=some (.box g1 25 [.sl 6 M,.sl 5 N] false))∧e 8=.sl 6 M∧e 9=iv ss.length∧e 10=iv i∧∀j (h:j < ss.length),j < i→Zf2 ss[j]=true) (λi=>ss.length - i) 0 zr ?_ ?_
 ·rintro i e m ⟨hi,⟨e1,m1⟩,e8,e9,e10,hn⟩
  by_cases hlt:i < ss.length
  ·have gi:=kS i hlt;have hw:IntKind.i64.wrap ((i:Int)+1)=((i+1:Nat):Int):=by rw [Zeu zo zo];omega
   have hlt2:(i:Int) < (ss.length:Int):=zo;by_cases hc:Zf2 ss[i]=true
   ·have hne:∀j (h:j < ss.length),j < i+1→Zf2 ss[j]=true:=λj h hj=>by
     by_cases e:j=i
     ·subst e;exact hc
     ·exact hn j h zo
    generalize ss[i]=s at *;obtain⟨k,nm,ar,⟨bo,l,d⟩⟩:=s;unfold Zf2 at hc;simp only [Zsp,Zth,Zs4] at hc;obtain⟨⟨d1,d2⟩,d3⟩:=hc;have hll:(ar.map iv).length=ar.length:=Zq1 ..;(focus (refine wkad (w_11 e1 m1 e8 e9 e10 gi hls hll @Zap hw hlt2) w_t w_t ?_;(repeat' first|exact w_t|apply w_l);all_goals intros));exact⟨i+1,⟨zo,⟨gW e1,gW m1⟩,gW e8,gW e9,gW hw,hne⟩,zo⟩
   ·have hc:=Bool.eq_false_iff.2 hc;rw [Zqq hlt hc,Zr3];generalize ss[i]=s at *;obtain⟨k,nm,ar,⟨bo,l,d⟩⟩:=s;unfold Zf2 at hc;simp only [Bool.not_eq_false',Zsk,Zrs] at hc;have hll:(ar.map iv).length=ar.length:=Zq1 ..;by_cases c1:8 < ar.length
    ·(focus (refine wkad (w_10 e1 m1 e8 e9 e10 gi hls hll @Zap hlt2) w_t w_t ?_;(repeat' first|exact w_t|apply w_l);all_goals intros));all_goals exact gL
    ·by_cases c2:4 < l.length
     ·(focus (refine wkad (w_10 e1 m1 e8 e9 e10 gi hls hll @Zap hlt2) w_t w_t ?_;(repeat' first|exact w_t|apply w_l);all_goals intros));all_goals exact gL
     ·have c3:4 < d.length:=zo;(focus (refine wkad (w_10 e1 m1 e8 e9 e10 gi hls hll @Zap hlt2) w_t w_t ?_;(repeat' first|exact w_t|apply w_l);all_goals intros));all_goals exact gL
  ·have hii:i=ss.length:=zo;subst hii;rw [Zqp (p:=Zf2) λj hj=>hn j hj hj,Zs0];have hnl:¬(ss.length:Int) < (ss.length:Int):=zo;(focus (refine wkad (w_8 e1 m1 e8 e9 e10 hls hlg hnl) w_t w_t ?_;(repeat' first|exact w_t|apply w_l);all_goals intros));refine Zai (ι:=Nat) (λi e m=>i≤gs.length∧(e 1=.pbox 1 g1 0∧m 1=some (.box g1 25 [.sl 6 M,.sl 5 N] false))∧e 35=.sl 5 N∧e 36=iv gs.length∧e 37=iv i∧∀j (h:j < gs.length),j < i→Zf3 gs[j]=true) (λi=>gs.length - i) 0 zr ?_ ?_
   ·rintro i e m ⟨hi,⟨e1,m1⟩,e35,e36,e37,hn⟩
    by_cases hlt:i < gs.length
    ·have gi:=kG i hlt;have hw:IntKind.i64.wrap ((i:Int)+1)=((i+1:Nat):Int):=by rw [Zeu zo zo];omega
     have hlt2:(i:Int) < (gs.length:Int):=zo;by_cases hc:Zf3 gs[i]=true
     ·have hne:∀j (h:j < gs.length),j < i+1→Zf3 gs[j]=true:=λj h hj=>by
       by_cases e:j=i
       ·subst e;exact hc
       ·exact hn j h zo
      generalize gs[i]=s at *;obtain⟨k,ar,⟨bo,l,d⟩⟩:=s;unfold Zf3 at hc;simp only [Zsp,Zth,Zs4] at hc;obtain⟨⟨d1,d2⟩,d3⟩:=hc;have hll:(ar.map iv).length=ar.length:=Zq1 ..;(focus (refine wkad (w_11 e1 m1 e35 e36 e37 gi hlg hll @Zap hw hlt2) w_t w_t ?_;(repeat' first|exact w_t|apply w_l);all_goals intros));exact⟨i+1,⟨zo,⟨gW e1,gW m1⟩,gW e35,gW e36,gW hw,hne⟩,zo⟩
     ·have hc:=Bool.eq_false_iff.2 hc;rw [Zqq hlt hc,Zr3];generalize gs[i]=s at *;obtain⟨k,ar,⟨bo,l,d⟩⟩:=s;unfold Zf3 at hc;simp only [Bool.not_eq_false',Zsk,Zrs] at hc;have hll:(ar.map iv).length=ar.length:=Zq1 ..;by_cases c1:12 < ar.length
      ·(focus (refine wkad (w_10 e1 m1 e35 e36 e37 gi hlg hll @Zap hlt2) w_t w_t ?_;(repeat' first|exact w_t|apply w_l);all_goals intros));all_goals exact gL
      ·by_cases c2:4 < l.length
       ·(focus (refine wkad (w_10 e1 m1 e35 e36 e37 gi hlg hll @Zap hlt2) w_t w_t ?_;(repeat' first|exact w_t|apply w_l);all_goals intros));all_goals exact gL
       ·have c3:4 < d.length:=zo;(focus (refine wkad (w_10 e1 m1 e35 e36 e37 gi hlg hll @Zap hlt2) w_t w_t ?_;(repeat' first|exact w_t|apply w_l);all_goals intros));all_goals exact gL
    ·have hii:i=gs.length:=zo;subst hii;rw [Zqp (p:=Zf3) λj hj=>hn j hj hj,Zs0];have hnl:¬(gs.length:Int) < (gs.length:Int):=zo;by_cases c1:ss.length≤60
     ·rw [Zqz c1,Zs0];by_cases c2:gs.length≤12
      ·rw [Zqz c2];(focus (refine wkad (w_8 e1 m1 e35 e36 e37 hlg hls hnl) w_t w_t ?_;(repeat' first|exact w_t|apply w_l);all_goals intros));all_goals exact gL
      ·rw [Zqy c2];(focus (refine wkad (w_8 e1 m1 e35 e36 e37 hlg hls hnl) w_t w_t ?_;(repeat' first|exact w_t|apply w_l);all_goals intros));all_goals exact gL
     ·rw [Zqy c1,Zr3];(focus (refine wkad (w_8 e1 m1 e35 e36 e37 hlg hls hnl) w_t w_t ?_;(repeat' first|exact w_t|apply w_l);all_goals intros));all_goals exact gL
   ·exact⟨Zre _,⟨gW e1,gW m1⟩,gC,gW hlg,gC,λj h hj=>zo⟩
 ·exact⟨Zre _,⟨gC,gC⟩,gC,gW hls,gC,λj h hj=>zo⟩
theorem lwSame (l:List Pr) (hl:l.length≤10000):Pure prog 7 [.sl 2 (l.map prA),.sl 2 (l.map prA)] (.v (.bool true)):=by
 have hll:(l.map prA).length=l.length:=Zq1 ..;have kA:∀j (h:j < l.length),(l.map prA).getD j .u=.agg [iv l[j].1,iv l[j].2]:=λj h=>Zah prA h;generalize hM:l.map prA=M at *;refine pI func7 rfl ntmps7 results7 call7 ?_;(focus (refine wkad (w_1 hll) w_t w_t ?_;(repeat' first|exact w_t|apply w_l);all_goals intros));refine Zai (ι:=Nat) (λi e m=>i≤l.length∧e 0=.sl 2 M∧e 1=.sl 2 M∧e 12=iv l.length∧e 13=iv i) (λi=>l.length - i) 0 zr ?_ ?_
 ·rintro i e m ⟨hi,e0,e1,e12,e13⟩
  by_cases hlt:i < l.length
  ·have gi:=kA i hlt;(focus (refine wkad (w_6 e0 e1 e12 e13 gi hll) w_t w_t ?_;(repeat' first|exact w_t|apply w_l);all_goals intros));exact⟨i+1,⟨zo,gW e0,gW e1,gW e12,gS⟩,zo⟩
  ·have hii:i=l.length:=zo;subst hii;(focus (refine wkad (w_5 e0 e1 e12 e13 hll) w_t w_t ?_;(repeat' first|exact w_t|apply w_l);all_goals intros));all_goals exact gL
 ·exact⟨Zre _,gC,gC,gW hll,gC⟩
theorem lwLines0 (M N:List AV) (cf:Pure prog 4 [.agg [.sl 6 M,.sl 5 N]] (.v (.bool false))):Pure prog 3 [.agg [.sl 6 M,.sl 5 N]] (.v (.bool true)):=by
 refine pI func3 rfl ntmps3 results3 call3 ?_;(focus (refine wkld w_t (w_1 cf) w_t w_t ?_;(repeat' first|exact w_t|apply w_l);all_goals intros))
theorem Zm5 (M N L:List AV) (z:Int) (cf:Pure prog 4 [.agg [.sl 6 M,.sl 5 N]] (.v (.bool true)))
 (c1:Pure prog 5 [.agg [.sl 6 M,.sl 5 N]] (.tup [.sl 2 L,iv z])) (c2:Pure prog 6 [.agg [.sl 6 M,.sl 5 N]] (.tup [.sl 2 L,iv z]))
 (cs:Pure prog 7 [.sl 2 L,.sl 2 L] (.v (.bool true))):Pure prog 3 [.agg [.sl 6 M,.sl 5 N]] (.v (.bool true)):=by
 refine pI func3 rfl ntmps3 results3 call3 ?_;(focus (refine wkld w_t (w_4 cf c1 c2 cs) w_t w_t ?_;(repeat' first|exact w_t|apply w_l);all_goals intros))
theorem lawLines (ss:List RS) (gs:List RG) (h1:ss.length≤maxLen) (h2:gs.length≤maxLen) (hs:∀s∈ss,Zf2 s=true→s.sm) (hg:∀g∈gs,Zf3 g=true→g.sm):Pure prog 3 [figA ss gs] (.v (.bool true)):=by
 have cf:=lwFit45 ss gs h1 h2
 cases hf:fit45 ss gs with
 | false =>
   rw [hf] at cf;exact lwLines0 _ _ cf
 | true =>
   rw [hf] at cf;unfold fit45 at hf;simp only [Zrh,Zrs,Ztf] at hf;obtain⟨a1,a2,a3,a4⟩:=hf;have sm:∀s∈ss,s.sm:=λs h=>hs s h (a1 s h);have gm:∀g∈gs,g.sm:=λg h=>hg g h (a2 g h);have cR:=lwRight ss gs zo zo sm gm;have cL:=rlRight ss gs zo zo sm gm;by_cases h:figE ss gs=0
   ·have ok:=lnOk h;rw [h] at cR cL;have r1:=Zhe (Zbu ss gs) ss.length ss.length;have r3:ss.length*ss.length≤40*40:=Zun ok.l1 ok.l1;exact Zm5 _ _ _ 0 cf (drLines1 ss gs cR ok) (rfLines1 ss gs cL ok) (lwSame _ zo)
   ·exact Zm5 _ _ [] _ cf (drLines0 ss gs cR h) (rfLines0 ss gs cL h) (lwSame [] zs)
theorem saidLines (xs:List AV) (h:ShapeL prog maxLen 9 [25] xs):Pure prog 3 xs (.v (.bool true)):=by
 obtain⟨x,bs,rfl,h1,h⟩:=h.inv;obtain rfl:=h.inv0;obtain⟨ss,gs,e,hl,kl,hq,kq⟩:=shFigure h1;rw [e];refine lawLines ss gs hl kl (λs hs hf=>?_) (λg hg hf=>?_)
 ·obtain⟨⟨a,b,_,_⟩,c,_⟩:=hq s hs;unfold Zf2 at hf;simp only [Zsp,Zth,Zs4] at hf;obtain⟨⟨d1,d2⟩,d3⟩:=hf;exact⟨⟨a,b,zo,zo⟩,c,zo⟩
 ·obtain⟨⟨a,b,_,_⟩,_⟩:=kq g hg;unfold Zf3 at hf;simp only [Zsp,Zth,Zs4] at hf;obtain⟨⟨d1,d2⟩,d3⟩:=hf;exact⟨⟨a,b,zo,zo⟩,zo⟩
end Go.Proofs.Ytaedgaikloifgaa
