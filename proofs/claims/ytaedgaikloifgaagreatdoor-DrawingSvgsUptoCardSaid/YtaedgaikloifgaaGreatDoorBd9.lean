/- Contracts of the functions that the law reaches, and the rules by which they are walked. They say what a call hands back for every input within the bounds that each names; no other condition. -/
import Derived.Test.YtaedgaikloifgaaGreatDoorBd8
set_option linter.unusedSimpArgs false
set_option linter.unusedVariables false
set_option maxRecDepth 20000
set_option maxHeartbeats 16000000
namespace Go.Proofs.YtaedgaikloifgaaGreatDoor
open Go Go.RowKit Go.Pg Go.Pol Go.Proofs.Tryz
attribute [-bool_to_prop] Bool.and_eq_decide Bool.or_eq_decide Bool.decide_beq_decide decide_eq_decide
attribute [local go_sem] Zec Zdl Zdu Zca Zcc Zcb Zcg Zcj Zd6 Zch Zck Zd7 Zeb Zd9 Zd8 Zea eqP2 Zen Zey rg2
def AgrB (t:Nat) (m σ:Mem):Prop:=∀k,k+1000≠t→m (k+1000)=(σ k).map Ent.sh
theorem AgrB.of {t:Nat} {m σ:Mem} (h:Agr m σ):AgrB t m σ:=λk _=>h k
theorem AgrB.own {t:Nat} {m σ:Mem} (h:AgrB t m σ) {j:Nat} {x:Option Ent} (hj:j < 1000):AgrB t (upd m j x) σ:=λk hk=>by
 rw [Zak,Zv5 zo];exact h k hk
theorem AgrB.at {t:Nat} {m σ:Mem} (h:AgrB t m σ) {x:Option Ent}:AgrB t (upd m t x) σ:=λk hk=>by
 rw [Zak,Zv5 hk];exact h k hk
theorem AgrB.put {t:Nat} {m σ:Mem} (h:AgrB t m σ) {j k:Nat} {e e':Ent} (hj:j=k+1000) (he:e'=e.sh):AgrB t (upd m j (some e')) (upd σ k (some e)):=λq hq=>by
 subst hj;subst he;rw [Zak,Zak];by_cases hc:q=k
 ·subst hc;rw [Zv6 rfl,Zv6 rfl];rfl
 ·rw [Zv5 zo,Zv5 hc];exact h q hq
theorem AgrB.close {t:Nat} {m σ:Mem} (h:AgrB t m σ) {k:Nat} {e e':Ent} (hk:σ k=some e) (ht:t=k+1000) (he:e'=e.sh):Agr (upd m t (some e')) σ:=λq=>by
 rw [Zak];by_cases hc:q+1000=t
 ·have:q=k:=zo;subst this;rw [Zv6 hc,hk,he];rfl
 ·rw [Zv5 hc];exact h q hc
theorem aE {P:Program} {n p t:Nat} {code:Code} {K:AE→St→Prop} {x X:AV} {m:Mem} {E:Nat→AV} (h5:E t=X) (h:∀E',E' t=X→Zat P 0 n code K ⟨upd E' p x,m⟩):Zat P 0 n code K ⟨upd E p x,m⟩:=h E h5
theorem drLines0 (ss:List RS) (gs:List RG) (cR:Pure prog 29 [figA ss gs] (iv (figE ss gs))) (h:figE ss gs≠0):Pure prog 10 [figA ss gs] (.tup [.sl 2 [],iv (figE ss gs)]):=by
 refine Zcx (r:=.tup [.v (.slice none 0 0),iv (figE ss gs)]) ?_ (Vk.tupL (.cons (.nil 2) (.cons (.refl _) .nil)));have cR:Pure prog 29 [.agg [.sl 6 (ss.map RS.av),.sl 5 (gs.map RG.av)]] (iv (figE ss gs)):=cR;show Pure _ _ [.agg [.sl 6 (ss.map RS.av),.sl 5 (gs.map RG.av)]] _;generalize figE ss gs=z at *;generalize ss.map RS.av=M at *;generalize gs.map RG.av=N at *;refine pI func10 rfl ntmps10 results10 call10 ?_;(focus (refine wkld w_t (w_1 cR) w_t w_t ?_;(repeat' first|exact w_t|apply w_l);all_goals intros))
theorem drLines1 (ss:List RS) (gs:List RG) (cR:Pure prog 29 [figA ss gs] (iv 0)) (ok:LnOk ss gs):Pure prog 10 [figA ss gs] (.tup [.sl 2 ((Zdi (Zcf ss gs) ss.length ss.length).map prA),iv 0]):=by
 have cR:Pure prog 29 [.agg [.sl 6 (ss.map RS.av),.sl 5 (gs.map RG.av)]] (iv 0):=cR;have cP:=Zvf (ss.map RS.av) (gs.map RG.av) 31 32;have cI:=λl σ J=>prIt l ss gs σ J ok.l1 ok.l2 ok.hs ok.hg;show Pure _ _ [.agg [.sl 6 (ss.map RS.av),.sl 5 (gs.map RG.av)]] _;generalize ss.map RS.av=M at *;generalize gs.map RG.av=N at *;refine Zk1 200 func10 rfl ntmps10 results10 call10 zs ?_;refine Zha zr ?_;(focus (refine wkad w_t w_t w_t ?_;(repeat' first|exact w_t|apply w_l);all_goals intros));refine Zha zr ?_;(focus (refine wkad w_t (w_1 cR) w_t ?_;(repeat' first|exact w_t|apply w_l);all_goals intros))
 refine Zha zr ?_;(focus (refine wkad w_t w_t w_t ?_;(repeat' first|exact w_t|apply w_l);all_goals intros));refine Zsx ?_;refine Zha zr ?_;(focus (refine wkad w_t (w_1 cP) w_t ?_;(repeat' first|exact w_t|apply w_l);all_goals intros));rename_i g1 g5;refine Zp1 ?_;refine xw_frz (Frz.nilBox (k:=5) (g:=g5) (bt:=51) (cs:=[.v (.slice none 0 0)]) 0 105 2 64 (gC) rfl zd) ?_;refine Zsy 200 201 zd (gC) zd zr zr ?_;intro D l RR RB hround;have hAll:∀j,(Zcf ss gs).take j=(Zcf ss gs).take j:=λ_=>rfl;refine(Zoj (.cons (Sub.refl _) (.cons (Sub.refl _) (.cons (Zlr _) (.cons (Zlr _) .nil)))) (cI l _ (λj σ'=>∃sv,σ' 5=some (.box g5 51 [.own 105 sv] false)∧σ' 105=some (.row sv 64 2 ((oris ((Zcf ss gs).take j)).map prA) 0)∧σ' 200=some (.obj D (.deferred (some [])))∧σ' 201=some (.obj l RR)) ?_ ?_)).mono ?_
 ·intro j p hp m σ' hAg ⟨sv,h5,h105,h200,h201⟩;have ho:=Zul hp;have hl0:=Zl4 ((Zcf ss gs).take j);have hl1:((Zcf ss gs).take j).length≤152:=by rw [Zws];have:=ok.len;omega
  have hl2:((oris ((Zcf ss gs).take j)).map prA).length≤152:=by rw [Zv9];omega
  have at_:∀{k:Nat} {e:Ent},σ' k=some e→m (k+1000)=some e.sh:=λhk=>by rw [hAg,hk];rfl
  have m5:=at_ h5;have m105:=at_ h105;have m201:=at_ h201;have L5:=Zb1 m5;have L105:=Zb1 m105;have L201:=Zb1 m201;simp only [Ent.sh,AV.shL,AV.sh,Nat.reduceAdd] at m5 m105 m201 L5 L105 L201;refine hround m (prA p) _ m201 ?_;clear hround cI cR cP ok;refine aE (t:=5) (X:=.pbox 2005 g5 0) rfl λE e5=>?_;obtain⟨a,b⟩:=p;show Zat _ _ _ _ _ ⟨upd E 14 (.agg [iv a,iv b]),_⟩;have fin:∀(sv2:Value) (M1:Mem),oris ((Zcf ss gs).take (j+1))=oris ((Zcf ss gs).take (j+1))→True:=λ_ _ _=>trivial;generalize hT:oris ((Zcf ss gs).take j)=T at *;obtain⟨mm,hmm⟩:∃mm,mm=lents m:=⟨_,rfl⟩;rw [←hmm] at L5 L105 L201 ⊢
  by_cases hab:a < b
  ·(repeat' (first|(with_reducible first|refine stp ?_|apply gx1|apply gx2|apply gx3|apply gx4|apply gx5|apply gx6|apply gx7|apply gy8|apply gz2|apply gz3)|(with_reducible refine Zbt ?_;intro _)|((with_reducible refine gE ?_);(try simp (disch:=omega) only [go_sem,e5,L5,L105,L201,hab,hl2,Zv8,Zv7,Zv6,Zv5,Int.reduceAdd,Int.reduceSub,Int.reduceToNat,Zwc])<;>first|rfl|omega)|with_reducible refine Zae zd ?_|((with_reducible apply gy1);iterate 3 focus rfl)|((with_reducible apply gy2);iterate 3 focus rfl)|((with_reducible apply gy3);iterate 2 focus rfl)|((with_reducible apply gy4);iterate 1 focus rfl)|((with_reducible apply gy5);iterate 4 focus rfl)|((with_reducible apply gy5c);iterate 4 focus rfl)|((with_reducible apply gy6);iterate 4 focus rfl)|((with_reducible apply Zdq);iterate 3 focus rfl)|((with_reducible apply Zdn);iterate 1 focus rfl)|((with_reducible apply gy7);iterate 1 focus rfl)|((with_reducible apply gy9);(focus ((with_reducible refine gE ?_);(try simp (disch:=omega) only [go_sem,e5,L5,L105,L201,hab,hl2,Zv8,Zv7,Zv6,Zv5,Int.reduceAdd,Int.reduceSub,Int.reduceToNat,Zwc])<;>rfl)))|((with_reducible apply gz1);(focus first|rfl|(simp (disch:=omega) only [go_sem,e5,L5,L105,L201,hab,hl2,Zv8,Zv7,Zv6,Zv5,Int.reduceAdd,Int.reduceSub,Int.reduceToNat,Zwc];done)))|((with_reducible apply Zal (Za3 []) [] []);(focus kernel_rfl);(focus rfl);(focus kernel_rfl);(focus (simp only [Zwd,Zwi,Nat.reduceAdd];rfl)))|((with_reducible first|apply Zbe|apply Zbu|apply Zbf);all_goals (intro hc;(try simp only [bool_to_prop] at hc);try (exfalso;omega)))))
   refine⟨rfl,by(simp (disch:=omega) only [go_sem,L201]<;>repeat' first|rfl|refine⟨?_,?_⟩),?_⟩
   (repeat' (first|(with_reducible first|refine stp ?_|apply gx1|apply gx2|apply gx3|apply gx4|apply gx5|apply gx6|apply gx7|apply gy8|apply gz2|apply gz3)|(with_reducible refine Zbt ?_;intro _)|((with_reducible refine gE ?_);(try simp (disch:=omega) only [go_sem,e5,L5,L105,L201,hab,hl2,Zv8,Zv7,Zv6,Zv5,Int.reduceAdd,Int.reduceSub,Int.reduceToNat,Zwc])<;>first|rfl|omega)|with_reducible refine Zae zd ?_|((with_reducible apply gy1);iterate 3 focus rfl)|((with_reducible apply gy2);iterate 3 focus rfl)|((with_reducible apply gy3);iterate 2 focus rfl)|((with_reducible apply gy4);iterate 1 focus rfl)|((with_reducible apply gy5);iterate 4 focus rfl)|((with_reducible apply gy5c);iterate 4 focus rfl)|((with_reducible apply gy6);iterate 4 focus rfl)|((with_reducible apply Zdq);iterate 3 focus rfl)|((with_reducible apply Zdn);iterate 1 focus rfl)|((with_reducible apply gy7);iterate 1 focus rfl)|((with_reducible apply gy9);(focus ((with_reducible refine gE ?_);(try simp (disch:=omega) only [go_sem,e5,L5,L105,L201,hab,hl2,Zv8,Zv7,Zv6,Zv5,Int.reduceAdd,Int.reduceSub,Int.reduceToNat,Zwc])<;>rfl)))|((with_reducible apply gz1);(focus first|rfl|(simp (disch:=omega) only [go_sem,e5,L5,L105,L201,hab,hl2,Zv8,Zv7,Zv6,Zv5,Int.reduceAdd,Int.reduceSub,Int.reduceToNat,Zwc];done)))|((with_reducible apply Zal (Za3 []) [] []);(focus kernel_rfl);(focus rfl);(focus kernel_rfl);(focus (simp only [Zwd,Zwi,Nat.reduceAdd];rfl)))|((with_reducible first|apply Zbe|apply Zbu|apply Zbf);all_goals (intro hc;(try simp only [bool_to_prop] at hc);try (exfalso;omega)))))
   rename_i g6 r23 sv2;have ho:oris ((Zcf ss gs).take (j+1))=T++[(a,b)]:=by rw [ho];unfold ori;simp only;first|rw [Zv6 hab]|rw [Zv5 hab,Zv6 hba]
   refine⟨rfl,gC,.v (.bool true),upd (upd m 1105 (some (.row sv2 64 2 (T.map prA++[prA (a,b)]) 0))) 1005 (some (.box g5 51 [.own 1105 sv2] false)),Sub.refl _,⟨rfl,upd (upd σ' 105 (some (.row sv2 64 2 (T.map prA++[prA (a,b)]) 0))) 5 (some (.box g5 51 [.own 105 sv2] false)),by(refine Agr.put ?_ rfl rfl;refine Agr.put hAg rfl rfl),sv2,by rw [Zak,Zv6 rfl],by rw [Zak,Zv5 zd,Zak,Zv6 rfl,ho,Zye];rfl,by rw [Zak,Zv5 zd,Zak,Zv5 zd];exact h200,by rw [Zak,Zv5 zd,Zak,Zv5 zd];exact h201⟩,?_⟩;refine AgrB.close (k:=1201) (e:=.obj l RR) ?_ (by rw [Zak,Zv5 zd,Zak,Zv5 zd];exact m201) rfl rfl
   refine AgrB.put ?_ rfl rfl;refine AgrB.put ?_ rfl rfl
   (repeat' (first|(exact AgrB.of (by rw [hmm];exact Agr.start m))|(refine AgrB.own ?_ zo)|(refine AgrB.at ?_)))
  ·by_cases hba:a > b
   ·(repeat' (first|(with_reducible first|refine stp ?_|apply gx1|apply gx2|apply gx3|apply gx4|apply gx5|apply gx6|apply gx7|apply gy8|apply gz2|apply gz3)|(with_reducible refine Zbt ?_;intro _)|((with_reducible refine gE ?_);(try simp (disch:=omega) only [go_sem,e5,L5,L105,L201,hab,hba,hl2,Zv8,Zv7,Zv6,Zv5,Int.reduceAdd,Int.reduceSub,Int.reduceToNat,Zwc])<;>first|rfl|omega)|with_reducible refine Zae zd ?_|((with_reducible apply gy1);iterate 3 focus rfl)|((with_reducible apply gy2);iterate 3 focus rfl)|((with_reducible apply gy3);iterate 2 focus rfl)|((with_reducible apply gy4);iterate 1 focus rfl)|((with_reducible apply gy5);iterate 4 focus rfl)|((with_reducible apply gy5c);iterate 4 focus rfl)|((with_reducible apply gy6);iterate 4 focus rfl)|((with_reducible apply Zdq);iterate 3 focus rfl)|((with_reducible apply Zdn);iterate 1 focus rfl)|((with_reducible apply gy7);iterate 1 focus rfl)|((with_reducible apply gy9);(focus ((with_reducible refine gE ?_);(try simp (disch:=omega) only [go_sem,e5,L5,L105,L201,hab,hba,hl2,Zv8,Zv7,Zv6,Zv5,Int.reduceAdd,Int.reduceSub,Int.reduceToNat,Zwc])<;>rfl)))|((with_reducible apply gz1);(focus first|rfl|(simp (disch:=omega) only [go_sem,e5,L5,L105,L201,hab,hba,hl2,Zv8,Zv7,Zv6,Zv5,Int.reduceAdd,Int.reduceSub,Int.reduceToNat,Zwc];done)))|((with_reducible apply Zal (Za3 []) [] []);(focus kernel_rfl);(focus rfl);(focus kernel_rfl);(focus (simp only [Zwd,Zwi,Nat.reduceAdd];rfl)))|((with_reducible first|apply Zbe|apply Zbu|apply Zbf);all_goals (intro hc;(try simp only [bool_to_prop] at hc);try (exfalso;omega)))))
    refine⟨rfl,by(simp (disch:=omega) only [go_sem,L201]<;>repeat' first|rfl|refine⟨?_,?_⟩),?_⟩
    (repeat' (first|(with_reducible first|refine stp ?_|apply gx1|apply gx2|apply gx3|apply gx4|apply gx5|apply gx6|apply gx7|apply gy8|apply gz2|apply gz3)|(with_reducible refine Zbt ?_;intro _)|((with_reducible refine gE ?_);(try simp (disch:=omega) only [go_sem,e5,L5,L105,L201,hab,hba,hl2,Zv8,Zv7,Zv6,Zv5,Int.reduceAdd,Int.reduceSub,Int.reduceToNat,Zwc])<;>first|rfl|omega)|with_reducible refine Zae zd ?_|((with_reducible apply gy1);iterate 3 focus rfl)|((with_reducible apply gy2);iterate 3 focus rfl)|((with_reducible apply gy3);iterate 2 focus rfl)|((with_reducible apply gy4);iterate 1 focus rfl)|((with_reducible apply gy5);iterate 4 focus rfl)|((with_reducible apply gy5c);iterate 4 focus rfl)|((with_reducible apply gy6);iterate 4 focus rfl)|((with_reducible apply Zdq);iterate 3 focus rfl)|((with_reducible apply Zdn);iterate 1 focus rfl)|((with_reducible apply gy7);iterate 1 focus rfl)|((with_reducible apply gy9);(focus ((with_reducible refine gE ?_);(try simp (disch:=omega) only [go_sem,e5,L5,L105,L201,hab,hba,hl2,Zv8,Zv7,Zv6,Zv5,Int.reduceAdd,Int.reduceSub,Int.reduceToNat,Zwc])<;>rfl)))|((with_reducible apply gz1);(focus first|rfl|(simp (disch:=omega) only [go_sem,e5,L5,L105,L201,hab,hba,hl2,Zv8,Zv7,Zv6,Zv5,Int.reduceAdd,Int.reduceSub,Int.reduceToNat,Zwc];done)))|((with_reducible apply Zal (Za3 []) [] []);(focus kernel_rfl);(focus rfl);(focus kernel_rfl);(focus (simp only [Zwd,Zwi,Nat.reduceAdd];rfl)))|((with_reducible first|apply Zbe|apply Zbu|apply Zbf);all_goals (intro hc;(try simp only [bool_to_prop] at hc);try (exfalso;omega)))))
    rename_i g6 r23 sv2;have ho:oris ((Zcf ss gs).take (j+1))=T++[(b,a)]:=by rw [ho];unfold ori;simp only;first|rw [Zv6 hab]|rw [Zv5 hab,Zv6 hba]
    refine⟨rfl,gC,.v (.bool true),upd (upd m 1105 (some (.row sv2 64 2 (T.map prA++[prA (b,a)]) 0))) 1005 (some (.box g5 51 [.own 1105 sv2] false)),Sub.refl _,⟨rfl,upd (upd σ' 105 (some (.row sv2 64 2 (T.map prA++[prA (b,a)]) 0))) 5 (some (.box g5 51 [.own 105 sv2] false)),by(refine Agr.put ?_ rfl rfl;refine Agr.put hAg rfl rfl),sv2,by rw [Zak,Zv6 rfl],by rw [Zak,Zv5 zd,Zak,Zv6 rfl,ho,Zye];rfl,by rw [Zak,Zv5 zd,Zak,Zv5 zd];exact h200,by rw [Zak,Zv5 zd,Zak,Zv5 zd];exact h201⟩,?_⟩;refine AgrB.close (k:=1201) (e:=.obj l RR) ?_ (by rw [Zak,Zv5 zd,Zak,Zv5 zd];exact m201) rfl rfl
    refine AgrB.put ?_ rfl rfl;refine AgrB.put ?_ rfl rfl
    (repeat' (first|(exact AgrB.of (by rw [hmm];exact Agr.start m))|(refine AgrB.own ?_ zo)|(refine AgrB.at ?_)))
   ·(repeat' (first|(with_reducible first|refine stp ?_|apply gx1|apply gx2|apply gx3|apply gx4|apply gx5|apply gx6|apply gx7|apply gy8|apply gz2|apply gz3)|(with_reducible refine Zbt ?_;intro _)|((with_reducible refine gE ?_);(try simp (disch:=omega) only [go_sem,e5,L5,L105,L201,hab,hba,hl2,Zv8,Zv7,Zv6,Zv5,Int.reduceAdd,Int.reduceSub,Int.reduceToNat,Zwc])<;>first|rfl|omega)|with_reducible refine Zae zd ?_|((with_reducible apply gy1);iterate 3 focus rfl)|((with_reducible apply gy2);iterate 3 focus rfl)|((with_reducible apply gy3);iterate 2 focus rfl)|((with_reducible apply gy4);iterate 1 focus rfl)|((with_reducible apply gy5);iterate 4 focus rfl)|((with_reducible apply gy5c);iterate 4 focus rfl)|((with_reducible apply gy6);iterate 4 focus rfl)|((with_reducible apply Zdq);iterate 3 focus rfl)|((with_reducible apply Zdn);iterate 1 focus rfl)|((with_reducible apply gy7);iterate 1 focus rfl)|((with_reducible apply gy9);(focus ((with_reducible refine gE ?_);(try simp (disch:=omega) only [go_sem,e5,L5,L105,L201,hab,hba,hl2,Zv8,Zv7,Zv6,Zv5,Int.reduceAdd,Int.reduceSub,Int.reduceToNat,Zwc])<;>rfl)))|((with_reducible apply gz1);(focus first|rfl|(simp (disch:=omega) only [go_sem,e5,L5,L105,L201,hab,hba,hl2,Zv8,Zv7,Zv6,Zv5,Int.reduceAdd,Int.reduceSub,Int.reduceToNat,Zwc];done)))|((with_reducible apply Zal (Za3 []) [] []);(focus kernel_rfl);(focus rfl);(focus kernel_rfl);(focus (simp only [Zwd,Zwi,Nat.reduceAdd];rfl)))|((with_reducible first|apply Zbe|apply Zbu|apply Zbf);all_goals (intro hc;(try simp only [bool_to_prop] at hc);try (exfalso;omega)))))
    refine⟨rfl,by(simp (disch:=omega) only [go_sem,L201]<;>repeat' first|rfl|refine⟨?_,?_⟩),?_⟩
    (repeat' (first|(with_reducible first|refine stp ?_|apply gx1|apply gx2|apply gx3|apply gx4|apply gx5|apply gx6|apply gx7|apply gy8|apply gz2|apply gz3)|(with_reducible refine Zbt ?_;intro _)|((with_reducible refine gE ?_);(try simp (disch:=omega) only [go_sem,e5,L5,L105,L201,hab,hba,hl2,Zv8,Zv7,Zv6,Zv5,Int.reduceAdd,Int.reduceSub,Int.reduceToNat,Zwc])<;>first|rfl|omega)|with_reducible refine Zae zd ?_|((with_reducible apply gy1);iterate 3 focus rfl)|((with_reducible apply gy2);iterate 3 focus rfl)|((with_reducible apply gy3);iterate 2 focus rfl)|((with_reducible apply gy4);iterate 1 focus rfl)|((with_reducible apply gy5);iterate 4 focus rfl)|((with_reducible apply gy5c);iterate 4 focus rfl)|((with_reducible apply gy6);iterate 4 focus rfl)|((with_reducible apply Zdq);iterate 3 focus rfl)|((with_reducible apply Zdn);iterate 1 focus rfl)|((with_reducible apply gy7);iterate 1 focus rfl)|((with_reducible apply gy9);(focus ((with_reducible refine gE ?_);(try simp (disch:=omega) only [go_sem,e5,L5,L105,L201,hab,hba,hl2,Zv8,Zv7,Zv6,Zv5,Int.reduceAdd,Int.reduceSub,Int.reduceToNat,Zwc])<;>rfl)))|((with_reducible apply gz1);(focus first|rfl|(simp (disch:=omega) only [go_sem,e5,L5,L105,L201,hab,hba,hl2,Zv8,Zv7,Zv6,Zv5,Int.reduceAdd,Int.reduceSub,Int.reduceToNat,Zwc];done)))|((with_reducible apply Zal (Za3 []) [] []);(focus kernel_rfl);(focus rfl);(focus kernel_rfl);(focus (simp only [Zwd,Zwi,Nat.reduceAdd];rfl)))|((with_reducible first|apply Zbe|apply Zbu|apply Zbf);all_goals (intro hc;(try simp only [bool_to_prop] at hc);try (exfalso;omega)))))
    have ho:oris ((Zcf ss gs).take (j+1))=T:=by rw [ho];unfold ori;simp only;rw [Zv5 hab,Zv5 hba,Zxl]
    refine⟨rfl,gC,.v (.bool true),m,Sub.refl _,⟨rfl,σ',hAg,sv,h5,by rw [ho];exact h105,h200,h201⟩,?_⟩;refine AgrB.close (k:=1201) (e:=.obj l RR) ?_ m201 rfl rfl
    (repeat' (first|(exact AgrB.of (by rw [hmm];exact Agr.start m))|(refine AgrB.own ?_ zo)|(refine AgrB.at ?_)))
 ·have e0:oris ((Zcf ss gs).take 0)=[]:=rfl;exact⟨.slice none 0 0,gC,by rw [e0];exact gC,gC,gC⟩
 ·rintro r σ' ⟨sv,h5,h105,h200,h201⟩
  rw [Zza] at h105;refine⟨h201,?_⟩;refine Zsz zr ?_;have hsm:∀p∈oris (Zcf ss gs),smP p:=λp hp=>by
   have hl:=ok.l1;obtain⟨_,h | h⟩:=Zqr.1 hp
   ·obtain⟨a,b,c,d⟩:=ok.b _ h;exact⟨a,zo,c,zo⟩
   ·obtain⟨a,b,c,d⟩:=ok.b _ h;simp only at a b c d;exact⟨c,zo,a,zo⟩
  have hlen:(oris (Zcf ss gs)).length < 256:=by have:=Zl4 (Zcf ss gs);have:=ok.len;omega
  have q5:upd σ' 201 none 5=some (.box g5 51 [.own 105 sv] false):=by rw [Zak,Zv5 zd];exact h5
  have q105:upd σ' 201 none 105=some (.row sv 64 2 ((oris (Zcf ss gs)).map prA) 0):=by rw [Zak,Zv5 zd];exact h105
  have q200:upd σ' 201 none 200=some (.obj D (.deferred (some []))):=by rw [Zak,Zv5 zd];exact h200
  clear hround cI cR cP hAll;generalize upd σ' 201 none=σ1 at *;have co:=Zob σ1 105 sv _ q105 hlen hsm;(focus (refine wkad (w_1 q5) w_t w_t ?_;(repeat' first|exact w_t|apply w_l);all_goals intros));refine Zfv co ?_
  rintro r2 σ2 ⟨l',p1,p2,hC⟩
  have hln:=lines_eq ok.b p1 p2;rw [←hln];rcases hC with⟨hd,rfl,rfl⟩ | ⟨hle,rfl,rfl⟩
  ·rw [hd];(focus (refine wkad w_t w_t w_t ?_;(repeat' first|exact w_t|apply w_l);all_goals intros));refine .inr ⟨D,rfl,gW q200,?_⟩;generalize l'.map prA=LA at *;clear q5 q105 q200 co;(focus (refine wkad w_t w_t w_t ?_;(repeat' first|exact w_t|apply w_l);all_goals intros));all_goals exact gL
  ·(focus (refine wkad w_t w_t w_t ?_;(repeat' first|exact w_t|apply w_l);all_goals intros));refine .inr ⟨D,rfl,gW q200,?_⟩
   have hz:((Zav l').map prA++List.replicate (l'.length - (Zav l').length) (AV.agg [iv 0,iv 0])).take (Zav l').length=(Zav l').map prA:=by
    rw [List.take_append_of_le_length (by rw [Zv9];exact Zwa _),Zxj (by rw [Zv9];exact Zwa _)]
   generalize hF:(Zav l').map prA++List.replicate (l'.length - (Zav l').length) (AV.agg [iv 0,iv 0])=F at *;clear q5 q105 q200 co;generalize (Zav l').length=w at *;generalize (Zav l').map prA=LA at *;have hz0:F.take (0+w)=LA:=by rw [Zwz];exact hz
   (focus (refine wkad (w_1 hz0) w_t w_t ?_;(repeat' first|exact w_t|apply w_l);all_goals intros));all_goals exact gM (w_1 hz0)
theorem Zro {all:List Pr} {j:Nat} {p:Pr} (h:all[j]?=some p):all.take (j+1)=all.take j++[p]:=by
 rw [Zz4,h];rfl
theorem Zvh (ss:List RS) (gs:List RG) (ok:LnOkC ss gs):Pure prog 17 [figA ss gs] (.sl 2 ((refC (Zb8 ss gs) ss.length ss.length).map prA)):=by
 have cP:=Zvf (ss.map RS.av) (gs.map RG.av) 46 47;have cI:=λl σ J=>prItC l ss gs σ J ok.l1 ok.l2 ok.hs ok.hg;show Pure _ _ [.agg [.sl 6 (ss.map RS.av),.sl 5 (gs.map RG.av)]] _;generalize ss.map RS.av=M at *;generalize gs.map RG.av=N at *;refine Zk1 200 func17 rfl ntmps17 results17 call17 zs ?_;refine Zha zr ?_;(focus (refine wkad w_t w_t w_t ?_;(repeat' first|exact w_t|apply w_l);all_goals intros));refine Zha zr ?_;(focus (refine wkad w_t w_t w_t ?_;(repeat' first|exact w_t|apply w_l);all_goals intros));refine Zsx ?_;refine Zha zr ?_;(focus (refine wkad w_t (w_1 cP) w_t ?_;(repeat' first|exact w_t|apply w_l);all_goals intros))
 rename_i g1 g5;refine Zp1 ?_;refine xw_frz (Frz.nilBox (k:=3) (g:=g5) (bt:=51) (cs:=[.v (.slice none 0 0)]) 0 105 2 64 (gC) rfl zd) ?_;refine Zsy 200 201 zd (gC) zd zr zr ?_;intro D l RR RB hround;refine(Zoj (.cons (Sub.refl _) (.cons (Sub.refl _) (.cons (Zlr _) (.cons (Zlr _) .nil)))) (cI l _ (λj σ'=>∃sv,σ' 3=some (.box g5 51 [.own 105 sv] false)∧σ' 105=some (.row sv 64 2 (((Zb8 ss gs).take j).map prA) 0)∧σ' 200=some (.obj D (.deferred (some [])))∧σ' 201=some (.obj l RR)) ?_ ?_)).mono ?_
 ·intro j p hp m σ' hAg ⟨sv,h5,h105,h200,h201⟩;have ho:=Zro hp;have hl1:((Zb8 ss gs).take j).length≤152:=by rw [Zws];have:=ok.len;omega
  have hl2:(((Zb8 ss gs).take j).map prA).length≤152:=by rw [Zv9];omega
  have at_:∀{k:Nat} {e:Ent},σ' k=some e→m (k+1000)=some e.sh:=λhk=>by rw [hAg,hk];rfl
  have m5:=at_ h5;have m105:=at_ h105;have m201:=at_ h201;have L5:=Zb1 m5;have L105:=Zb1 m105;have L201:=Zb1 m201;simp only [Ent.sh,AV.shL,AV.sh,Nat.reduceAdd] at m5 m105 m201 L5 L105 L201;refine hround m (prA p) _ m201 ?_;clear hround cI cP ok;refine aE (t:=3) (X:=.pbox 2003 g5 0) rfl λE e5=>?_;obtain⟨a,b⟩:=p;show Zat _ _ _ _ _ ⟨upd E 7 (.agg [iv a,iv b]),_⟩;generalize hT:(Zb8 ss gs).take j=T at *;obtain⟨mm,hmm⟩:∃mm,mm=lents m:=⟨_,rfl⟩;rw [←hmm] at L5 L105 L201 ⊢
  (repeat' (first|(with_reducible first|refine stp ?_|apply gx1|apply gx2|apply gx3|apply gx4|apply gx5|apply gx6|apply gx7|apply gy8|apply gz2|apply gz3)|(with_reducible refine Zbt ?_;intro _)|((with_reducible refine gE ?_);(try simp (disch:=omega) only [go_sem,e5,L5,L105,L201,hl2,Zv8,Zv7,Zv6,Zv5,Int.reduceAdd,Int.reduceSub,Int.reduceToNat,Zwc])<;>first|rfl|omega)|with_reducible refine Zae zd ?_|((with_reducible apply gy1);iterate 3 focus rfl)|((with_reducible apply gy2);iterate 3 focus rfl)|((with_reducible apply gy3);iterate 2 focus rfl)|((with_reducible apply gy4);iterate 1 focus rfl)|((with_reducible apply gy5);iterate 4 focus rfl)|((with_reducible apply gy5c);iterate 4 focus rfl)|((with_reducible apply gy6);iterate 4 focus rfl)|((with_reducible apply Zdq);iterate 3 focus rfl)|((with_reducible apply Zdn);iterate 1 focus rfl)|((with_reducible apply gy7);iterate 1 focus rfl)|((with_reducible apply gy9);(focus ((with_reducible refine gE ?_);(try simp (disch:=omega) only [go_sem,e5,L5,L105,L201,hl2,Zv8,Zv7,Zv6,Zv5,Int.reduceAdd,Int.reduceSub,Int.reduceToNat,Zwc])<;>rfl)))|((with_reducible apply gz1);(focus first|rfl|(simp (disch:=omega) only [go_sem,e5,L5,L105,L201,hl2,Zv8,Zv7,Zv6,Zv5,Int.reduceAdd,Int.reduceSub,Int.reduceToNat,Zwc];done)))|((with_reducible apply Zal (Za3 []) [] []);(focus kernel_rfl);(focus rfl);(focus kernel_rfl);(focus (simp only [Zwd,Zwi,Nat.reduceAdd];rfl)))|((with_reducible first|apply Zbe|apply Zbu|apply Zbf);all_goals (intro hc;(try simp only [bool_to_prop] at hc);try (exfalso;omega)))))
  refine⟨rfl,by(simp (disch:=omega) only [go_sem,L201]<;>repeat' first|rfl|refine⟨?_,?_⟩),?_⟩
  (repeat' (first|(with_reducible first|refine stp ?_|apply gx1|apply gx2|apply gx3|apply gx4|apply gx5|apply gx6|apply gx7|apply gy8|apply gz2|apply gz3)|(with_reducible refine Zbt ?_;intro _)|((with_reducible refine gE ?_);(try simp (disch:=omega) only [go_sem,e5,L5,L105,L201,hl2,Zv8,Zv7,Zv6,Zv5,Int.reduceAdd,Int.reduceSub,Int.reduceToNat,Zwc])<;>first|rfl|omega)|with_reducible refine Zae zd ?_|((with_reducible apply gy1);iterate 3 focus rfl)|((with_reducible apply gy2);iterate 3 focus rfl)|((with_reducible apply gy3);iterate 2 focus rfl)|((with_reducible apply gy4);iterate 1 focus rfl)|((with_reducible apply gy5);iterate 4 focus rfl)|((with_reducible apply gy5c);iterate 4 focus rfl)|((with_reducible apply gy6);iterate 4 focus rfl)|((with_reducible apply Zdq);iterate 3 focus rfl)|((with_reducible apply Zdn);iterate 1 focus rfl)|((with_reducible apply gy7);iterate 1 focus rfl)|((with_reducible apply gy9);(focus ((with_reducible refine gE ?_);(try simp (disch:=omega) only [go_sem,e5,L5,L105,L201,hl2,Zv8,Zv7,Zv6,Zv5,Int.reduceAdd,Int.reduceSub,Int.reduceToNat,Zwc])<;>rfl)))|((with_reducible apply gz1);(focus first|rfl|(simp (disch:=omega) only [go_sem,e5,L5,L105,L201,hl2,Zv8,Zv7,Zv6,Zv5,Int.reduceAdd,Int.reduceSub,Int.reduceToNat,Zwc];done)))|((with_reducible apply Zal (Za3 []) [] []);(focus kernel_rfl);(focus rfl);(focus kernel_rfl);(focus (simp only [Zwd,Zwi,Nat.reduceAdd];rfl)))|((with_reducible first|apply Zbe|apply Zbu|apply Zbf);all_goals (intro hc;(try simp only [bool_to_prop] at hc);try (exfalso;omega)))))
  rename_i g6 r23 sv2;refine⟨rfl,gC,.v (.bool true),upd (upd m 1105 (some (.row sv2 64 2 (T.map prA++[prA (a,b)]) 0))) 1003 (some (.box g5 51 [.own 1105 sv2] false)),Sub.refl _,⟨rfl,upd (upd σ' 105 (some (.row sv2 64 2 (T.map prA++[prA (a,b)]) 0))) 3 (some (.box g5 51 [.own 105 sv2] false)),by(refine Agr.put ?_ rfl rfl;refine Agr.put hAg rfl rfl),sv2,by rw [Zak,Zv6 rfl],by rw [Zak,Zv5 zd,Zak,Zv6 rfl,ho,Zye];rfl,by rw [Zak,Zv5 zd,Zak,Zv5 zd];exact h200,by rw [Zak,Zv5 zd,Zak,Zv5 zd];exact h201⟩,?_⟩;refine AgrB.close (k:=1201) (e:=.obj l RR) ?_ (by rw [Zak,Zv5 zd,Zak,Zv5 zd];exact m201) rfl rfl
  refine AgrB.put ?_ rfl rfl;refine AgrB.put ?_ rfl rfl
  (repeat' (first|(exact AgrB.of (by rw [hmm];exact Agr.start m))|(refine AgrB.own ?_ zo)|(refine AgrB.at ?_)))
 ·have e0:(Zb8 ss gs).take 0=[]:=rfl;exact⟨.slice none 0 0,gC,by rw [e0];exact gC,gC,gC⟩
 ·rintro r σ' ⟨sv,h5,h105,h200,h201⟩
  rw [Zza] at h105;refine⟨h201,?_⟩;refine Zsz zr ?_;have hsm:∀p∈Zb8 ss gs,smP p:=λp hp=>by
   have hl:=ok.l1;obtain⟨a,b,c,d⟩:=ok.b _ hp;exact⟨a,zo,c,zo⟩
  have hlen:(Zb8 ss gs).length < 256:=by have:=ok.len;omega
  have q5:upd σ' 201 none 3=some (.box g5 51 [.own 105 sv] false):=by rw [Zak,Zv5 zd];exact h5
  have q105:upd σ' 201 none 105=some (.row sv 64 2 ((Zb8 ss gs).map prA) 0):=by rw [Zak,Zv5 zd];exact h105
  have q200:upd σ' 201 none 200=some (.obj D (.deferred (some []))):=by rw [Zak,Zv5 zd];exact h200
  clear hround cI cP;generalize upd σ' 201 none=σ1 at *;have co:=Zob σ1 105 sv _ q105 hlen hsm;(focus (refine wkad (w_1 q5) w_t w_t ?_;(repeat' first|exact w_t|apply w_l);all_goals intros));refine Zfv co ?_
  rintro r2 σ2 ⟨l',p1,p2,hC⟩
  have hln:=Zsl ok.b p1 p2;rw [←hln];rcases hC with⟨hd,rfl,rfl⟩ | ⟨hle,rfl,rfl⟩
  ·rw [hd];(focus (refine wkad w_t w_t w_t ?_;(repeat' first|exact w_t|apply w_l);all_goals intros));refine .inr ⟨D,rfl,gW q200,?_⟩;generalize l'.map prA=LA at *;clear q5 q105 q200 co;(focus (refine wkad w_t w_t w_t ?_;(repeat' first|exact w_t|apply w_l);all_goals intros));all_goals exact gL
  ·(focus (refine wkad w_t w_t w_t ?_;(repeat' first|exact w_t|apply w_l);all_goals intros));refine .inr ⟨D,rfl,gW q200,?_⟩
   have hz:((Zav l').map prA++List.replicate (l'.length - (Zav l').length) (AV.agg [iv 0,iv 0])).take (Zav l').length=(Zav l').map prA:=by
    rw [List.take_append_of_le_length (by rw [Zv9];exact Zwa _),Zxj (by rw [Zv9];exact Zwa _)]
   generalize hF:(Zav l').map prA++List.replicate (l'.length - (Zav l').length) (AV.agg [iv 0,iv 0])=F at *;clear q5 q105 q200 co;generalize (Zav l').length=w at *;generalize (Zav l').map prA=LA at *;have hz0:F.take (0+w)=LA:=by rw [Zwz];exact hz
   (focus (refine wkad (w_1 hz0) w_t w_t ?_;(repeat' first|exact w_t|apply w_l);all_goals intros));all_goals exact gM (w_1 hz0)
attribute [local go_sem] Zko Zlp
theorem r_frzE {P:Program} {n:Nat} {Q:AE→St→Prop} {id:Nat} {ops:Array Oper} {st st':St} (h:Frz n st st') (k:Zat P 0 n (.region id ops true) Q st'):Zat P 0 n (.region id ops true) Q st:=λc a w imm hr=>by
 obtain⟨i,h1⟩:=h c a w imm hr;exact k c a w i h1
theorem szPic:szOf prog 63=some 4:=by kernel_rfl
theorem zPic:Za6 prog 63=some (.agg #[.pointer none,.slice none 0 0,.slice none 0 0,.slice none 0 0]):=by kernel_rfl
def h1T:ByteArray:=⟨#[60,115,118,103,32,120,109,108,110,115,61,34,104,116,116,112,58,47,47,119,119,119,46,119,51,46,111,114,103,47,50,48,48,48,47,115,118,103,34,32,119,105,100,116,104,61,34]⟩
def r1T:ByteArray:=⟨#[60,115,118,103,32,120,109,108,110,115,61,34,104,116,116,112,58,47,47,119,119,119,46,119,51,46,111,114,103,47,50,48,48,48,47,115,118,103,34,32]⟩
def hdP (w h:Nat):ByteArray:=h1T++itS w++⟨#[34,32,104,101,105,103,104,116,61,34]⟩++itS h++⟨#[34,62,10]⟩
def hdR (w h:Nat):ByteArray:=r1T++pxS ⟨#[119,105,100,116,104]⟩ ⟨#[104,101,105,103,104,116]⟩ ((w:Int),(h:Int))++⟨#[62,10]⟩
def endT:ByteArray:=⟨#[60,47,115,118,103,62,10]⟩
theorem hd_eq (w h:Nat):hdP w h=hdR w h:=by
 unfold hdP hdR pxS;simp only [ByteArray.append_assoc];rw [show h1T=r1T++(⟨#[119,105,100,116,104]⟩++⟨#[61,34]⟩) from rfl,show(⟨#[34,32,104,101,105,103,104,116,61,34]⟩:ByteArray)=⟨#[34,32]⟩++(⟨#[104,101,105,103,104,116]⟩++⟨#[61,34]⟩) from rfl,show(⟨#[34,62,10]⟩:ByteArray)=⟨#[34]⟩++⟨#[62,10]⟩from rfl];simp only [ByteArray.append_assoc]
theorem Zpq {w h:Nat} (h1:w≤4000) (h2:h≤4000):(hdP w h).size≤200:=by
 have s1:=Zc3 (w:Int) zo zo;have s2:=Zc3 (h:Int) zo zo;unfold hdP;simp only [Zw8];have e1:h1T.size=47:=rfl;have e2:(⟨#[34,32,104,101,105,103,104,116,61,34]⟩:ByteArray).size=10:=rfl;have e3:(⟨#[34,62,10]⟩:ByteArray).size=3:=rfl;omega
def pat (ps:List Pr) (z:Int):Pr:=ps.getD z.toNat (0,0)
theorem Zet {ps:List Pr} {i:Nat} (h:i < ps.length):pat ps (i:Int)=ps[i]:=by
 unfold pat;rw [Zzi,Zwp,Zwb h];rfl
theorem Zj0 {ps:List Pr} {z:Int} (h0:0≤z) (h1:z < ps.length) {q:Pr→Prop} (h:∀p∈ps,q p):q (pat ps z):=by
 obtain⟨i,rfl⟩:=Zyc h0;rw [Zet (show i < ps.length by omega)];exact h _ (Zwq _)
def prAt (ls:List Pr) (j:Nat):Pr:=ls.getD j (0,0)
theorem Zgu {ls:List Pr} {j:Nat} (h:j < ls.length):prAt ls j=ls[j]:=by
 unfold prAt;rw [Zwp,Zwb h];rfl
def ltx (ps ls:List Pr) (j:Nat):ByteArray:=lnP (pat ps (prAt ls j).1) (pat ps (prAt ls j).2)
noncomputable def ctx (ps ls:List Pr) (j:Nat):ByteArray:=crP (pat ps (prAt ls j).1) (rdN (pat ps (prAt ls j).1) (pat ps (prAt ls j).2))
def nmAt (ss:List RS) (j:Nat):ByteArray:=match ss[j]? with | some s=>s.nm | none=>ByteArray.empty
def ptx (ps:List Pr) (ss:List RS) (j:Nat):ByteArray:=if (nmAt ss j).size=0 then ptP (pat ps (j:Int)) else ptP (pat ps (j:Int))++txP (pat ps (j:Int)) (nmAt ss j)
noncomputable def svgT (ps ls cs:List Pr) (ss:List RS) (w h:Nat):ByteArray:=txs (ptx ps ss) (txs (ctx ps cs) (txs (ltx ps ls) (hdP w h) ls.length) cs.length) ss.length++endT
def ptsN (ss:List RS):Nat→List Pr
 | 0=>[]
 | n+1=>ptsN ss n++[((n:Int),if (nmAt ss n).size=0 then 0 else 1)]
theorem Zft (ss:List RS):∀n,(ptsN ss n).length=n
 | 0=>rfl
 | n+1=>by rw [show ptsN ss (n+1)=ptsN ss n++[((n:Int),if (nmAt ss n).size=0 then 0 else 1)] from rfl,Zwy,Zft ss n];rfl
theorem Zt9 (ss:List RS):∀{n i:Nat},(h:i < n)→(ptsN ss n)[i]?=some ((i:Int),if (nmAt ss i).size=0 then 0 else 1)
 | n+1,i,h=>by
   rw [show ptsN ss (n+1)=ptsN ss n++[((n:Int),if (nmAt ss n).size=0 then 0 else 1)] from rfl];by_cases e:i=n
   ·subst e;rw [Zw7 (by rw [Zft];exact Zwa _),Zft,ZAb];rfl
   ·rw [Zw5 (by rw [Zft];omega)];exact Zt9 ss zo
structure SvOk (ps ls cs:List Pr) (ss:List RS):Prop where
 l1:ss.length≤12
 lp:ps.length=ss.length
 ix:∀p∈ps,inX p
 li:∀p∈ls,0≤p.1∧p.1 < (ss.length:Int)∧0≤p.2∧p.2 < (ss.length:Int)
 ci:∀p∈cs,0≤p.1∧p.1 < (ss.length:Int)∧0≤p.2∧p.2 < (ss.length:Int)
 ll:ls.length≤144
 lc:cs.length≤144
 nm:∀s∈ss,s.nm.size≤50000000
theorem Zja {ss:List RS} {j:Nat} (h:j < ss.length):nmAt ss j=ss[j].nm:=by
 unfold nmAt;rw [Zwb h]
theorem SvOk.ltx_len {ps ls cs:List Pr} {ss:List RS} (ok:SvOk ps ls cs ss) {j:Nat} (h:j < ls.length):(ltx ps ls j).size≤200:=by
 obtain⟨a1,a2,a3,a4⟩:=ok.li _ (Zwq h);unfold ltx;rw [Zgu h];exact Zu1 (Zj0 (q:=natP) a1 (by rw [ok.lp];exact a2) λp hp=>(ok.ix p hp).sm.nat) (Zj0 (q:=natP) a3 (by rw [ok.lp];exact a4) λp hp=>(ok.ix p hp).sm.nat)
theorem SvOk.ctx_len {ps ls cs:List Pr} {ss:List RS} (ok:SvOk ps ls cs ss) {j:Nat} (h:j < cs.length):(ctx ps cs j).size≤200:=by
 obtain⟨a1,a2,a3,a4⟩:=ok.ci _ (Zwq h);unfold ctx;rw [Zgu h];have k1:=Zj0 (q:=inX) a1 (by rw [ok.lp];exact a2) ok.ix;have k2:=Zj0 (q:=inX) a3 (by rw [ok.lp];exact a4) ok.ix;exact Zvp k1.sm.nat (Zqk k1.sm k2.sm)
theorem SvOk.ptx_len {ps ls cs:List Pr} {ss:List RS} (ok:SvOk ps ls cs ss) {j:Nat} (h:j < ss.length):(ptx ps ss j).size≤50000200:=by
 have k1:=Zj0 (q:=inX) (z:=(j:Int)) zo (by rw [ok.lp];omega) ok.ix;have h1:=Zua k1.sm.nat;have h2:=Zs4 k1 (nmAt ss j);have h3:=ok.nm _ (Zwq h);rw [←Zja h] at h3;unfold ptx;split
 ·omega
 ·rw [Zw8];omega
theorem SvOk.len1 {ps ls cs:List Pr} {ss:List RS} (ok:SvOk ps ls cs ss) {w h:Nat} (hw:w≤4000) (hh:h≤4000):(txs (ltx ps ls) (hdP w h) ls.length).size≤30000:=by
 have h1:=Zpq hw hh;have h2:=Zf5 (tx:=ltx ps ls) (T:=hdP w h) ls.length λj hj=>ok.ltx_len hj;have:=ok.ll;have:=Zww 200 ok.ll;omega
theorem SvOk.len2 {ps ls cs:List Pr} {ss:List RS} (ok:SvOk ps ls cs ss) {w h:Nat} (hw:w≤4000) (hh:h≤4000):(txs (ctx ps cs) (txs (ltx ps ls) (hdP w h) ls.length) cs.length).size≤60000:=by
 have h1:=ok.len1 hw hh;have h2:=Zf5 (tx:=ctx ps cs) (T:=txs (ltx ps ls) (hdP w h) ls.length) cs.length λj hj=>ok.ctx_len hj;have:=Zww 200 ok.lc;omega
theorem SvOk.len3 {ps ls cs:List Pr} {ss:List RS} (ok:SvOk ps ls cs ss) {w h:Nat} (hw:w≤4000) (hh:h≤4000):(txs (ptx ps ss) (txs (ctx ps cs) (txs (ltx ps ls) (hdP w h) ls.length) cs.length) ss.length).size≤700000000:=by
 have h1:=ok.len2 hw hh;have h2:=Zf5 (tx:=ptx ps ss) (T:=txs (ctx ps cs) (txs (ltx ps ls) (hdP w h) ls.length) cs.length) ss.length λj hj=>ok.ptx_len hj;have:=Zww 50000200 ok.l1;omega
theorem nmN_get {ss:List RS} {i:Nat} (h:i < ss.length) (h':i < (Zbw ss ss.length).length):(Zbw ss ss.length)[i]=nmN i ss[i].nm:=by
 have:=Zns (ss:=ss) (n:=ss.length) (i:=i) (Zwa _) h;rw [Zwb h'] at this;exact Option.some.inj this
theorem nmN_len {i:Nat} (h:i < 1000) (s:ByteArray) (hs:s.size≤50000000):(nmN i s).size≤50000000:=by
 unfold nmN;split
 ·rw [Zw8];have:=Zc3 (i:Int) zo zo;have e1:(⟨#[36]⟩:ByteArray).size=1:=rfl;omega
 ·exact hs
section
variable {ps ls cs:List Pr} {ss:List RS} (ok:SvOk ps ls cs ss)
include ok
theorem svLine (g:Nat) (σ:Mem) (KB KT:Nat) (sv:Value) (T:ByteArray) (j:Nat) (h:j < ls.length) (hB:σ KB=some (picB KB KT g (.own KT sv) (.pbox KB g 0) (ps.map prA) ((Zbw ss ss.length).map strA))) (hT:σ KT=some (picR sv T)) (n2:KB≠KT) (hl:T.size≤900000000) :
 ACall prog 16 [.pbox KB g 0,.agg [iv ls[j].1,iv ls[j].2]] σ (PicS KB KT g (ps.map prA) ((Zbw ss ss.length).map strA) (T++ltx ps ls j) σ):=by
 obtain⟨a1,a2,a3,a4⟩:=ok.li _ (Zwq h);unfold ltx;rw [Zgu h];generalize ls[j]=p at *;obtain⟨x,y⟩:=p;simp only at a1 a2 a3 a4 ⊢;obtain⟨x,rfl⟩:=Zyc a1;obtain⟨y,rfl⟩:=Zyc a3;have hlp:=ok.lp;have l1:=ok.l1;have hx:x < ps.length:=zo;have hy:y < ps.length:=zo;rw [Zet hx,Zet hy];exact drLine σ KB KT g sv ps _ T x y hB hT n2 hl hx hy zo (ok.ix _ (Zwq _)).sm.nat (ok.ix _ (Zwq _)).sm.nat
theorem svCircle (g:Nat) (σ:Mem) (KB KT:Nat) (sv:Value) (T:ByteArray) (j:Nat) (h:j < cs.length) (hB:σ KB=some (picB KB KT g (.own KT sv) (.pbox KB g 0) (ps.map prA) ((Zbw ss ss.length).map strA))) (hT:σ KT=some (picR sv T)) (n2:KB≠KT) (hl:T.size≤900000000) :
 ACall prog 18 [.pbox KB g 0,.agg [iv cs[j].1,iv cs[j].2]] σ (PicS KB KT g (ps.map prA) ((Zbw ss ss.length).map strA) (T++ctx ps cs j) σ):=by
 obtain⟨a1,a2,a3,a4⟩:=ok.ci _ (Zwq h);unfold ctx;rw [Zgu h];generalize cs[j]=p at *;obtain⟨x,y⟩:=p;simp only at a1 a2 a3 a4 ⊢;obtain⟨x,rfl⟩:=Zyc a1;obtain⟨y,rfl⟩:=Zyc a3;have hlp:=ok.lp;have l1:=ok.l1;have hx:x < ps.length:=zo;have hy:y < ps.length:=zo;rw [Zet hx,Zet hy];exact drCircle σ KB KT g sv ps _ T x y hB hT n2 hl hx hy zo (ok.ix _ (Zwq _)).sm (ok.ix _ (Zwq _)).sm
theorem svPoint (g:Nat) (σ:Mem) (KB KT:Nat) (sv:Value) (T:ByteArray) (j:Nat) (h:j < (ptsN ss ss.length).length) (hB:σ KB=some (picB KB KT g (.own KT sv) (.pbox KB g 0) (ps.map prA) ((Zbw ss ss.length).map strA))) (hT:σ KT=some (picR sv T)) (n2:KB≠KT) (hl:T.size≤900000000) :
 ACall prog 19 [.pbox KB g 0,.agg [iv (ptsN ss ss.length)[j].1,iv (ptsN ss ss.length)[j].2]] σ (PicS KB KT g (ps.map prA) ((Zbw ss ss.length).map strA) (T++ptx ps ss j) σ):=by
 have hlp:=ok.lp;have l1:=ok.l1;have hj:j < ss.length:=by rw [Zft] at h;exact h
 have e:(ptsN ss ss.length)[j]=((j:Int),if (nmAt ss j).size=0 then (0:Int) else 1):=by
  have:=Zt9 ss (n:=ss.length) hj;rw [Zwb h] at this;exact Option.some.inj this
 rw [e];simp only;have hnl:=Zej ss ss.length (Zwa _);have hjn:j < (Zbw ss ss.length).length:=zo;have hnm:=nmN_get hj hjn;have hsz:=nmN_len (i:=j) zo ss[j].nm (ok.nm _ (Zwq _));unfold ptx;rw [Zet (show j < ps.length by omega)];have key:=λf=>drPoint σ KB KT g sv ps (Zbw ss ss.length) T j f hB hT n2 hl zo zo zo (ok.ix _ (Zwq _)) (by rw [hnm];omega);by_cases h0:(nmAt ss j).size=0
 ·rw [Zv6 h0,Zv6 h0];exact key false
 ·rw [Zv5 h0,Zv5 h0];have:=key true;rw [hnm] at this;unfold nmN at this;rw [Zja hj] at h0 ⊢;rw [Zv5 h0] at this;simp only [Zw1] at this;rw [←ByteArray.append_assoc];exact this
end
attribute [go_sem] szSlG szPic zPic
theorem drSvg1 (M N LB:List AV) (w h z:Int) (hz:z≠0) (cL:Pure prog 10 [.agg [.sl 6 M,.sl 5 N]] (.tup [.sl 2 [],iv z])) :
 Pure prog 6 [.agg [.sl 6 M,.sl 5 N],.sl 12 LB,iv w,iv h] (.tup [.v (.string ⟨#[]⟩),iv z]):=by
 refine pI func6 rfl ntmps6 results6 call6 ?_;(focus (refine wkad (w_1 hz) (w_1 cL) w_t ?_;(repeat' first|exact w_t|apply w_l);all_goals intros));all_goals exact gL
theorem drSvg2 (M N LB:List AV) (w h:Int) (LS:List AV) (h1:M.length≤1000) (h2:LB.length≤1000) (hne:¬LB.length=M.length) (cL:Pure prog 10 [.agg [.sl 6 M,.sl 5 N]] (.tup [.sl 2 LS,iv 0])) :
 Pure prog 6 [.agg [.sl 6 M,.sl 5 N],.sl 12 LB,iv w,iv h] (.tup [.v (.string ⟨#[]⟩),iv 16]):=by
 refine pI func6 rfl ntmps6 results6 call6 ?_;(focus (refine wkad (w_1 hne) (w_1 cL) w_t ?_;(repeat' first|exact w_t|apply w_l);all_goals intros));all_goals exact gL
theorem drSvg3 (M N LB:List AV) (w h z:Int) (LS:List AV) (h1:M.length≤1000) (h2:LB.length=M.length) (hz:z≠0) (cL:Pure prog 10 [.agg [.sl 6 M,.sl 5 N]] (.tup [.sl 2 LS,iv 0]))
 (cS:Pure prog 11 [.sl 12 LB,iv w,iv h] (.tup [.v (.slice none 0 0),iv z])) :
 Pure prog 6 [.agg [.sl 6 M,.sl 5 N],.sl 12 LB,iv w,iv h] (.tup [.v (.string ⟨#[]⟩),iv z]):=by
 refine pI func6 rfl ntmps6 results6 call6 ?_;(focus (refine wkad (w_2 h2 hz) (w_2 cL cS) w_t ?_;(repeat' first|exact w_t|apply w_l);all_goals intros));all_goals exact gL
set_option maxRecDepth 100000 in
theorem drSvg (ps ls cs:List Pr) (ss:List RS) (gs:List RG) (LB:List AV) (w h:Nat) (ok:SvOk ps ls cs ss) (hw:w≤4000) (hh:h≤4000) (h2:LB.length=ss.length)
 (cL:Pure prog 10 [figA ss gs] (.tup [.sl 2 (ls.map prA),iv 0]))
 (cS:Pure prog 11 [.sl 12 LB,iv w,iv h] (.tup [.sl 2 (ps.map prA),iv 0]))
 (cC:Pure prog 17 [figA ss gs] (.sl 2 (cs.map prA))) :
 Pure prog 6 [figA ss gs,.sl 12 LB,iv w,iv h] (.tup [strA (svgT ps ls cs ss w h),iv 0]):=by
 have l1:=ok.l1;have cN:=lwNames ss gs zo;have hls:(ss.map RS.av).length=ss.length:=Zv9 ..;have hpl:(ps.map prA).length=ss.length:=by rw [Zv9];exact ok.lp
 have kS:∀i (h:i < ss.length),(ss.map RS.av).getD i .u=ss[i].av:=λi h=>Zaf RS.av h;have hnm:∀i (h:i < ss.length),ss[i].nm.size≤50000000:=λi h=>ok.nm _ (Zwq h);have c1:=Zkx (w:Int) zo zo;have c2:=Zkx (h:Int) zo zo;have s1:=Zc3 (w:Int) zo zo;have s2:=Zc3 (h:Int) zo zo;have s3:=Zpq hw hh;have s4:=ok.len1 hw hh;have s5:=ok.len2 hw hh;have s6:=ok.len3 hw hh;have lc:=ok.lc;have ll:=ok.ll;have hpt:=Zft ss ss.length;have hw1:=fun(m:Mem) (g:Nat) (sv:Value) (hB':m 45=some (picB 45 445 g (.own 445 sv) (.v (.pointer none)) (ps.map prA) ((Zbw ss ss.length).map strA))) (hT':m 445=some (picR sv ⟨#[]⟩))=>wrS m 45 445 g sv _ _ _ ⟨#[]⟩ (hdP w h) hB' hT' (.inl rfl) zo (by show 0+_≤_;omega)
 have hw2:=fun(m:Mem) (g:Nat) (sv:Value) hB' hT'=>Zvg 16 m 45 445 g sv (ps.map prA) ((Zbw ss ss.length).map strA) (hdP w h) (ltx ps ls) 200 ls (svLine ok g) hB' hT' zo (λj hj=>ok.ltx_len hj) (by have:=Zww 200 ll;omega) zo;have hw3:=fun(m:Mem) (g:Nat) (sv:Value) hB' hT'=>Zvg 18 m 45 445 g sv (ps.map prA) ((Zbw ss ss.length).map strA) _ (ctx ps cs) 200 cs (svCircle ok g) hB' hT' zo (λj hj=>ok.ctx_len hj) (by have:=Zww 200 lc;exact Zwj (ZAk s4 this) zo) zo;have hw4:=fun(m:Mem) (g:Nat) (sv:Value) hB' hT'=>Zvg 19 m 45 445 g sv (ps.map prA) ((Zbw ss ss.length).map strA) _ (ptx ps ss) 50000200 (ptsN ss ss.length) (svPoint ok g) hB' hT' zo (λj hj=>ok.ptx_len (by rw [hpt] at hj;exact hj)) (by rw [hpt];have:=Zww 50000200 l1;exact Zwj (ZAk s5 this) zo) zo
 rw [hpt] at hw4;unfold svgT;generalize hT1:txs (ltx ps ls) (hdP w h) ls.length=T1 at *;generalize hT2:txs (ctx ps cs) T1 cs.length=T2 at *;generalize hT3:txs (ptx ps ss) T2 ss.length=T3 at *;have hw5:=fun(m:Mem) (g:Nat) (sv:Value) (hB':m 45=some (picB 45 445 g (.own 445 sv) (.pbox 45 g 0) (ps.map prA) ((Zbw ss ss.length).map strA))) (hT':m 445=some (picR sv T3))=>wrS m 45 445 g sv _ _ _ T3 endT hB' hT' (.inr rfl) zo (by show _+7≤_;omega);have hw6:=fun(m:Mem) (g:Nat) (sv:Value) (hB':m 45=some (picB 45 445 g (.own 445 sv) (.pbox 45 g 0) (ps.map prA) ((Zbw ss ss.length).map strA))) (hT':m 445=some (picR sv (T3++endT)))=>Zvw m 45 445 g sv _ _ _ (T3++endT).data.toList hB' hT' (by
  intro h0
  have h1:(T3++endT).size=0:=by
   have:=Zzh List.length h0;rw [Zyn] at this;exact this
  rw [Zw8] at h1;have:endT.size=7:=rfl;omega)
 rw [show(⟨(T3++endT).data.toList.toArray⟩:ByteArray)=T3++endT by rw [Zz9]] at hw6;unfold hdP h1T at *;generalize hwS:itS (w:Int)=A at *;generalize hhS:itS (h:Int)=B at *;show Pure _ _ [.agg [.sl 6 (ss.map RS.av),.sl 5 (gs.map RG.av)],.sl 12 LB,iv w,iv h] _;have cL:Pure prog 10 [.agg [.sl 6 (ss.map RS.av),.sl 5 (gs.map RG.av)]] _:=cL;have cN:Pure prog 12 [.agg [.sl 6 (ss.map RS.av),.sl 5 (gs.map RG.av)]] _:=cN;have cC:Pure prog 17 [.agg [.sl 6 (ss.map RS.av),.sl 5 (gs.map RG.av)]] _:=cC;generalize ss.map RS.av=M at *;generalize gs.map RG.av=N at *;generalize ps.map prA=P at *
 generalize (Zbw ss ss.length).map strA=NM at *;generalize ls.map prA=LS at *;generalize cs.map prA=CS at *;refine pI func6 rfl ntmps6 results6 call6 ?_;(focus (refine wkad (w_2 hls h2) (w_3 cL cS cN) w_t ?_;(repeat' first|exact w_t|apply w_l);all_goals intros));rename_i g4 g45;refine Zez (Frz.nilOwn (d:=14) 414 2 64 (gC)) ?_;refine Zai (ι:=Nat) (λi e m=>i≤ss.length∧(e 2=iv w∧e 3=iv h∧e 4=.pbox 4 g4 0∧m 4=some (.box g4 25 [.sl 6 M,.sl 5 N] false))∧(e 10=.sl 2 LS∧e 13=.pbox 45 g45 0∧m 45=some (.box g45 63 [.v (.pointer none),.v (.slice none 0 0),.sl 2 P,.sl 1 NM] false))∧e 47=.sl 6 M∧e 48=iv ss.length∧e 49=iv i∧∃sv,e 14=.own 414 sv∧m 414=some (.row sv 64 2 ((ptsN ss i).map prA) 0)) (λi=>ss.length - i) 0 zr ?_ ?_
 ·rintro i e m ⟨hi,⟨e2,e3,e4,m4⟩,⟨e10,e13,m45⟩,e47,e48,e49,sv,e14,m14⟩
  by_cases hlt:i < ss.length
  ·have gi:=kS i hlt;have hni:=hnm i hlt
   have hsu:(ptsN ss (i+1)).map prA=(ptsN ss i).map prA++[.agg [iv i,iv (if ss[i].nm.size=0 then 0 else 1)]]:=by
    rw [←Zja hlt];show(ptsN ss i++[_]).map prA=_;rw [Zye];rfl
   have hl3:((ptsN ss i).map prA).length≤12:=by rw [Zv9,Zft];omega
   clear hw1 hw2 hw3 hw4 hw5 hw6 kS hnm cL cS cN cC c1 c2;generalize (ptsN ss i).map prA=Z at *;generalize ss[i]=s at *;obtain⟨k,nm,ar,⟨bo,l,d⟩⟩:=s;have gi:M.getD i .u=.agg [iv k,strA nm,ivs ar,.v (.bool bo),lim l,lim d]:=gi;simp only at hsu hni;by_cases h0:nm.size=0
   ·rw [Zv6 h0] at hsu;(focus (refine wkad (w_16 e2 e3 e4 m4 e10 e13 m45 e47 e48 e49 e14 m14 gi hls hl3 h0) w_t w_t ?_;(repeat' first|exact w_t|apply w_l);all_goals intros));exact⟨i+1,⟨zo,⟨gW e2,gW e3,gW e4,gW m4⟩,⟨gW e10,gW e13,gW m45⟩,gW e47,gW e48,gS,_,gC,by rw [hsu];exact gC⟩,zo⟩
   ·rw [Zv5 h0] at hsu;have hmn:(if (1:Int) < (nm.size:Int) then (1:Int) else (nm.size:Int))=1:=by split<;>omega
    (focus (refine wkad (w_15 e2 e3 e4 m4 e10 e13 m45 e47 e48 e49 e14 m14 gi hls hl3) w_t w_t ?_;(repeat' first|exact w_t|apply w_l);all_goals intros));exact⟨i+1,⟨zo,⟨gW e2,gW e3,gW e4,gW m4⟩,⟨gW e10,gW e13,gW m45⟩,gW e47,gW e48,gS,_,gC,by rw [hsu];exact gW hmn⟩,zo⟩
  ·have hii:i=ss.length:=zo;subst hii;(focus (refine wkax (w_12 e2 e3 e4 m4 e10 e13 m45 e47 e48 e49 e14 m14) w_t w_t w_t w_t w_t w_t (w_r 0) ?_;(repeat' first|exact w_t|apply w_l);all_goals intros));refine r_frzE (Frz.own (d:=14) (k:=414) (sv:=sv) (ty:=64) (mm:=2) (es:=(ptsN ss ss.length).map prA) (pub:=0) (gW e14) (gW m14)) ?_;refine r_frzE (Frz.nilBox (k:=45) 1 445 1 5 (gW m45) rfl zo) ?_;(focus (refine wkax (w_10 e2 e3 e4 m4 e10 e13 m45 @Zw8 s1 s2) (w_2 c1 c2) (w_1 (w_d 16 [(4,.v (.string A)),(8,.v (.string B))] [11] [])) w_t w_t w_t w_t (w_r 0) ?_;(repeat' first|exact w_t|apply w_l);all_goals intros))
   refine Zhi (hw1 _ g45 _ (by(simp (disch:=omega) only [go_sem,m45,Zv5,Zv6]<;>repeat' first|rfl|refine⟨?_,?_⟩)) (gC)) ?_;intro sv1
   (repeat' (first|(with_reducible first|refine stp ?_|apply gx1|apply gx2|apply gx3|apply gx4|apply gx5|apply gx6|apply gx7|apply gy8|apply gz2|apply gz3)|(with_reducible refine Zbt ?_;intro _)|((with_reducible refine gE ?_);(try simp (disch:=omega) only [go_sem,e2,e3,e4,m4,e10,e13,m45,Zv5,Zv6,Zv8,Zv7,Zv6,Zv5,Int.reduceAdd,Int.reduceSub,Int.reduceToNat,Zwc])<;>first|rfl|omega)|with_reducible refine Zae zd ?_|((with_reducible apply gy1);iterate 3 focus rfl)|((with_reducible apply gy2);iterate 3 focus rfl)|((with_reducible apply gy3);iterate 2 focus rfl)|((with_reducible apply gy4);iterate 1 focus rfl)|((with_reducible apply gy5);iterate 4 focus rfl)|((with_reducible apply gy5c);iterate 4 focus rfl)|((with_reducible apply gy6);iterate 4 focus rfl)|((with_reducible apply Zdq);iterate 3 focus rfl)|((with_reducible apply Zdn);iterate 1 focus rfl)|((with_reducible apply gy7);iterate 1 focus rfl)|((with_reducible apply gy9);(focus ((with_reducible refine gE ?_);(try simp (disch:=omega) only [go_sem,e2,e3,e4,m4,e10,e13,m45,Zv5,Zv6,Zv8,Zv7,Zv6,Zv5,Int.reduceAdd,Int.reduceSub,Int.reduceToNat,Zwc])<;>rfl)))|((with_reducible apply gz1);(focus first|rfl|(simp (disch:=omega) only [go_sem,e2,e3,e4,m4,e10,e13,m45,Zv5,Zv6,Zv8,Zv7,Zv6,Zv5,Int.reduceAdd,Int.reduceSub,Int.reduceToNat,Zwc];done)))|((with_reducible apply Zal (Za3 []) [] []);(focus kernel_rfl);(focus rfl);(focus kernel_rfl);(focus (simp only [Zwd,Zwi,Nat.reduceAdd];rfl)))|((with_reducible first|apply Zbe|apply Zbu|apply Zbf);all_goals (intro hc;(try simp only [bool_to_prop] at hc);try (exfalso;omega)))))
   refine Zfv (hw2 _ g45 sv1 (by(simp (disch:=omega) only [go_sem,Zv5,Zv6]<;>repeat' first|rfl|refine⟨?_,?_⟩)) (by(simp (disch:=omega) only [go_sem,Zv5,Zv6]<;>repeat' first|rfl|refine⟨?_,?_⟩))) ?_
   rintro _ _ ⟨sv2,rfl,rfl⟩
   (repeat' (first|(with_reducible first|refine stp ?_|apply gx1|apply gx2|apply gx3|apply gx4|apply gx5|apply gx6|apply gx7|apply gy8|apply gz2|apply gz3|refine gw0 (cC) ?_ ?_|refine gw3 (cC) ?_ ?_ ?_)|(with_reducible refine Zbt ?_;intro _)|((with_reducible refine gE ?_);(try simp (disch:=omega) only [go_sem,e2,e3,e4,m4,e10,e13,m45,Zv5,Zv6,Zv8,Zv7,Zv6,Zv5,Int.reduceAdd,Int.reduceSub,Int.reduceToNat,Zwc])<;>first|rfl|omega)|with_reducible refine Zae zd ?_|((with_reducible apply gy1);iterate 3 focus rfl)|((with_reducible apply gy2);iterate 3 focus rfl)|((with_reducible apply gy3);iterate 2 focus rfl)|((with_reducible apply gy4);iterate 1 focus rfl)|((with_reducible apply gy5);iterate 4 focus rfl)|((with_reducible apply gy5c);iterate 4 focus rfl)|((with_reducible apply gy6);iterate 4 focus rfl)|((with_reducible apply Zdq);iterate 3 focus rfl)|((with_reducible apply Zdn);iterate 1 focus rfl)|((with_reducible apply gy7);iterate 1 focus rfl)|((with_reducible apply gy9);(focus ((with_reducible refine gE ?_);(try simp (disch:=omega) only [go_sem,e2,e3,e4,m4,e10,e13,m45,Zv5,Zv6,Zv8,Zv7,Zv6,Zv5,Int.reduceAdd,Int.reduceSub,Int.reduceToNat,Zwc])<;>rfl)))|((with_reducible apply gz1);(focus first|rfl|(simp (disch:=omega) only [go_sem,e2,e3,e4,m4,e10,e13,m45,Zv5,Zv6,Zv8,Zv7,Zv6,Zv5,Int.reduceAdd,Int.reduceSub,Int.reduceToNat,Zwc];done)))|((with_reducible apply Zal (Za3 []) [] []);(focus kernel_rfl);(focus rfl);(focus kernel_rfl);(focus (simp only [Zwd,Zwi,Nat.reduceAdd];rfl)))|((with_reducible first|apply Zbe|apply Zbu|apply Zbf);all_goals (intro hc;(try simp only [bool_to_prop] at hc);try (exfalso;omega)))))
   refine Zfv (hw3 _ g45 sv2 (by(simp (disch:=omega) only [go_sem,Zv5,Zv6]<;>repeat' first|rfl|refine⟨?_,?_⟩)) (by(simp (disch:=omega) only [go_sem,Zv5,Zv6]<;>repeat' first|rfl|refine⟨?_,?_⟩))) ?_
   rintro _ _ ⟨sv3,rfl,rfl⟩
   (repeat' (first|(with_reducible first|refine stp ?_|apply gx1|apply gx2|apply gx3|apply gx4|apply gx5|apply gx6|apply gx7|apply gy8|apply gz2|apply gz3)|(with_reducible refine Zbt ?_;intro _)|((with_reducible refine gE ?_);(try simp (disch:=omega) only [go_sem,e2,e3,e4,m4,e10,e13,m45,Zv5,Zv6,Zv8,Zv7,Zv6,Zv5,Int.reduceAdd,Int.reduceSub,Int.reduceToNat,Zwc])<;>first|rfl|omega)|with_reducible refine Zae zd ?_|((with_reducible apply gy1);iterate 3 focus rfl)|((with_reducible apply gy2);iterate 3 focus rfl)|((with_reducible apply gy3);iterate 2 focus rfl)|((with_reducible apply gy4);iterate 1 focus rfl)|((with_reducible apply gy5);iterate 4 focus rfl)|((with_reducible apply gy5c);iterate 4 focus rfl)|((with_reducible apply gy6);iterate 4 focus rfl)|((with_reducible apply Zdq);iterate 3 focus rfl)|((with_reducible apply Zdn);iterate 1 focus rfl)|((with_reducible apply gy7);iterate 1 focus rfl)|((with_reducible apply gy9);(focus ((with_reducible refine gE ?_);(try simp (disch:=omega) only [go_sem,e2,e3,e4,m4,e10,e13,m45,Zv5,Zv6,Zv8,Zv7,Zv6,Zv5,Int.reduceAdd,Int.reduceSub,Int.reduceToNat,Zwc])<;>rfl)))|((with_reducible apply gz1);(focus first|rfl|(simp (disch:=omega) only [go_sem,e2,e3,e4,m4,e10,e13,m45,Zv5,Zv6,Zv8,Zv7,Zv6,Zv5,Int.reduceAdd,Int.reduceSub,Int.reduceToNat,Zwc];done)))|((with_reducible apply Zal (Za3 []) [] []);(focus kernel_rfl);(focus rfl);(focus kernel_rfl);(focus (simp only [Zwd,Zwi,Nat.reduceAdd];rfl)))|((with_reducible first|apply Zbe|apply Zbu|apply Zbf);all_goals (intro hc;(try simp only [bool_to_prop] at hc);try (exfalso;omega)))))
   refine Zfv (hw4 _ g45 sv3 (by(simp (disch:=omega) only [go_sem,Zv5,Zv6]<;>repeat' first|rfl|refine⟨?_,?_⟩)) (by(simp (disch:=omega) only [go_sem,Zv5,Zv6]<;>repeat' first|rfl|refine⟨?_,?_⟩))) ?_
   rintro _ _ ⟨sv4,rfl,rfl⟩
   (repeat' (first|(with_reducible first|refine stp ?_|apply gx1|apply gx2|apply gx3|apply gx4|apply gx5|apply gx6|apply gx7|apply gy8|apply gz2|apply gz3)|(with_reducible refine Zbt ?_;intro _)|((with_reducible refine gE ?_);(try simp (disch:=omega) only [go_sem,e2,e3,e4,m4,e10,e13,m45,Zv5,Zv6,Zv8,Zv7,Zv6,Zv5,Int.reduceAdd,Int.reduceSub,Int.reduceToNat,Zwc])<;>first|rfl|omega)|with_reducible refine Zae zd ?_|((with_reducible apply gy1);iterate 3 focus rfl)|((with_reducible apply gy2);iterate 3 focus rfl)|((with_reducible apply gy3);iterate 2 focus rfl)|((with_reducible apply gy4);iterate 1 focus rfl)|((with_reducible apply gy5);iterate 4 focus rfl)|((with_reducible apply gy5c);iterate 4 focus rfl)|((with_reducible apply gy6);iterate 4 focus rfl)|((with_reducible apply Zdq);iterate 3 focus rfl)|((with_reducible apply Zdn);iterate 1 focus rfl)|((with_reducible apply gy7);iterate 1 focus rfl)|((with_reducible apply gy9);(focus ((with_reducible refine gE ?_);(try simp (disch:=omega) only [go_sem,e2,e3,e4,m4,e10,e13,m45,Zv5,Zv6,Zv8,Zv7,Zv6,Zv5,Int.reduceAdd,Int.reduceSub,Int.reduceToNat,Zwc])<;>rfl)))|((with_reducible apply gz1);(focus first|rfl|(simp (disch:=omega) only [go_sem,e2,e3,e4,m4,e10,e13,m45,Zv5,Zv6,Zv8,Zv7,Zv6,Zv5,Int.reduceAdd,Int.reduceSub,Int.reduceToNat,Zwc];done)))|((with_reducible apply Zal (Za3 []) [] []);(focus kernel_rfl);(focus rfl);(focus kernel_rfl);(focus (simp only [Zwd,Zwi,Nat.reduceAdd];rfl)))|((with_reducible first|apply Zbe|apply Zbu|apply Zbf);all_goals (intro hc;(try simp only [bool_to_prop] at hc);try (exfalso;omega)))))
   refine Zhi (hw5 _ g45 sv4 (by(simp (disch:=omega) only [go_sem,Zv5,Zv6]<;>repeat' first|rfl|refine⟨?_,?_⟩)) (by(simp (disch:=omega) only [go_sem,Zv5,Zv6]<;>repeat' first|rfl|refine⟨?_,?_⟩))) ?_;intro sv5
   (repeat' (first|(with_reducible first|refine stp ?_|apply gx1|apply gx2|apply gx3|apply gx4|apply gx5|apply gx6|apply gx7|apply gy8|apply gz2|apply gz3)|(with_reducible refine Zbt ?_;intro _)|((with_reducible refine gE ?_);(try simp (disch:=omega) only [go_sem,e2,e3,e4,m4,e10,e13,m45,Zv5,Zv6,Zv8,Zv7,Zv6,Zv5,Int.reduceAdd,Int.reduceSub,Int.reduceToNat,Zwc])<;>first|rfl|omega)|with_reducible refine Zae zd ?_|((with_reducible apply gy1);iterate 3 focus rfl)|((with_reducible apply gy2);iterate 3 focus rfl)|((with_reducible apply gy3);iterate 2 focus rfl)|((with_reducible apply gy4);iterate 1 focus rfl)|((with_reducible apply gy5);iterate 4 focus rfl)|((with_reducible apply gy5c);iterate 4 focus rfl)|((with_reducible apply gy6);iterate 4 focus rfl)|((with_reducible apply Zdq);iterate 3 focus rfl)|((with_reducible apply Zdn);iterate 1 focus rfl)|((with_reducible apply gy7);iterate 1 focus rfl)|((with_reducible apply gy9);(focus ((with_reducible refine gE ?_);(try simp (disch:=omega) only [go_sem,e2,e3,e4,m4,e10,e13,m45,Zv5,Zv6,Zv8,Zv7,Zv6,Zv5,Int.reduceAdd,Int.reduceSub,Int.reduceToNat,Zwc])<;>rfl)))|((with_reducible apply gz1);(focus first|rfl|(simp (disch:=omega) only [go_sem,e2,e3,e4,m4,e10,e13,m45,Zv5,Zv6,Zv8,Zv7,Zv6,Zv5,Int.reduceAdd,Int.reduceSub,Int.reduceToNat,Zwc];done)))|((with_reducible apply Zal (Za3 []) [] []);(focus kernel_rfl);(focus rfl);(focus kernel_rfl);(focus (simp only [Zwd,Zwi,Nat.reduceAdd];rfl)))|((with_reducible first|apply Zbe|apply Zbu|apply Zbf);all_goals (intro hc;(try simp only [bool_to_prop] at hc);try (exfalso;omega)))))
   refine Zk6 (hw6 _ g45 sv5 (by(simp (disch:=omega) only [go_sem,Zv5,Zv6]<;>repeat' first|rfl|refine⟨?_,?_⟩)) (by(simp (disch:=omega) only [go_sem,Zv5,Zv6]<;>repeat' first|rfl|refine⟨?_,?_⟩))) ?_
   (repeat' (first|(with_reducible first|refine stp ?_|apply gx1|apply gx2|apply gx3|apply gx4|apply gx5|apply gx6|apply gx7|apply gy8|apply gz2|apply gz3)|(with_reducible refine Zbt ?_;intro _)|((with_reducible refine gE ?_);(try simp (disch:=omega) only [go_sem,e2,e3,e4,m4,e10,e13,m45,Zv5,Zv6,Zv8,Zv7,Zv6,Zv5,Int.reduceAdd,Int.reduceSub,Int.reduceToNat,Zwc])<;>first|rfl|omega)|with_reducible refine Zae zd ?_|((with_reducible apply gy1);iterate 3 focus rfl)|((with_reducible apply gy2);iterate 3 focus rfl)|((with_reducible apply gy3);iterate 2 focus rfl)|((with_reducible apply gy4);iterate 1 focus rfl)|((with_reducible apply gy5);iterate 4 focus rfl)|((with_reducible apply gy5c);iterate 4 focus rfl)|((with_reducible apply gy6);iterate 4 focus rfl)|((with_reducible apply Zdq);iterate 3 focus rfl)|((with_reducible apply Zdn);iterate 1 focus rfl)|((with_reducible apply gy7);iterate 1 focus rfl)|((with_reducible apply gy9);(focus ((with_reducible refine gE ?_);(try simp (disch:=omega) only [go_sem,e2,e3,e4,m4,e10,e13,m45,Zv5,Zv6,Zv8,Zv7,Zv6,Zv5,Int.reduceAdd,Int.reduceSub,Int.reduceToNat,Zwc])<;>rfl)))|((with_reducible apply gz1);(focus first|rfl|(simp (disch:=omega) only [go_sem,e2,e3,e4,m4,e10,e13,m45,Zv5,Zv6,Zv8,Zv7,Zv6,Zv5,Int.reduceAdd,Int.reduceSub,Int.reduceToNat,Zwc];done)))|((with_reducible apply Zal (Za3 []) [] []);(focus kernel_rfl);(focus rfl);(focus kernel_rfl);(focus (simp only [Zwd,Zwi,Nat.reduceAdd];rfl)))|((with_reducible first|apply Zbe|apply Zbu|apply Zbf);all_goals (intro hc;(try simp only [bool_to_prop] at hc);try (exfalso;omega)))))
   all_goals exact gL
 ·exact⟨Zwk _,⟨gC,gC,gC,gC⟩,⟨gC,gC,gC⟩,gC,gW hls,gC,_,gC,by(simp (disch:=omega) only [go_sem,ptsN]<;>repeat' first|rfl|refine⟨?_,?_⟩)⟩
theorem rfSvg1 (M N LB:List AV) (w h z:Int) (hz:z≠0) (cL:Pure prog 21 [.agg [.sl 6 M,.sl 5 N]] (.tup [.sl 2 [],iv z])) :
 Pure prog 7 [.agg [.sl 6 M,.sl 5 N],.sl 12 LB,iv w,iv h] (.tup [.v (.string ⟨#[]⟩),iv z]):=by
 refine pI func7 rfl ntmps7 results7 call7 ?_;(focus (refine wkad (w_1 hz) (w_1 cL) w_t ?_;(repeat' first|exact w_t|apply w_l);all_goals intros));all_goals exact gL
theorem rfSvg2 (M N LB:List AV) (w h:Int) (LS:List AV) (h1:M.length≤1000) (h2:LB.length≤1000) (hne:¬LB.length=M.length) (cL:Pure prog 21 [.agg [.sl 6 M,.sl 5 N]] (.tup [.sl 2 LS,iv 0])) :
 Pure prog 7 [.agg [.sl 6 M,.sl 5 N],.sl 12 LB,iv w,iv h] (.tup [.v (.string ⟨#[]⟩),iv 16]):=by
 refine pI func7 rfl ntmps7 results7 call7 ?_;(focus (refine wkad (w_1 hne) (w_1 cL) w_t ?_;(repeat' first|exact w_t|apply w_l);all_goals intros));all_goals exact gL
theorem rfSvg3 (M N LB:List AV) (w h z:Int) (LS:List AV) (h1:M.length≤1000) (h2:LB.length=M.length) (hz:z≠0) (cL:Pure prog 21 [.agg [.sl 6 M,.sl 5 N]] (.tup [.sl 2 LS,iv 0]))
 (cS:Pure prog 22 [.sl 12 LB,iv w,iv h] (.tup [.v (.slice none 0 0),iv z])) :
 Pure prog 7 [.agg [.sl 6 M,.sl 5 N],.sl 12 LB,iv w,iv h] (.tup [.v (.string ⟨#[]⟩),iv z]):=by
 refine pI func7 rfl ntmps7 results7 call7 ?_;(focus (refine wkad (w_2 h2 hz) (w_2 cL cS) w_t ?_;(repeat' first|exact w_t|apply w_l);all_goals intros));all_goals exact gL
theorem txs_0 (tx:Nat→ByteArray) (T:ByteArray):txs tx T 0=T:=rfl
theorem getP {ps:List Pr} {i:Nat} (h:i < ps.length):(ps.map prA).getD i .u=.agg [iv ps[i].1,iv ps[i].2]:=Zaf prA h
set_option maxRecDepth 100000 in
theorem rfSvg (ps ls cs:List Pr) (ss:List RS) (gs:List RG) (LB:List AV) (w h:Nat) (ok:SvOk ps ls cs ss) (hw:w≤4000) (hh:h≤4000) (h2:LB.length=ss.length)
 (cL:Pure prog 21 [figA ss gs] (.tup [.sl 2 (ls.map prA),iv 0]))
 (cS:Pure prog 22 [.sl 12 LB,iv w,iv h] (.tup [.sl 2 (ps.map prA),iv 0]))
 (cC:Pure prog 24 [figA ss gs] (.sl 2 (cs.map prA))) :
 Pure prog 7 [figA ss gs,.sl 12 LB,iv w,iv h] (.tup [strA (svgT ps ls cs ss w h),iv 0]):=by
 have l1:=ok.l1;have hls:(ss.map RS.av).length=ss.length:=Zv9 ..;have hlp:=ok.lp;have hpl:(ps.map prA).length=ss.length:=by rw [Zv9];exact ok.lp
 have hll:(ls.map prA).length=ls.length:=Zv9 ..;have hcl:(cs.map prA).length=cs.length:=Zv9 ..;have kS:∀i (h:i < ss.length),(ss.map RS.av).getD i .u=ss[i].av:=λi h=>Zaf RS.av h;have kP:∀i (h:i < ps.length),(ps.map prA).getD i .u=.agg [iv ps[i].1,iv ps[i].2]:=λi h=>getP h;have kL:∀i (h:i < ls.length),(ls.map prA).getD i .u=.agg [iv ls[i].1,iv ls[i].2]:=λi h=>getP h;have kC:∀i (h:i < cs.length),(cs.map prA).getD i .u=.agg [iv cs[i].1,iv cs[i].2]:=λi h=>getP h;have cX:=Zh9 ⟨#[119,105,100,116,104]⟩ ⟨#[104,101,105,103,104,116]⟩ ((w:Int),(h:Int)) ⟨zo,by show(w:Int) < _;omega,zo,by show(h:Int) < _;omega⟩ (by show 5≤100;omega) (by show 6≤100;omega)
 have s1:=Zhh (x:=⟨#[119,105,100,116,104]⟩) (y:=⟨#[104,101,105,103,104,116]⟩) (p:=((w:Int),(h:Int))) ⟨zo,by show(w:Int)≤_;omega,zo,by show(h:Int)≤_;omega⟩;have s1:(pxS ⟨#[119,105,100,116,104]⟩ ⟨#[104,101,105,103,104,116]⟩ ((w:Int),(h:Int))).size≤60:=Zwj s1 (by show 5+6+49≤60;omega);have s3:=Zpq hw hh;have s4:=ok.len1 hw hh;have s5:=ok.len2 hw hh;have s6:=ok.len3 hw hh;have lc:=ok.lc;have ll:=ok.ll;have q1:∀i,i≤ls.length→(txs (ltx ps ls) (hdP w h) i).size≤1000000:=λi hi=>by
  have:=Zf5 (tx:=ltx ps ls) (T:=hdP w h) i λj hj=>ok.ltx_len zo;omega
 have q2:∀i,i≤cs.length→(txs (ctx ps cs) (txs (ltx ps ls) (hdP w h) ls.length) i).size≤1000000:=λi hi=>by
  have:=Zf5 (tx:=ctx ps cs) (T:=txs (ltx ps ls) (hdP w h) ls.length) i λj hj=>ok.ctx_len zo;omega
 have q3:∀i,i≤ss.length→(txs (ptx ps ss) (txs (ctx ps cs) (txs (ltx ps ls) (hdP w h) ls.length) cs.length) i).size≤900000000:=λi hi=>by
  have:=Zf5 (tx:=ptx ps ss) (T:=txs (ctx ps cs) (txs (ltx ps ls) (hdP w h) ls.length) cs.length) i λj hj=>ok.ptx_len zo;omega
 clear s3 s4 s5 s6;have hd:=hd_eq w h;unfold svgT;generalize hT0:hdP w h=T0 at *;unfold hdR r1T at hd;show Pure _ _ [.agg [.sl 6 (ss.map RS.av),.sl 5 (gs.map RG.av)],.sl 12 LB,iv w,iv h] _;have cL:Pure prog 21 [.agg [.sl 6 (ss.map RS.av),.sl 5 (gs.map RG.av)]] _:=cL;have cC:Pure prog 24 [.agg [.sl 6 (ss.map RS.av),.sl 5 (gs.map RG.av)]] _:=cC;have cX:Pure prog 23 [strA ⟨#[119,105,100,116,104]⟩,strA ⟨#[104,101,105,103,104,116]⟩,.agg [iv w,iv h]] _:=cX;generalize hsX:pxS ⟨#[119,105,100,116,104]⟩ ⟨#[104,101,105,103,104,116]⟩ ((w:Int),(h:Int))=X at *;generalize ss.map RS.av=M at *;generalize gs.map RG.av=N at *
 generalize hP:ps.map prA=P at *;generalize ls.map prA=LS at *;generalize cs.map prA=CS at *;refine pI func7 rfl ntmps7 results7 call7 ?_;(focus (refine wkad (w_4 hls h2 @Zw8 s1) (w_3 cL cS cX) w_t ?_;(repeat' first|exact w_t|apply w_l);all_goals intros));rename_i g4;refine Zai (ι:=Nat) (λi e m=>i≤ls.length∧(e 4=.pbox 4 g4 0∧m 4=some (.box g4 25 [.sl 6 M,.sl 5 N] false))∧e 12=.sl 2 P∧e 13=.v (.string (txs (ltx ps ls) T0 i))∧e 50=.sl 2 LS∧e 51=iv ls.length∧e 52=iv i) (λi=>ls.length - i) 0 zr ?_ ?_
 ·rintro i e m ⟨hi,⟨e4,m4⟩,e12,e13,e50,e51,e52⟩
  by_cases hlt:i < ls.length
  ·have gi:=kL i hlt;obtain⟨a1,a2,a3,a4⟩:=ok.li _ (Zwq hlt);have hsu:txs (ltx ps ls) T0 (i+1)=txs (ltx ps ls) T0 i++ltx ps ls i:=rfl;have hq:=q1 i hi;have hpart:ltx ps ls i=lnR (pat ps ls[i].1) (pat ps ls[i].2):=by unfold ltx;rw [Zgu hlt,ln_eq]
   rw [hpart] at hsu;clear hpart;generalize ls[i]=p at *;obtain⟨x,y⟩:=p;simp only at a1 a2 a3 a4 gi hsu;obtain⟨x,rfl⟩:=Zyc a1;obtain⟨y,rfl⟩:=Zyc a3;have hx:x < ps.length:=zo;have hy:y < ps.length:=zo;rw [Zet hx,Zet hy] at hsu;have gx:=kP x hx;have gy:=kP y hy;have k1:=ok.ix _ (Zwq hx);have k2:=ok.ix _ (Zwq hy);have c1:=Zh9 ⟨#[120,49]⟩ ⟨#[121,49]⟩ ps[x] k1.sm.nat (by show 2≤100;omega) (by show 2≤100;omega);have c2:=Zh9 ⟨#[120,50]⟩ ⟨#[121,50]⟩ ps[y] k2.sm.nat (by show 2≤100;omega) (by show 2≤100;omega);have t1:=Zhh (x:=⟨#[120,49]⟩) (y:=⟨#[121,49]⟩) k1.sm.nat.i64
   have t2:=Zhh (x:=⟨#[120,50]⟩) (y:=⟨#[121,50]⟩) k2.sm.nat.i64;have t1:(pxS ⟨#[120,49]⟩ ⟨#[121,49]⟩ ps[x]).size≤60:=Zwj t1 (by show 2+2+49≤60;omega);have t2:(pxS ⟨#[120,50]⟩ ⟨#[121,50]⟩ ps[y]).size≤60:=Zwj t2 (by show 2+2+49≤60;omega);unfold lnR at hsu;clear q1 q2 q3 kS kP kL kC cL cS cC cX hT0 hd hP hsX;generalize txs (ltx ps ls) T0 i=T at *;generalize ps[x]=a at *;generalize ps[y]=b at *;obtain⟨a1,a2⟩:=a;obtain⟨b1,b2⟩:=b;simp only at gx gy;have c1:Pure prog 23 [strA ⟨#[120,49]⟩,strA ⟨#[121,49]⟩,.agg [iv a1,iv a2]] _:=c1;have c2:Pure prog 23 [strA ⟨#[120,50]⟩,strA ⟨#[121,50]⟩,.agg [iv b1,iv b2]] _:=c2
   generalize pxS ⟨#[120,49]⟩ ⟨#[121,49]⟩ (a1,a2)=A at *;generalize pxS ⟨#[120,50]⟩ ⟨#[121,50]⟩ (b1,b2)=B at *;(focus (refine wkad (w_16 e4 m4 e12 e13 e50 e51 e52 gi gx gy hll hpl @Zw8 t1 t2 hq) (w_2 c1 c2) (w_1 (w_d 13 [(6,.v (.string A)),(14,.v (.string B))] [] [])) ?_;(repeat' first|exact w_t|apply w_l);all_goals intros));exact⟨i+1,⟨zo,⟨gW e4,gW m4⟩,gW e12,by rw [hsu];exact gC,gW e50,gW e51,gS⟩,zo⟩
  ·have hii:i=ls.length:=zo;subst hii;(focus (refine wkad (w_8 e4 m4 e12 e13 e50 e51 e52 hcl) (w_1 cC) w_t ?_;(repeat' first|exact w_t|apply w_l);all_goals intros));refine Zai (ι:=Nat) (λi e m=>i≤cs.length∧(e 4=.pbox 4 g4 0∧m 4=some (.box g4 25 [.sl 6 M,.sl 5 N] false))∧e 12=.sl 2 P∧e 13=.v (.string (txs (ctx ps cs) (txs (ltx ps ls) T0 ls.length) i))∧e 76=.sl 2 CS∧e 77=iv cs.length∧e 78=iv i) (λi=>cs.length - i) 0 zr ?_ ?_
   ·clear e4 m4 e12 e13 e50 e51 e52
    rintro i e m ⟨hi,⟨e4,m4⟩,e12,e13,e76,e77,e78⟩
    by_cases hlt:i < cs.length
    ·have gi:=kC i hlt;obtain⟨a1,a2,a3,a4⟩:=ok.ci _ (Zwq hlt);have hsu:txs (ctx ps cs) (txs (ltx ps ls) T0 ls.length) (i+1)=txs (ctx ps cs) (txs (ltx ps ls) T0 ls.length) i++ctx ps cs i:=rfl;have hq:=q2 i hi;have hpart:ctx ps cs i=crR (pat ps cs[i].1) (rdN (pat ps cs[i].1) (pat ps cs[i].2)):=by unfold ctx;rw [Zgu hlt,cr_eq]
     rw [hpart] at hsu;clear hpart;generalize cs[i]=p at *;obtain⟨x,y⟩:=p;simp only at a1 a2 a3 a4 gi hsu;obtain⟨x,rfl⟩:=Zyc a1;obtain⟨y,rfl⟩:=Zyc a3;have hx:x < ps.length:=zo;have hy:y < ps.length:=zo;rw [Zet hx,Zet hy] at hsu;have gx:=kP x hx;have gy:=kP y hy;have k1:=ok.ix _ (Zwq hx);have k2:=ok.ix _ (Zwq hy);have hr:=Zqk k1.sm k2.sm;have c1:=Zh9 ⟨#[99,120]⟩ ⟨#[99,121]⟩ ps[x] k1.sm.nat (by show 2≤100;omega) (by show 2≤100;omega);have c2:=rfRadN ps[x] ps[y] k1.sm k2.sm;have c3:=Zto (rdN ps[x] ps[y]) zo;have t1:=Zhh (x:=⟨#[99,120]⟩) (y:=⟨#[99,121]⟩) k1.sm.nat.i64
     have t2:=Zc3 (rdN ps[x] ps[y]:Int) zo zo;have t1:(pxS ⟨#[99,120]⟩ ⟨#[99,121]⟩ ps[x]).size≤60:=Zwj t1 (by show 2+2+49≤60;omega);unfold crR at hsu;clear q1 q2 q3 kS kP kL kC cL cS cC cX hT0 hd hP hsX;generalize txs (ctx ps cs) (txs (ltx ps ls) T0 ls.length) i=T at *;generalize rdN ps[x] ps[y]=r at *;generalize ps[x]=a at *;generalize ps[y]=b at *;obtain⟨a1,a2⟩:=a;obtain⟨b1,b2⟩:=b;simp only at gx gy;have c1:Pure prog 23 [strA ⟨#[99,120]⟩,strA ⟨#[99,121]⟩,.agg [iv a1,iv a2]] _:=c1;have c2:Pure prog 26 [.agg [iv a1,iv a2],.agg [iv b1,iv b2]] _:=c2;generalize pxS ⟨#[99,120]⟩ ⟨#[99,121]⟩ (a1,a2)=A at *
     generalize itS (r:Int)=B at *;(focus (refine wkad (w_16 e4 m4 e12 e13 e76 e77 e78 gi gx gy hcl hpl @Zw8 t1 t2 hq) (w_3 c1 c2 c3) (w_1 (w_d 18 [(6,.v (.string A)),(19,iv r),(20,.v (.string B))] [] [])) ?_;(repeat' first|exact w_t|apply w_l);all_goals intros));exact⟨i+1,⟨zo,⟨gW e4,gW m4⟩,gW e12,by rw [hsu];exact gC,gW e76,gW e77,gS⟩,zo⟩
    ·have hii:i=cs.length:=zo;subst hii;(focus (refine wkad (w_8 e4 m4 e12 e13 e76 e77 e78 hls) w_t w_t ?_;(repeat' first|exact w_t|apply w_l);all_goals intros));refine Zai (ι:=Nat) (λi e m=>i≤ss.length∧(e 4=.pbox 4 g4 0∧m 4=some (.box g4 25 [.sl 6 M,.sl 5 N] false))∧e 12=.sl 2 P∧e 13=.v (.string (txs (ptx ps ss) (txs (ctx ps cs) (txs (ltx ps ls) T0 ls.length) cs.length) i))∧e 108=.sl 6 M∧e 109=iv ss.length∧e 110=iv i) (λi=>ss.length - i) 0 zr ?_ ?_
     ·clear e4 m4 e12 e13 e76 e77 e78
      rintro i e m ⟨hi,⟨e4,m4⟩,e12,e13,e108,e109,e110⟩
      by_cases hlt:i < ss.length
      ·have gi:=kS i hlt;have hsu:txs (ptx ps ss) (txs (ctx ps cs) (txs (ltx ps ls) T0 ls.length) cs.length) (i+1)=txs (ptx ps ss) (txs (ctx ps cs) (txs (ltx ps ls) T0 ls.length) cs.length) i++ptx ps ss i:=rfl;have hq:=q3 i hi;have hni:=ok.nm _ (Zwq hlt);have hx:i < ps.length:=zo;have hpart:ptx ps ss i=if ss[i].nm.size=0 then ptR ps[i] else ptR ps[i]++txR ps[i] ss[i].nm:=by unfold ptx;rw [Zet hx,Zja hlt,pt_eq,tx_eq]
       rw [hpart] at hsu;clear hpart;have gx:=kP i hx;have k1:=ok.ix _ (Zwq hx);have c1:=Zh9 ⟨#[99,120]⟩ ⟨#[99,121]⟩ ps[i] k1.sm.nat (by show 2≤100;omega) (by show 2≤100;omega);have c2:=Zh9 ⟨#[120]⟩ ⟨#[121]⟩ (ps[i].1+5,ps[i].2 - 5) k1.up (by show 1≤100;omega) (by show 1≤100;omega);have t1:=Zhh (x:=⟨#[99,120]⟩) (y:=⟨#[99,121]⟩) k1.sm.nat.i64;have t2:=Zhh (x:=⟨#[120]⟩) (y:=⟨#[121]⟩) k1.up.i64;have t1:(pxS ⟨#[99,120]⟩ ⟨#[99,121]⟩ ps[i]).size≤60:=Zwj t1 (by show 2+2+49≤60;omega);have t2:(pxS ⟨#[120]⟩ ⟨#[121]⟩ (ps[i].1+5,ps[i].2 - 5)).size≤60:=Zwj t2 (by show 1+1+49≤60;omega)
       unfold ptR txR at hsu;clear q1 q2 q3 kS kP kL kC cL cS cC cX hT0 hd hP hsX;generalize txs (ptx ps ss) (txs (ctx ps cs) (txs (ltx ps ls) T0 ls.length) cs.length) i=T at *;generalize ps[i]=a at *;generalize ss[i]=s at *;obtain⟨a1,a2⟩:=a;obtain⟨k,nm,ar,⟨bo,l,d⟩⟩:=s;obtain⟨p1,p2,p3,p4⟩:=k1;simp only at gx hsu hni p1 p2 p3 p4 c2 t2;have w1:IntKind.i64.wrap (a1+5)=a1+5:=Za9 zo zo;have w2:IntKind.i64.wrap (a2 - 5)=a2 - 5:=Za9 zo zo;have gi:M.getD i .u=.agg [iv k,strA nm,ivs ar,.v (.bool bo),lim l,lim d]:=gi;have c1:Pure prog 23 [strA ⟨#[99,120]⟩,strA ⟨#[99,121]⟩,.agg [iv a1,iv a2]] _:=c1
       have c2:Pure prog 23 [strA ⟨#[120]⟩,strA ⟨#[121]⟩,.agg [iv (a1+5),iv (a2 - 5)]] _:=c2;generalize pxS ⟨#[99,120]⟩ ⟨#[99,121]⟩ (a1,a2)=A at *;generalize pxS ⟨#[120]⟩ ⟨#[121]⟩ (a1+5,a2 - 5)=B at *;have hst:=Zhd nm;by_cases h0:nm.size=0
       ·rw [Zv6 h0] at hsu;rw [Zv8 h0] at hst;(focus (refine wkad (w_15 e4 m4 e12 e13 e108 e109 e110 gi gx hls hpl hst @Zw8 t1 hq) (w_2 c1 c2) w_t ?_;(repeat' first|exact w_t|apply w_l);all_goals intros));exact⟨i+1,⟨zo,⟨gW e4,gW m4⟩,gW e12,by rw [hsu];exact gC,gW e108,gW e109,gS⟩,zo⟩
       ·rw [Zv5 h0,←ByteArray.append_assoc] at hsu;rw [Zv7 h0] at hst;(focus (refine wkad (w_19 e4 m4 e12 e13 e108 e109 e110 gi gx hls hpl hst w1 w2 @Zw8 t1 t2 hq hni) (w_2 c1 c2) (w_1 (w_d 25 [(14,.v (.string B))] [] [])) ?_;(repeat' first|exact w_t|apply w_l);all_goals intros));exact⟨i+1,⟨zo,⟨gW e4,gW m4⟩,gW e12,by rw [hsu];exact gC,gW e108,gW e109,gS⟩,zo⟩
      ·have hii:i=ss.length:=zo;subst hii;have hq:=q3 _ (Zwa _);unfold endT;generalize txs (ptx ps ss) (txs (ctx ps cs) (txs (ltx ps ls) T0 ls.length) cs.length) ss.length=T at *;clear q1 q2 q3 kS kP kL kC cL cS cC cX;(focus (refine wkad (w_9 e4 m4 e12 e13 e108 e109 e110 @Zw8 hq) w_t w_t ?_;(repeat' first|exact w_t|apply w_l);all_goals intros));all_goals exact gL
     ·exact⟨Zwk _,⟨gW e4,gW m4⟩,gW e12,by rw [txs_0];exact gW e13,gC,gW hls,gC⟩
   ·exact⟨Zwk _,⟨gW e4,gW m4⟩,gW e12,by rw [txs_0];exact gW e13,gC,gW hcl,gC⟩
 ·exact⟨Zwk _,⟨gC,gC⟩,gC,by rw [txs_0];exact gW hd,gC,gW hll,gC⟩
def Zix (s:RS):Bool:=!(decide (8 < s.ar.length) || decide (4 < s.r.l.length) || decide (4 < s.r.d.length))
def Ziy (g:RG):Bool:=!(decide (12 < g.ar.length) || decide (4 < g.r.l.length) || decide (4 < g.r.d.length))
def fit45 (ss:List RS) (gs:List RG):Bool:=ss.all Zix && (gs.all Ziy && (decide (ss.length≤60) && decide (gs.length≤12)))
theorem Zv0 {α:Type} {p:α→Bool} {l:List α} {i:Nat} (h:i < l.length) (hp:p l[i]=false):l.all p=false:=by
 rw [Bool.eq_false_iff];intro ha;rw [Zy1] at ha;rw [ha _ (Zwq h)] at hp;cases hp
theorem Zvz {α:Type} {p:α→Bool} {l:List α} (h:∀j (hj:j < l.length),p l[j]=true):l.all p=true:=by
 rw [Zy1];intro x hx;obtain⟨j,hj,rfl⟩:=List.mem_iff_getElem.1 hx;exact h j hj
theorem lwFit45 (ss:List RS) (gs:List RG) (h1:ss.length≤maxLen) (h2:gs.length≤maxLen):Pure prog 4 [figA ss gs] (.v (.bool (fit45 ss gs))):=by
 have h1:ss.length≤9223372036854775807:=h1;have h2:gs.length≤9223372036854775807:=h2;have hls:(ss.map RS.av).length=ss.length:=Zv9 ..;have hlg:(gs.map RG.av).length=gs.length:=Zv9 ..;have kS:∀i (h:i < ss.length),(ss.map RS.av).getD i .u=ss[i].av:=λi h=>Zaf RS.av h;have kG:∀i (h:i < gs.length),(gs.map RG.av).getD i .u=gs[i].av:=λi h=>Zaf RG.av h;show Pure _ _ [.agg [.sl 6 (ss.map RS.av),.sl 5 (gs.map RG.av)]] _;generalize ss.map RS.av=M at *;generalize gs.map RG.av=N at *;unfold fit45;refine pI func4 rfl ntmps4 results4 call4 ?_;(focus (refine wkad (w_1 hls) w_t w_t ?_;(repeat' first|exact w_t|apply w_l);all_goals intros))
 rename_i g1;refine Zai (ι:=Nat) (λi e m=>i≤ss.length∧(e 1=.pbox 1 g1 0∧m 1=some (.box g1 25 [.sl 6 M,.sl 5 N] false))∧e 8=.sl 6 M∧e 9=iv ss.length∧e 10=iv i∧∀j (h:j < ss.length),j < i→Zix ss[j]=true) (λi=>ss.length - i) 0 zr ?_ ?_
 ·rintro i e m ⟨hi,⟨e1,m1⟩,e8,e9,e10,hn⟩
  by_cases hlt:i < ss.length
  ·have gi:=kS i hlt;have hw:IntKind.i64.wrap ((i:Int)+1)=((i+1:Nat):Int):=by rw [Za9 zo zo];omega
   have hlt2:(i:Int) < (ss.length:Int):=zo;by_cases hc:Zix ss[i]=true
   ·have hne:∀j (h:j < ss.length),j < i+1→Zix ss[j]=true:=λj h hj=>by
     by_cases e:j=i
     ·subst e;exact hc
     ·exact hn j h zo
    generalize ss[i]=s at *;obtain⟨k,nm,ar,⟨bo,l,d⟩⟩:=s;unfold Zix at hc;simp only [Zyd,Zzo,Zy3] at hc;obtain⟨⟨d1,d2⟩,d3⟩:=hc;have hll:(ar.map iv).length=ar.length:=Zv9 ..;(focus (refine wkad (w_11 e1 m1 e8 e9 e10 gi hls hll @Zau hw hlt2) w_t w_t ?_;(repeat' first|exact w_t|apply w_l);all_goals intros));exact⟨i+1,⟨zo,⟨gW e1,gW m1⟩,gW e8,gW e9,gW hw,hne⟩,zo⟩
   ·have hc:=Bool.eq_false_iff.2 hc;rw [Zv0 hlt hc,Zwx];generalize ss[i]=s at *;obtain⟨k,nm,ar,⟨bo,l,d⟩⟩:=s;unfold Zix at hc;simp only [Bool.not_eq_false',Zx2,Zw4] at hc;have hll:(ar.map iv).length=ar.length:=Zv9 ..;by_cases c1:8 < ar.length
    ·(focus (refine wkad (w_10 e1 m1 e8 e9 e10 gi hls hll @Zau hlt2) w_t w_t ?_;(repeat' first|exact w_t|apply w_l);all_goals intros));all_goals exact gL
    ·by_cases c2:4 < l.length
     ·(focus (refine wkad (w_10 e1 m1 e8 e9 e10 gi hls hll @Zau hlt2) w_t w_t ?_;(repeat' first|exact w_t|apply w_l);all_goals intros));all_goals exact gL
     ·have c3:4 < d.length:=zo;(focus (refine wkad (w_10 e1 m1 e8 e9 e10 gi hls hll @Zau hlt2) w_t w_t ?_;(repeat' first|exact w_t|apply w_l);all_goals intros));all_goals exact gL
  ·have hii:i=ss.length:=zo;subst hii;rw [Zvz (p:=Zix) λj hj=>hn j hj hj,Zyj];have hnl:¬(ss.length:Int) < (ss.length:Int):=zo;(focus (refine wkad (w_8 e1 m1 e8 e9 e10 hls hlg hnl) w_t w_t ?_;(repeat' first|exact w_t|apply w_l);all_goals intros));refine Zai (ι:=Nat) (λi e m=>i≤gs.length∧(e 1=.pbox 1 g1 0∧m 1=some (.box g1 25 [.sl 6 M,.sl 5 N] false))∧e 35=.sl 5 N∧e 36=iv gs.length∧e 37=iv i∧∀j (h:j < gs.length),j < i→Ziy gs[j]=true) (λi=>gs.length - i) 0 zr ?_ ?_
   ·rintro i e m ⟨hi,⟨e1,m1⟩,e35,e36,e37,hn⟩
    by_cases hlt:i < gs.length
    ·have gi:=kG i hlt;have hw:IntKind.i64.wrap ((i:Int)+1)=((i+1:Nat):Int):=by rw [Za9 zo zo];omega
     have hlt2:(i:Int) < (gs.length:Int):=zo;by_cases hc:Ziy gs[i]=true
     ·have hne:∀j (h:j < gs.length),j < i+1→Ziy gs[j]=true:=λj h hj=>by
       by_cases e:j=i
       ·subst e;exact hc
       ·exact hn j h zo
      generalize gs[i]=s at *;obtain⟨k,ar,⟨bo,l,d⟩⟩:=s;unfold Ziy at hc;simp only [Zyd,Zzo,Zy3] at hc;obtain⟨⟨d1,d2⟩,d3⟩:=hc;have hll:(ar.map iv).length=ar.length:=Zv9 ..;(focus (refine wkad (w_11 e1 m1 e35 e36 e37 gi hlg hll @Zau hw hlt2) w_t w_t ?_;(repeat' first|exact w_t|apply w_l);all_goals intros));exact⟨i+1,⟨zo,⟨gW e1,gW m1⟩,gW e35,gW e36,gW hw,hne⟩,zo⟩
     ·have hc:=Bool.eq_false_iff.2 hc;rw [Zv0 hlt hc,Zwx];generalize gs[i]=s at *;obtain⟨k,ar,⟨bo,l,d⟩⟩:=s;unfold Ziy at hc;simp only [Bool.not_eq_false',Zx2,Zw4] at hc;have hll:(ar.map iv).length=ar.length:=Zv9 ..;by_cases c1:12 < ar.length
      ·(focus (refine wkad (w_10 e1 m1 e35 e36 e37 gi hlg hll @Zau hlt2) w_t w_t ?_;(repeat' first|exact w_t|apply w_l);all_goals intros));all_goals exact gL
      ·by_cases c2:4 < l.length
       ·(focus (refine wkad (w_10 e1 m1 e35 e36 e37 gi hlg hll @Zau hlt2) w_t w_t ?_;(repeat' first|exact w_t|apply w_l);all_goals intros));all_goals exact gL
       ·have c3:4 < d.length:=zo;(focus (refine wkad (w_10 e1 m1 e35 e36 e37 gi hlg hll @Zau hlt2) w_t w_t ?_;(repeat' first|exact w_t|apply w_l);all_goals intros));all_goals exact gL
    ·have hii:i=gs.length:=zo;subst hii;rw [Zvz (p:=Ziy) λj hj=>hn j hj hj,Zyj];have hnl:¬(gs.length:Int) < (gs.length:Int):=zo;by_cases c1:ss.length≤60
     ·rw [Zv8 c1,Zyj];by_cases c2:gs.length≤12
      ·rw [Zv8 c2];(focus (refine wkad (w_8 e1 m1 e35 e36 e37 hlg hls hnl) w_t w_t ?_;(repeat' first|exact w_t|apply w_l);all_goals intros));all_goals exact gL
      ·rw [Zv7 c2];(focus (refine wkad (w_8 e1 m1 e35 e36 e37 hlg hls hnl) w_t w_t ?_;(repeat' first|exact w_t|apply w_l);all_goals intros));all_goals exact gL
     ·rw [Zv7 c1,Zwx];(focus (refine wkad (w_8 e1 m1 e35 e36 e37 hlg hls hnl) w_t w_t ?_;(repeat' first|exact w_t|apply w_l);all_goals intros));all_goals exact gL
   ·exact⟨Zwk _,⟨gW e1,gW m1⟩,gC,gW hlg,gC,λj h hj=>zo⟩
 ·exact⟨Zwk _,⟨gC,gC⟩,gC,gW hls,gC,λj h hj=>zo⟩
attribute [go_sem] underlying28
theorem szPct:szOf prog 28=some 5:=by kernel_rfl
theorem Zs8:szOf prog 26=some 1:=by kernel_rfl
theorem lwSvgs0 (M N LB:List AV) (w h:Int) (cf:Pure prog 4 [.agg [.sl 6 M,.sl 5 N]] (.v (.bool false))):Pure prog 3 [.agg [.sl 6 M,.sl 5 N,.sl 12 LB,iv w,iv h]] (.v (.bool true)):=by
 have hz1:=szPct;have hz2:=Zs8;refine pI func3 rfl ntmps3 results3 call3 ?_;(focus (refine wkad (w_2 hz1 hz2) (w_1 cf) w_t ?_;(repeat' first|exact w_t|apply w_l);all_goals intros));all_goals exact gL
theorem lwSvgs1 (M N LB:List AV) (w h:Int) (cf:Pure prog 4 [.agg [.sl 6 M,.sl 5 N]] (.v (.bool true))) (cb:Pure prog 5 [.sl 12 LB] (.v (.bool false))):Pure prog 3 [.agg [.sl 6 M,.sl 5 N,.sl 12 LB,iv w,iv h]] (.v (.bool true)):=by
 have hz1:=szPct;have hz2:=Zs8;refine pI func3 rfl ntmps3 results3 call3 ?_;(focus (refine wkad (w_2 hz1 hz2) (w_2 cf cb) w_t ?_;(repeat' first|exact w_t|apply w_l);all_goals intros));all_goals exact gL
theorem lwSvgs2 (M N LB:List AV) (w h z:Int) (s:ByteArray) (cf:Pure prog 4 [.agg [.sl 6 M,.sl 5 N]] (.v (.bool true))) (cb:Pure prog 5 [.sl 12 LB] (.v (.bool true)))
 (c1:Pure prog 6 [.agg [.sl 6 M,.sl 5 N],.sl 12 LB,iv w,iv h] (.tup [strA s,iv z])) (c2:Pure prog 7 [.agg [.sl 6 M,.sl 5 N],.sl 12 LB,iv w,iv h] (.tup [strA s,iv z])) :
 Pure prog 3 [.agg [.sl 6 M,.sl 5 N,.sl 12 LB,iv w,iv h]] (.v (.bool true)):=by
 have hz1:=szPct;have hz2:=Zs8;refine pI func3 rfl ntmps3 results3 call3 ?_;(focus (refine wkad (w_2 hz1 hz2) (w_4 cf cb c1 c2) w_t ?_;(repeat' first|exact w_t|apply w_l);all_goals intros));all_goals exact gL
theorem bothSvg (ss:List RS) (gs:List RG) (bs:List BxQ) (w h:Int) (hss:ss.length≤60) (hgs:gs.length≤12) (sm:∀s∈ss,s.sm) (gm:∀g∈gs,g.sm) (hnm:∀s∈ss,s.nm.size≤50000000) (hsz:∀b∈bs,b.sz 4) (hlen:bs.length≤12) :
 ∃(s:ByteArray) (z:Int),Pure prog 6 [figA ss gs,.sl 12 (bs.map BxQ.av),iv w,iv h] (.tup [strA s,iv z])∧Pure prog 7 [figA ss gs,.sl 12 (bs.map BxQ.av),iv w,iv h] (.tup [strA s,iv z]):=by
 have cR:=lwRight ss gs zo zo sm gm;have cL:=rlRight ss gs zo zo sm gm;have hls:(ss.map RS.av).length=ss.length:=Zv9 ..;have hlb:(bs.map BxQ.av).length=bs.length:=Zv9 ..;by_cases hf:figE ss gs=0
 ·have ok:=lnOk hf;have okC:=lnOkC hf;rw [hf] at cR cL;have d1:=drLines1 ss gs cR ok;have r1:=rfLines1 ss gs cL ok;have d2:=Zvh ss gs okC;have r2:=Ztp ss gs okC;rw [←Zv1 ss gs] at r2;by_cases hne:bs.length=ss.length
  ·by_cases hbad:w < 100∨4000 < w∨h < 100∨4000 < h
   ·exact⟨_,2,drSvg3 _ _ _ w h 2 _ zo zo zo d1 (Zvn (.sl 12 (bs.map BxQ.av)) w h hbad),rfSvg3 _ _ _ w h 2 _ zo zo zo r1 (Zt5 (.sl 12 (bs.map BxQ.av)) w h hbad)⟩
   ·obtain⟨W,rfl⟩:∃W:Nat,w=W:=⟨w.toNat,zo⟩;obtain⟨H,rfl⟩:∃H:Nat,h=H:=⟨h.toNat,zo⟩;have l3:=Zju (Zcf ss gs) ss.length ss.length;have l4:=Zlz (Zb8 ss gs) ss.length ss.length;have l5:ss.length*ss.length≤12*12:=Zyq zo zo;have hli:∀p∈Zdi (Zcf ss gs) ss.length ss.length,0≤p.1∧p.1 < (ss.length:Int)∧0≤p.2∧p.2 < (ss.length:Int):=λp hp=>by
     obtain⟨i,k,h1,h2,h3,_,rfl⟩:=(Zht _ _ _ _).1 hp;simp only;omega
    have hci:∀p∈refC (Zb8 ss gs) ss.length ss.length,0≤p.1∧p.1 < (ss.length:Int)∧0≤p.2∧p.2 < (ss.length:Int):=λp hp=>by
     obtain⟨i,k,h1,h2,_,rfl⟩:=(Zi9 _ _ _ _).1 hp;simp only;omega
    have key:∀ps:List Pr,ps.length=ss.length→(∀p∈ps,inX p)→Pure prog 11 [.sl 12 (bs.map BxQ.av),iv W,iv H] (.tup [.sl 2 (ps.map prA),iv 0])→Pure prog 22 [.sl 12 (bs.map BxQ.av),iv W,iv H] (.tup [.sl 2 (ps.map prA),iv 0]) →
     ∃(s:ByteArray) (z:Int),Pure prog 6 [figA ss gs,.sl 12 (bs.map BxQ.av),iv W,iv H] (.tup [strA s,iv z])∧Pure prog 7 [figA ss gs,.sl 12 (bs.map BxQ.av),iv W,iv H] (.tup [strA s,iv z]):=λps h1 h2 e1 e2=>by
     have sv:SvOk ps (Zdi (Zcf ss gs) ss.length ss.length) (refC (Zb8 ss gs) ss.length ss.length) ss:=⟨zo,h1,h2,hli,hci,zo,zo,hnm⟩;exact⟨_,0,drSvg ps _ _ ss gs _ W H sv zo zo zo d1 e1 d2,rfSvg ps _ _ ss gs _ W H sv zo zo zo r1 e2 r2⟩
    cases bs with
    | nil =>
      refine key [] hne (λp hp=>by cases hp) ?_ ?_
      ·exact Zcx (Zvm W H zo zo zo zo) (Vk.tupL (.cons (.nil 2) (.cons (.refl _) .nil)))
      ·exact Zcx (Zt4 W H zo zo zo zo) (Vk.tupL (.cons (.nil 2) (.cons (.refl _) .nil)))
    | cons b0 rest =>
      have so:=scale_ok b0 rest W H zo zo zo zo rfl rfl rfl rfl rfl;have hl2:rest.length≤100:=by have:(b0 :: rest).length=rest.length+1:=rfl;omega
      have hok:=λb hb=>(⟨Zqc zo (so.2 b hb).1,Zqc zo (so.2 b hb).2⟩:_∧_);have c1:=dScale b0 rest W H hsz hl2 zo zo zo zo rfl rfl rfl rfl rfl hok;have c2:=rScale b0 rest W H hsz hl2 zo zo zo zo rfl rfl rfl rfl rfl hok;clear hok;generalize minF b0.cx (rest.map BxQ.cx)=x0 at *;generalize maxF b0.cx (rest.map BxQ.cx)=x1 at *;generalize minF b0.cy (rest.map BxQ.cy)=y0 at *;generalize maxF b0.cy (rest.map BxQ.cy)=y1 at *;generalize fac W H (x1 - x0) (y1 - y0)=f at *;have ep:(b0 :: rest).map (pixA f x0 y0 H)=((b0 :: rest).map λb=>((rnd (pxR f x0 b):Int),(rnd (pyR f y0 H b):Int))).map prA:=by rw [List.map_map];rfl
      rw [ep] at c1 c2;refine key _ (by rw [Zv9];exact hne) (λp hp=>?_) c1 c2;obtain⟨b,hb,rfl⟩:=List.mem_map.1 hp;have sb:=so.2 b hb;refine⟨?_,?_,?_,?_⟩<;>(simp only;unfold rnd;omega)
  ·exact⟨_,16,drSvg2 _ _ _ w h _ zo zo zo d1,rfSvg2 _ _ _ w h _ zo zo zo r1⟩
 ·exact⟨_,_,drSvg1 _ _ _ w h _ hf (drLines0 ss gs cR hf),rfSvg1 _ _ _ w h _ hf (rfLines0 ss gs cL hf)⟩
theorem lawSvgs (ss:List RS) (gs:List RG) (l:List RBox) (w h:Int) (h1:ss.length≤maxLen) (h2:gs.length≤maxLen) (hs:∀s∈ss,Zix s=true→s.sm) (hg:∀g∈gs,Ziy g=true→g.sm) (hnm:∀s∈ss,s.nm.size≤50000000) (hm:∀b∈l,b.lm 1100000) (hl:l.length≤1000000000) :
 Pure prog 3 [.agg [.sl 6 (ss.map RS.av),.sl 5 (gs.map RG.av),.sl 12 (l.map RBox.av),iv w,iv h]] (.v (.bool true)):=by
 have cf:=lwFit45 ss gs h1 h2;have cB:=lBoxes l hm hl
 cases hf:fit45 ss gs with
 | false =>
   rw [hf] at cf;exact lwSvgs0 _ _ _ w h cf
 | true =>
   rw [hf] at cf
   cases hB:okB l with
   | false =>
     rw [hB] at cB;exact lwSvgs1 _ _ _ w h cf cB
   | true =>
     obtain⟨hrow,hsz,h12⟩:=okB_row hm hB;rw [hB] at cB;rw [hrow] at cB ⊢;unfold fit45 at hf;simp only [Zwv,Zw4,Zy1] at hf;obtain⟨a1,a2,a3,a4⟩:=hf;obtain⟨s,z,k1,k2⟩:=bothSvg ss gs (l.map RBox.q) w h a3 a4 (λs h=>hs s h (a1 s h)) (λg h=>hg g h (a2 g h)) hnm hsz (by rw [Zv9];exact h12);exact lwSvgs2 _ _ _ w h z s cf cB k1 k2
section
variable {n:Nat} {cs:List AV}
theorem shBoxV {N:Nat} (h:Zb7 prog N n 49 cs):∃b:RBox,cs=[.v (.bool b.a.s),lim b.a.l,lim b.a.d,.v (.bool b.b.s),lim b.b.l,lim b.b.d,.v (.bool b.c.s),lim b.c.l,lim b.c.d,.v (.bool b.d.s),lim b.d.l,lim b.d.d]∧b.lm N:=by
 obtain⟨m,rfl,hs⟩:=Zb3 underlying49 zk h;obtain⟨x,y,rfl,h1,hs⟩:=hs.inv;obtain⟨z,y,rfl,h2,hs⟩:=hs.inv;obtain rfl:=hs.inv0;obtain⟨p,q,rfl,h3,h4⟩:=Zkw h1;obtain⟨r,s,rfl,h5,h6⟩:=Zkw h2;exact⟨⟨p,q,r,s⟩,rfl,h3,h4,h5,h6⟩
theorem shBoxesV (h:Zb7 prog 1048576 n 26 cs):∃l:List RBox,cs=[.sl 12 (l.map RBox.av)]∧(∀b∈l,b.lm 1100000)∧l.length≤1000000000:=by
 obtain⟨bs,rfl,hl,hq⟩:=Zc8 underlying26 h λm x hx=>shBoxV hx;refine⟨bs,?_,λb hb=>?_,zo⟩
 ·rw [show prog.cellsOf 49=12 from by kernel_rfl];congr 2
 ·obtain⟨⟨a1,a2,a3,a4⟩,⟨b1,b2,b3,b4⟩,⟨c1,c2,c3,c4⟩,⟨d1,d2,d3,d4⟩⟩:=hq b hb;exact⟨⟨a1,a2,zo,zo⟩,⟨b1,b2,zo,zo⟩,⟨c1,c2,zo,zo⟩,⟨d1,d2,zo,zo⟩⟩
theorem shFigV {N:Nat} (h:Zb7 prog N n 25 cs):∃(ss:List RS) (gs:List RG),cs=[.sl 6 (ss.map RS.av),.sl 5 (gs.map RG.av)]∧ss.length≤N∧gs.length≤N∧(∀s∈ss,s.r.lm N∧s.nm.size≤N∧s.ar.length≤N)∧∀s∈gs,s.r.lm N∧s.ar.length≤N:=by
 obtain⟨m,rfl,hs⟩:=Zb3 underlying25 zk h;obtain⟨x,y,rfl,h1,hs⟩:=hs.inv;obtain⟨x3,y,rfl,h3,hs⟩:=hs.inv;obtain rfl:=hs.inv0;obtain⟨ss,rfl,hl,hq⟩:=shSteps h1;obtain⟨gs,rfl,kl,kq⟩:=shFacts h3;exact⟨ss,gs,rfl,hl,kl,hq,kq⟩
end
theorem saidSvgs (xs:List AV) (h:ShapeL prog 1048576 9 [28] xs):Pure prog 3 xs (.v (.bool true)):=by
 obtain⟨x,bs,rfl,h1,h⟩:=h.inv;obtain rfl:=h.inv0;obtain⟨m,_,hs⟩:=Zb3 underlying28 zk h1;obtain⟨x1,y,rfl,k1,hs⟩:=hs.inv;obtain⟨x2,y,rfl,k2,hs⟩:=hs.inv;obtain⟨x3,y,rfl,k3,hs⟩:=hs.inv;obtain⟨x4,y,rfl,k4,hs⟩:=hs.inv;obtain rfl:=hs.inv0;obtain⟨ss,gs,rfl,hl,kl,hq,kq⟩:=shFigV k1;obtain⟨l,rfl,b1,b2⟩:=shBoxesV k2;obtain⟨w,rfl,_⟩:=Zfe underlying3 k3;obtain⟨v,rfl,_⟩:=Zfe underlying3 k4;rw [Zjg underlying28];have hM:(1048576:Nat)≤maxLen:=by decide
 refine lawSvgs ss gs l w v zo zo (λs hs _=>?_) (λg hg _=>?_) (λs hs=>?_) b1 b2
 ·obtain⟨⟨a,b,c1,d1⟩,c,d⟩:=hq s hs;exact⟨⟨a,b,zo,zo⟩,zo,zo⟩
 ·obtain⟨⟨a,b,c1,d1⟩,c⟩:=kq g hg;exact⟨⟨a,b,zo,zo⟩,zo⟩
 ·have:=(hq s hs).2.1;omega
end Go.Proofs.YtaedgaikloifgaaGreatDoor
