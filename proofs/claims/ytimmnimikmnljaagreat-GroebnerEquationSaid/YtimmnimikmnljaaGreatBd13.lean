/- Contracts of the functions that the law reaches, and the rules by which they are walked. They say what a call hands back for every input within the bounds that each names; no other condition. -/
import Derived.Test.YtimmnimikmnljaaGreatBd12
set_option linter.unusedSimpArgs false
set_option linter.unusedVariables false
set_option maxRecDepth 20000
set_option maxHeartbeats 16000000
namespace Go.Proofs.YtimmnimikmnljaaGreat
open Go Go.RowKit Go.Pg Go.Pol
attribute [-bool_to_prop] Bool.and_eq_decide Bool.or_eq_decide Bool.decide_beq_decide decide_eq_decide
attribute [local go_sem] Tryz.underlying3 Tryz.underlying4 Tryz.underlying27 Tryz.underlying44 Tryz.underlying42 Tryz.underlying40 Tryz.underlying48 Tryz.underlying22 Tryz.underlying46 Tryz.underlying23 Tryz.underlying24 Tryz.underlying45 sz3 by3 z3 szB zB Zcd zRat Zcf zInt Zce zNat Zbq Zbt Zcs Zbs Zbv Zcu Zbr Zbu Zct Zee Zep Zg4 Zg9 zSlE Zed Zg3 Zef Zeq Zg5 Tryz.underlying87 Tryz.underlying83 Tryz.underlying120 Tryz.underlying117
abbrev elA (e:Po × List Po):AV:=.agg [poA e.1,.sl 1 (e.2.map poA)]
theorem grAnyL (Cs:List Po) (hl:Cs.length≤1000000) (h:∀c∈Cs,Pure Tryz.prog 29 [poA c] (.v (.bool false))):Pure Tryz.prog 153 [.sl 1 (Cs.map poA),.fn 29 []] (.v (.int .i64 (-1))):=by
 refine Zaa (tok:=0) Tryz.func153 rfl Tryz.ntmps153 Tryz.results153 Tryz.call153 (by rfl) (by simp) ?_;(focus (refine wkad (w_1 @Za4) w_t w_t ?_;(repeat' first|exact w_t|apply w_l);all_goals intros));refine Zag (ι:=Nat) (λi e' m'=>i≤Cs.length∧e' 0=.sl 1 (Cs.map poA)∧e' 1=.fn 29 []∧e' 7=iv Cs.length∧e' 8=iv i) (λi=>Cs.length - i) 0 (by rfl) ?_ ?_
 ·rintro i e' m' ⟨hi,e0,e1,e7,e8⟩
  by_cases hlt:i < Cs.length
  ·have hg:=Zbb poA hlt;have c:=h _ (List.getElem_mem hlt);generalize Cs[i]=t at *;(focus (refine wkad (w_6 e0 e1 e7 e8 hg @Za4) (w_1 c) w_t ?_;(repeat' first|exact w_t|apply w_l);all_goals intros));exact⟨i+1,⟨by omega,by exact gW e0,by exact gW e1,by exact gW e7,by exact gS⟩,by omega⟩
  ·(focus (refine wkld (w_5 e0 e1 e7 e8 @Za4) w_t w_t w_t ?_;(repeat' first|exact w_t|apply w_l);all_goals intros))
 ·exact⟨Nat.zero_le _,by exact gC,by exact gC,by(simp (disch:=omega) only [go_sem,List.length_map]<;>repeat' first|rfl|refine⟨?_,?_⟩),by exact gC⟩
theorem Zts (Cs:List Po) (hl:Cs.length≤1000000) (h:∀c∈Cs,Pure Tryz.prog 29 [poA c] (.v (.bool false))):Pure Tryz.prog 101 [.sl 1 (Cs.map poA),.fn 29 []] (.v (.bool false)):=by
 have c:=grAnyL Cs hl h;refine Zaa (tok:=0) Tryz.func101 rfl Tryz.ntmps101 Tryz.results101 Tryz.call101 (by rfl) (by simp) ?_;(focus (refine wkld w_t (w_1 c) w_t w_t ?_;(repeat' first|exact w_t|apply w_l);all_goals intros))
theorem grAdd (σ:Mem) (KB KL KP KC KM gB hM qL qP qC:Nat) (svL svP svC:Value) (o:Int) (L:List (Po × List Po)) (p P:Po) (cm:List AV) (Cs:List Po) (t:Tm) (a:Rat)
 (hB:σ KB=some (.box gB 120 [.v (.int .i64 o),.own KL svL,.own KP svP,.mp KM hM] false)) (hL:σ KL=some (.row svL 87 2 (L.map elA) qL)) (hP:σ KP=some (.row svP 23 1 (L.map λe=>poA e.1) qP)) (hC:σ KC=some (.row svC 23 1 cm qC))
 (n1:KB≠KL) (n2:KB≠KP) (n3:KL≠KP) (hl:L.length≤1000) (hcl:cm.length≤1000) (hCl:Cs.length=cm.length) (hce:∀i,i < cm.length→cm.getD i .u=.v (.slice none 0 0)∨∃q:Po,cm.getD i .u=poA q)
 (c1:Pure Tryz.prog 18 [poA p,.v (.int .i64 o)] (.tup [tmA t,.v (.bool true)])) (c2:Pure Tryz.prog 75 [iv 1] (ratQ 1)) (c3:Pure Tryz.prog 71 [ratQ 1,ratQ t.1] (.tup [ratQ a,iv 0]))
 (c4:Pure Tryz.prog 125 [poA p,ratQ a] (poA P)) (c5:∀i,i < cm.length→Pure Tryz.prog 125 [cm.getD i .u,ratQ a] (poA (Cs.getD i []))) (c6:Pure Tryz.prog 29 [poA P] (.v (.bool false))) (c7:∀c∈Cs,Pure Tryz.prog 29 [poA c] (.v (.bool false))) :
 ACall Tryz.prog 103 [.pbox KB gB 0,poA p,.own KC svC] σ λr σ'=>∃svL' svP',r=iv 0∧σ'=upd (upd (upd σ KL (some (.row svL' 87 2 ((L++[(P,Cs)]).map elA) qL))) KP (some (.row svP' 23 1 ((L++[(P,Cs)]).map λe=>poA e.1) qP))) KB (some (.box gB 120 [.v (.int .i64 o),.own KL svL',.own KP svP',.mp KM hM] false)):=by
 have c8:=Zts Cs (by omega) c7;have mB:=Zcb hB;have mL:=Zcb hL;have mP:=Zcb hP;have mC:=Zcb hC;simp only [Ent.sh,AV.shL,AV.sh] at mB mL mP mC;have hlL:(L.map elA).length=L.length:=List.length_map ..;have hlP:(L.map λe=>poA e.1).length=L.length:=List.length_map ..;have aL:(L++[(P,Cs)]).map elA=L.map elA++[elA (P,Cs)]:=List.map_append ..;have aP:((L++[(P,Cs)]).map λe=>poA e.1)=(L.map λe=>poA e.1)++[poA P]:=List.map_append ..;rw [aL,aP];clear aL aP c7;generalize L.map elA=eL at *;generalize (L.map λe=>poA e.1)=eP at *;obtain⟨t1,t2⟩:=t;simp only at c3;generalize (1:Rat)=one at *
 refine Zc7 Tryz.func103 rfl Tryz.ntmps103 Tryz.results103 Tryz.call103 (by rfl) (by simp) ?_;(focus (refine wkad (w_5 mB mL mP mC @Zcr) (w_4 c1 c2 c3 c4) (w_2 (w_d 2 [(0,ratQ one),(3,.tup [ratQ a,iv 0])] [] [9]) (w_d 99 [] [] [])) ?_;(repeat' first|exact w_t|apply w_l);all_goals intros));rename_i g7 g9 g11;refine Ze5 (Frz.nilBox (k:=11) 1 46 1 23 (by exact gC) (by rfl) (by omega)) ?_;refine Zag (ι:=Nat) (λi e m=>i≤cm.length∧e 0=.pbox (KB+1000) gB 0∧e 9=.pbox 9 g9 0∧m 9=some (.box g9 44 [.v (.bool (decide (a.num < 0))),lim (toL a.num.natAbs),lim (toL a.den)] false)∧e 11=.pbox 11 g11 0∧e 34=.own (KC+1000) svC∧e 35=iv cm.length∧e 36=iv i∧Agr m σ∧∃sv,m 11=some (.box g11 87 [poA P,.own 46 sv] false)∧m 46=some (.row sv 23 1 ((Cs.take i).map poA) 0)) (λi=>cm.length - i) 0 (by rfl) ?_ ?_
 ·rintro i e m ⟨hi,e0,e9,m9,e11,e34,e35,e36,hA,sv,m11,m46⟩
  have mB:=hA KB;have mL:=hA KL;have mP:=hA KP;have mC:=hA KC;rw [hB] at mB;rw [hL] at mL;rw [hP] at mP;rw [hC] at mC;simp only [Option.map_some,Ent.sh,AV.shL,AV.sh] at mB mL mP mC;by_cases hlt:i < cm.length
  ·have c:=c5 i hlt
   have hT:(Cs.take (i+1)).map poA=(Cs.take i).map poA++[poA (Cs.getD i [])]:=by
    rw [List.take_succ_eq_append_getElem (by omega),List.map_append,List.getD_eq_getElem?_getD,List.getElem?_eq_getElem (by omega)];rfl
   have hn:((Cs.take i).map poA).length=i:=by rw [List.length_map,List.length_take];omega
   generalize (Cs.take i).map poA=out at *;generalize Cs.getD i []=C at *;have hcc:=hce i hlt;generalize hg:cm.getD i .u=c0 at *;rcases hcc with rfl | ⟨q,rfl⟩
   all_goals
    (focus (refine wkad (w_12 e0 e9 m9 e11 e34 e35 e36 m11 m46 mC hg hn) (w_1 c) (w_1 (w_d 7 [(4,poA C)] [6,8] [45])) ?_;(repeat' first|exact w_t|apply w_l);all_goals intros));exact⟨i+1,⟨by omega,by exact gW e0,by exact gW e9,by exact gW m9,by exact gW e11,by exact gW e34,by exact gW e35,by exact gS,by(repeat' (first|exact hA|refine Agr.own ?_ (by omega))),_,by exact gC,by rw [hT];exact gC⟩,by omega⟩
  ·have hTa:Cs.take i=Cs:=List.take_of_length_le (by omega);rw [hTa] at m46;generalize hcn:Cs.map poA=cn at *
   (repeat' (first|(fail)|(with_reducible first|refine stp ?_|apply gx1|apply gx2|apply gx3|apply gx4|apply gx5|apply gx6|apply gx7|apply gy8|apply gz2|apply gz3|refine gw0 (c6) ?_ ?_|refine gw3 (c6) ?_ ?_ ?_|apply gw1 (c8))|(with_reducible refine Zbf ?_;intro _)|((with_reducible refine gE ?_);(try simp (disch:=omega) only [go_sem,e0,e9,m9,e11,e34,e35,e36,m11,m46,mB,mL,mP,mC,decide_eq_true,decide_eq_false,if_pos,if_neg,Int.reduceAdd,Int.reduceSub,Int.reduceToNat,Int.zero_add])<;>first|rfl|omega)|with_reducible refine Zaf (by decide) ?_|((with_reducible apply gy1);iterate 3 focus rfl)|((with_reducible apply gy2);iterate 3 focus rfl)|((with_reducible apply gy3);iterate 2 focus rfl)|((with_reducible apply gy4);iterate 1 focus rfl)|((with_reducible apply gy5);iterate 4 focus rfl)|((with_reducible apply gy5c);iterate 4 focus rfl)|((with_reducible apply gy6);iterate 4 focus rfl)|((with_reducible apply Zc0);iterate 3 focus rfl)|((with_reducible apply Zcz);iterate 1 focus rfl)|((with_reducible apply gy7);iterate 1 focus rfl)|((with_reducible apply gy9);(focus ((with_reducible refine gE ?_);(try simp (disch:=omega) only [go_sem,e0,e9,m9,e11,e34,e35,e36,m11,m46,mB,mL,mP,mC,decide_eq_true,decide_eq_false,if_pos,if_neg,Int.reduceAdd,Int.reduceSub,Int.reduceToNat,Int.zero_add])<;>rfl)))|((with_reducible apply gz1);(focus first|rfl|(simp (disch:=omega) only [go_sem,e0,e9,m9,e11,e34,e35,e36,m11,m46,mB,mL,mP,mC,decide_eq_true,decide_eq_false,if_pos,if_neg,Int.reduceAdd,Int.reduceSub,Int.reduceToNat,Int.zero_add];done)))|((with_reducible apply Za2 (id:=99) (Zcg []) [] []);(focus kernel_rfl);(focus rfl);(focus kernel_rfl);(focus (simp only [List.length_cons,List.length_nil,Nat.reduceAdd];rfl)))|((with_reducible first|apply Zbm|apply Zbw|apply Zbn);all_goals (intro hc;(try simp only [bool_to_prop] at hc);try (exfalso;omega)))))
   refine Zp9 (Frz.boxPub (k:=11) (j:=1) (K:=46) (cs:=[poA P,.own 46 sv]) (sv:=sv) (g:=g11) (el:=cn) (mm:=1) (ty:=23) (bt:=87) (pub:=cn.length) (by exact gW m11) (by rfl) (by exact gC) (by omega)) ?_;have k1:(KB+1000 == KL+1000)=false:=by rw [beq_eq_false_iff_ne];omega
   have k2:(KB+1000 == KP+1000)=false:=by rw [beq_eq_false_iff_ne];omega
   have k5:∀c,c < 1000→(KB+1000 == c)=false:=λc h=>by rw [beq_eq_false_iff_ne];omega
   have k3:∀c,c < 1000→(c == KL+1000)=false:=λc h=>by rw [beq_eq_false_iff_ne];omega
   have k4:∀c,c < 1000→(c == KP+1000)=false:=λc h=>by rw [beq_eq_false_iff_ne];omega
   (focus (refine wkad (w_18 e0 e9 m9 e11 e34 e35 e36 m11 m46 mB mL mP mC k1 k2 k3 k4 k5) w_t (w_1 (w_d 11 [] [8,1008,3008,16,1016,3016,19,2019,22] [KL+1000,KP+1000,64,72])) ?_;(repeat' first|exact w_t|apply w_l);all_goals intros));rename_i v64 vl v72 vp;simp (disch:=omega) only [go_sem];refine Zpo (Sub.refl _) ⟨vl,vp,rfl,rfl⟩ λk=>?_;have hk:=hA k;by_cases kB:k=KB
   ·subst kB;simp only [Zaz,if_true,Option.map_some,Ent.sh,AV.shL,AV.sh]
   by_cases kP:k=KP
   ·subst kP;simp (disch:=omega) only [Zaz,if_true,if_pos,if_neg,Option.map_some,Ent.sh]
   by_cases kL:k=KL
   ·subst kL;simp (disch:=omega) only [Zaz,if_true,if_pos,if_neg,Option.map_some,Ent.sh];rw [←hcn]
   simp (disch:=omega) only [Zaz,if_neg,hk]
 ·exact⟨Nat.zero_le _,by exact gC,by exact gC,by exact gC,by exact gC,by exact gC,by exact gC,by exact gC,by(repeat' (first|exact Agr.start _|refine Agr.own ?_ (by omega))),_,by exact gC,by(simp (disch:=omega) only [go_sem,List.take_zero,List.map_nil]<;>repeat' first|rfl|refine⟨?_,?_⟩)⟩
section
variable {P:Program} {f:FuncId} {args:List AV} {e:Nat→AV} {m:Mem} {K:St→Prop} {t d:Nat}
theorem o_any {R:AV→Mem→Prop} (c:ACall P f args m R) (h:∀r σ',R r σ'→K ⟨upd e d r,σ'⟩):aRes P t (some d) (.call f args) K ⟨e,m⟩:=c.mono λr σ' h1=>h r σ' h1
end
structure Hid (p:Prop):Prop where
 h:p
theorem Ztu {l:List Po} {n:Nat} (h:n < l.length):(l.map poA).getD n .u=poA (l.getD n []):=by rw [Zbb poA h,List.getD_eq_getElem?_getD,List.getElem?_eq_getElem h];rfl
theorem Ztt (σ:Mem) (KB KL KP KM gB hM qP:Nat) (svL svP:Value) (o:Int) (L:List (Po × List Po)) (i k:Nat) (a b:Po) (t u:Tm)
 (hB:σ KB=some (.box gB 120 [.v (.int .i64 o),.own KL svL,.own KP svP,.mp KM hM] false)) (hP:σ KP=some (.row svP 23 1 (L.map λe=>poA e.1) qP))
 (hl:L.length≤1000) (hi:i < L.length) (hk:k < L.length) (ha:(L.getD i ([],[])).1=a) (hb:(L.getD k ([],[])).1=b)
 (c1:Pure Tryz.prog 18 [poA a,.v (.int .i64 o)] (.tup [tmA t,.v (.bool true)])) (c2:Pure Tryz.prog 18 [poA b,.v (.int .i64 o)] (.tup [tmA u,.v (.bool true)])) (c3:Pure Tryz.prog 154 [ivs t.2,ivs u.2] (.v (.bool true))) :
 ACall Tryz.prog 104 [.pbox KB gB 0,iv i,iv k] σ λr σ'=>r=iv 0∧σ'=σ:=by
 have mB:=Zcb hB;have mP:=Zcb hP;simp only [Ent.sh,AV.shL,AV.sh] at mB mP;have hlP:(L.map λe=>poA e.1).length=L.length:=List.length_map ..;have g1:(L.map λe=>poA e.1).getD i .u=poA a:=by rw [←ha,List.getD_eq_getElem?_getD,List.getElem?_map,List.getElem?_eq_getElem hi,List.getD_eq_getElem?_getD,List.getElem?_eq_getElem hi];rfl
 have g2:(L.map λe=>poA e.1).getD k .u=poA b:=by rw [←hb,List.getD_eq_getElem?_getD,List.getElem?_map,List.getElem?_eq_getElem hk,List.getD_eq_getElem?_getD,List.getElem?_eq_getElem hk];rfl
 clear ha hb;generalize (L.map λe=>poA e.1)=eP at *;have k5:∀c,c < 1000→(KB+1000 == c)=false:=λc h=>by rw [beq_eq_false_iff_ne];omega
 obtain⟨t1,t2⟩:=t;obtain⟨u1,u2⟩:=u;simp only at c3;refine Zc7 Tryz.func104 rfl Tryz.ntmps104 Tryz.results104 Tryz.call104 (by rfl) (by simp) ?_;(focus (refine wkax (w_7 mB mP @Zcr g1 g2 hlP k5) (w_1 c3) w_t w_t (w_2 c1 c2) w_t (w_r 0) ?_;(repeat' first|exact w_t|apply w_l);all_goals intros));simp (disch:=omega) only [go_sem];refine Zpo (Sub.refl _) ⟨rfl,rfl⟩ ?_
 (repeat' (first|exact Agr.start _|(refine Agr.own ?_ (by omega))))
theorem Zfa:Tryz.prog.underlying 151=some (.array 2 3):=by kernel_rfl
theorem Zh3:szOf Tryz.prog 151=some 2:=by kernel_rfl
theorem zArr:Zb4 Tryz.prog 151=some (.agg #[.int .i64 0,.int .i64 0]):=by kernel_rfl
theorem Ze9:Tryz.prog.underlying 118=some (.map 151 4):=by kernel_rfl
theorem Zh2:szOf Tryz.prog 118=some 1:=by kernel_rfl
theorem zMap:Zb4 Tryz.prog 118=some (.map none):=by kernel_rfl
attribute [local go_sem] Zfa Zh3 zArr Ze9 Zh2 zMap
abbrev cofL (L:List (Po × List Po)) (i n:Nat):Po:=(L.getD i ([],[])).2.getD n []
set_option maxHeartbeats 32000000 in
theorem grExam (σ:Mem) (KB KL KP KM gB hM qL qP:Nat) (svL svP:Value) (o:Int) (L:List (Po × List Po)) (i k nc:Nat) (a b s r f g:Po) (t u v:Tm) (Q:List Po) (W:Nat→Nat→Po) (P:Po) (Cs:List Po) (x:Rat)
 (hB:σ KB=some (.box gB 120 [.v (.int .i64 o),.own KL svL,.own KP svP,.mp KM hM] false)) (hL:σ KL=some (.row svL 87 2 (L.map elA) qL)) (hP:σ KP=some (.row svP 23 1 (L.map λe=>poA e.1) qP)) (hM0:σ KM=some (.map hM []))
 (n1:KB≠KL) (n2:KB≠KP) (n3:KL≠KP) (n4:KB≠KM) (n5:KL≠KM) (n6:KP≠KM)
 (hl:L.length≤100) (hi:i < L.length) (hk:k < L.length) (ha:(L.getD i ([],[])).1=a) (hb:(L.getD k ([],[])).1=b) (hnc:nc≤100) (hcl:∀e∈L,e.2.length=nc) (hQ:Q.length=L.length) (hr:r.length≠0) (hCl:Cs.length=nc)
 (c1:Pure Tryz.prog 18 [poA a,.v (.int .i64 o)] (.tup [tmA t,.v (.bool true)])) (c2:Pure Tryz.prog 18 [poA b,.v (.int .i64 o)] (.tup [tmA u,.v (.bool true)])) (c3:Pure Tryz.prog 154 [ivs t.2,ivs u.2] (.v (.bool false)))
 (c4:Pure Tryz.prog 13 [poA a,poA b,.v (.int .i64 o)] (.tup [poA s,iv 0])) (c5:Pure Tryz.prog 8 [poA s,.sl 1 (L.map λe=>poA e.1),.v (.int .i64 o)] (.tup [.sl 1 (Q.map poA),poA r,iv 0])) (c6:Pure Tryz.prog 39 [poA a,poA b,.v (.int .i64 o)] (.tup [poA f,poA g,.v (.int .i64 0)]))
 (c7:∀n,n < nc→∃y z,Pure Tryz.prog 17 [poA f,poA (cofL L i n)] (poA y)∧Pure Tryz.prog 17 [poA g,poA (cofL L k n)] (poA z)∧Pure Tryz.prog 31 [poA y,poA z] (poA (W n 0)))
 (c8:∀n,n < nc→∀j,j < L.length→∃z,Pure Tryz.prog 17 [poA (Q.getD j []),poA (cofL L j n)] (poA z)∧Pure Tryz.prog 31 [poA (W n j),poA z] (poA (W n (j+1))))
 (d1:Pure Tryz.prog 18 [poA r,.v (.int .i64 o)] (.tup [tmA v,.v (.bool true)])) (d2:Pure Tryz.prog 75 [iv 1] (ratQ 1)) (d3:Pure Tryz.prog 71 [ratQ 1,ratQ v.1] (.tup [ratQ x,iv 0]))
 (d4:Pure Tryz.prog 125 [poA r,ratQ x] (poA P)) (d5:∀n,n < nc→Pure Tryz.prog 125 [poA (W n L.length),ratQ x] (poA (Cs.getD n []))) (d6:Pure Tryz.prog 29 [poA P] (.v (.bool false))) (d7:∀c∈Cs,Pure Tryz.prog 29 [poA c] (.v (.bool false))) :
 ACall Tryz.prog 104 [.pbox KB gB 0,iv i,iv k] σ λr σ'=>∃svL' svP',r=iv 0∧σ'=upd (upd (upd (upd σ KM (some (.row (.slice none 0 0) 0 0 [] 0))) KL (some (.row svL' 87 2 ((L++[(P,Cs)]).map elA) qL))) KP (some (.row svP' 23 1 ((L++[(P,Cs)]).map λe=>poA e.1) L.length))) KB (some (.box gB 120 [.v (.int .i64 o),.own KL svL',.own KP svP',.mp KM hM] false)):=by
 have mB:=Zcb hB;have mL:=Zcb hL;have mP:=Zcb hP;have mM:=Zcb hM0;simp only [Ent.sh,AV.shL,AV.sh] at mB mL mP mM;have hlL:(L.map elA).length=L.length:=List.length_map ..;have hlP:(L.map λe=>poA e.1).length=L.length:=List.length_map ..;have gP:∀j,j < L.length→(L.map λe=>poA e.1).getD j .u=poA (L.getD j ([],[])).1:=λj hj=>by rw [List.getD_eq_getElem?_getD,List.getElem?_map,List.getElem?_eq_getElem hj,List.getD_eq_getElem?_getD,List.getElem?_eq_getElem hj];rfl
 have g1:=gP i hi;have g2:=gP k hk;rw [ha] at g1;rw [hb] at g2;have gE:∀j,j < L.length→(L.map elA).getD j .u=.agg [poA (L.getD j ([],[])).1,.sl 1 ((L.getD j ([],[])).2.map poA)]:=λj hj=>by rw [List.getD_eq_getElem?_getD,List.getElem?_map,List.getElem?_eq_getElem hj,List.getD_eq_getElem?_getD,List.getElem?_eq_getElem hj];rfl
 have gC:∀j,j < L.length→((L.getD j ([],[])).2.map poA).length=nc∧∀n,n < nc→((L.getD j ([],[])).2.map poA).getD n .u=poA (cofL L j n):=λj hj=>by
  have hm:L.getD j ([],[])∈L:=by rw [List.getD_eq_getElem?_getD,List.getElem?_eq_getElem hj];exact List.getElem_mem hj
  have he:=hcl _ hm;refine⟨by rw [List.length_map];exact he,λn hn=>?_⟩;exact Ztu (by omega)
 have gQ:∀j,j < L.length→(Q.map poA).getD j .u=poA (Q.getD j []):=λj hj=>Ztu (by omega);have lQ:(Q.map poA).length=L.length:=by rw [List.length_map];exact hQ
 generalize heP:(L.map λe=>poA e.1)=eP at *;generalize heL:L.map elA=eL at *;generalize Q.map poA=QQ at *;have G:=Hid.mk (And.intro gP (And.intro gE (And.intro gC gQ)));clear gP gE gC gQ;have k5:∀c,c < 1000→(KB+1000 == c)=false:=λc h=>by rw [beq_eq_false_iff_ne];omega
 obtain⟨t1,t2⟩:=t;obtain⟨u1,u2⟩:=u;simp only at c3;refine Zc7 Tryz.func104 rfl Tryz.ntmps104 Tryz.results104 Tryz.call104 (by rfl) (by simp) ?_;(focus (refine wkax (w_8 mB mP mM @Zcr g1 g2 hlP k5) (w_1 c3) w_t w_t (w_2 c1 c2) w_t (w_r 0) ?_;(repeat' first|exact w_t|apply w_l);all_goals intros))
 (repeat' (first|(fail)|(with_reducible first|refine stp ?_|apply gx1|apply gx2|apply gx3|apply gx4|apply gx5|apply gx6|apply gx7|apply gy8|apply gz2|apply gz3|refine gw0 (c4) ?_ ?_|refine gw3 (c4) ?_ ?_ ?_)|(with_reducible refine Zbf ?_;intro _)|((with_reducible refine gE ?_);(try simp (disch:=omega) only [go_sem,mB,mP,Zcr,k5,decide_eq_true,decide_eq_false,if_pos,if_neg,Int.reduceAdd,Int.reduceSub,Int.reduceToNat,Int.zero_add])<;>first|rfl|omega)|with_reducible refine Zaf (by decide) ?_|((with_reducible apply gy1);iterate 3 focus rfl)|((with_reducible apply gy2);iterate 3 focus rfl)|((with_reducible apply gy3);iterate 2 focus rfl)|((with_reducible apply gy4);iterate 1 focus rfl)|((with_reducible apply gy5);iterate 4 focus rfl)|((with_reducible apply gy5c);iterate 4 focus rfl)|((with_reducible apply gy6);iterate 4 focus rfl)|((with_reducible apply Zc0);iterate 3 focus rfl)|((with_reducible apply Zcz);iterate 1 focus rfl)|((with_reducible apply gy7);iterate 1 focus rfl)|((with_reducible apply gy9);(focus ((with_reducible refine gE ?_);(try simp (disch:=omega) only [go_sem,mB,mP,Zcr,k5,decide_eq_true,decide_eq_false,if_pos,if_neg,Int.reduceAdd,Int.reduceSub,Int.reduceToNat,Int.zero_add])<;>rfl)))|((with_reducible apply gz1);(focus first|rfl|(simp (disch:=omega) only [go_sem,mB,mP,Zcr,k5,decide_eq_true,decide_eq_false,if_pos,if_neg,Int.reduceAdd,Int.reduceSub,Int.reduceToNat,Int.zero_add];done)))|((with_reducible apply Za2 (id:=99) (Zcg []) [] []);(focus kernel_rfl);(focus rfl);(focus kernel_rfl);(focus (simp only [List.length_cons,List.length_nil,Nat.reduceAdd];rfl)))|((with_reducible first|apply Zbm|apply Zbw|apply Zbn);all_goals (intro hc;(try simp only [bool_to_prop] at hc);try (exfalso;omega)))))
 refine Zp9 (Frz.mark (K:=KP+1000)) ?_;have cR:=rdc_pub (K:=KP+1000) (sv:=svP) (ty:=23) c5 rfl rfl (λ_=>⟨trivial,rfl⟩) (λ_=>⟨trivial,rfl⟩);(focus (refine wkax (w_4 mB mP @Zcr k5) w_t (w_1 (w_d 12 [(9,.tup [.sl 1 QQ,poA r,iv 0])] [] [])) w_t w_t (w_1 cR) (w_r 0) ?_;(repeat' first|exact w_t|apply w_l);all_goals intros));clear cR;have gi:=G.h.2.1 i hi;obtain⟨li,gin⟩:=G.h.2.2.1 i hi;have gk:=G.h.2.1 k hk;obtain⟨lk,gkn⟩:=G.h.2.2.1 k hk;have G2:=Hid.mk (And.intro gin gkn);clear gin gkn c4 c5 c1 c2 c3;(focus (refine wkad (w_8 mB mL mP @Zcr k5 gi li hlL) (w_1 c6) w_t ?_;(repeat' first|exact w_t|apply w_l);all_goals intros))
 have hmA:Agr (upd (upd (Zin σ) (KM+1000) (some (.row (.slice none 0 0) 0 0 [] 0))) (KP+1000) (some (.row svP 23 1 eP eP.length))) (upd (upd σ KM (some (.row (.slice none 0 0) 0 0 [] 0))) KP (some (.row svP 23 1 eP eP.length))):=((Agr.start σ).put (k:=KM) (e:=.row (.slice none 0 0) 0 0 [] 0) rfl rfl).put (k:=KP) (e:=.row svP 23 1 eP eP.length) rfl rfl;refine Ze5 (Frz.nilOwn (d:=20) 184 1 23 (by exact gC)) ?_;refine Zag (ι:=Nat) (λn e m=>n≤nc∧e 0=.pbox (KB+1000) gB 0∧e 1=iv i∧e 2=iv k∧e 15=.sl 1 QQ∧e 16=poA r∧e 17=poA f∧e 18=poA g∧e 127=iv nc∧e 128=iv n∧Agr m (upd (upd σ KM (some (.row (.slice none 0 0) 0 0 [] 0))) KP (some (.row svP 23 1 eP eP.length)))∧∃sv,e 20=.own 184 sv∧m 184=some (.row sv 23 1 ((List.range n).map λn=>poA (W n L.length)) 0)) (λn=>nc - n) 0 (by rfl) ?_ ?_
 ·rintro n e m ⟨hn,e0,e1,e2,e15,e16,e17,e18,e127,e128,hA,sv,e20,m184⟩
  have mB:=hA KB;have mL:=hA KL;have mP:=hA KP;have mM:=hA KM;simp (disch:=omega) only [Zaz,if_neg,if_pos,hB,hL,Option.map_some,Ent.sh,AV.shL,AV.sh] at mB mL mP mM;by_cases hlt:n < nc
  ·obtain⟨y,z,p1,p2,p3⟩:=c7 n hlt;have q1:=G2.h.1 n hlt;have q2:=G2.h.2 n hlt;have hst:(List.range (n+1)).map (λn=>poA (W n L.length))=(List.range n).map (λn=>poA (W n L.length))++[poA (W n L.length)]:=by rw [List.range_succ,List.map_append];rfl
   have hol:((List.range n).map λn=>poA (W n L.length)).length=n:=by rw [List.length_map,List.length_range]
   have hc8:=Hid.mk (c8 n hlt);generalize hou:(List.range n).map (λn=>poA (W n L.length))=out at *;generalize (L.getD i ([],[])).2.map poA=ci at *;generalize (L.getD k ([],[])).2.map poA=ck at *;(focus (refine wkad (w_22 e0 e1 e2 e15 e16 e17 e18 e127 e128 e20 m184 mB mL k5 gi gk li lk hlL q1 q2 lQ) (w_3 p1 p2 p3) (w_1 (w_d 22 [(12,poA y),(25,poA z),(26,poA (W n 0))] [] [])) ?_;(repeat' first|exact w_t|apply w_l);all_goals intros));refine Zag (ι:=Nat) (λj e m=>j≤L.length∧e 0=.pbox (KB+1000) gB 0∧e 1=iv i∧e 2=iv k∧e 15=.sl 1 QQ∧e 16=poA r∧e 17=poA f∧e 18=poA g∧e 127=iv nc∧e 128=iv n∧Agr m (upd (upd σ KM (some (.row (.slice none 0 0) 0 0 [] 0))) KP (some (.row svP 23 1 eP eP.length)))∧e 20=.own 184 sv∧m 184=some (.row sv 23 1 out 0)∧e 21=iv n∧e 22=poA (W n j)∧e 158=.sl 1 QQ∧e 159=iv L.length∧e 160=iv j) (λj=>L.length - j) 0 (by rfl) ?_ ?_
   ·rintro j e m ⟨hj,e0,e1,e2,e15,e16,e17,e18,e127,e128,hA,e20,m184,e21,e22,e158,e159,e160⟩
    have mB:=hA KB;have mL:=hA KL;simp (disch:=omega) only [Zaz,if_neg,if_pos,hB,hL,Option.map_some,Ent.sh,AV.shL,AV.sh] at mB mL;by_cases hlj:j < L.length
    ·obtain⟨zj,p4,p5⟩:=hc8.h j hlj;have gj:=G.h.2.1 j hlj;obtain⟨lj,gjn⟩:=G.h.2.2.1 j hlj;have q3:=gjn n hlt;have q4:=G.h.2.2.2 j hlj;clear gjn;generalize (L.getD j ([],[])).2.map poA=cj at *;generalize W n j=w0 at *;generalize hw1:W n (j+1)=w1 at *;generalize Q.getD j []=qj at *;(focus (refine wkad (w_a e0 (w_24 e1 e2 e15 e16 e17 e18 e127 e128 e20 m184 e21 e22 e158 e159 e160 mB mL k5 gj lj hlL q3 q4 lQ)) (w_2 p4 p5) w_t ?_;(repeat' first|exact w_t|apply w_l);all_goals intros));exact⟨j+1,⟨by omega,by exact gW e0,by exact gW e1,by exact gW e2,by exact gW e15,by exact gW e16,by exact gW e17,by exact gW e18,by exact gW e127,by exact gW e128,by(repeat' (first|exact hA|refine Agr.own ?_ (by omega))),by exact gW e20,by exact gW m184,by exact gW e21,by rw [hw1];exact gC,by exact gW e158,by exact gW e159,by exact gS⟩,by omega⟩
    ·obtain rfl:j=L.length:=by omega
     generalize W n L.length=w0 at *;(focus (refine wkad (w_17 e0 e1 e2 e15 e16 e17 e18 e127 e128 e20 m184 e21 e22 e158 e159 e160 hol) w_t w_t ?_;(repeat' first|exact w_t|apply w_l);all_goals intros));exact⟨n+1,⟨by omega,by exact gW e0,by exact gW e1,by exact gW e2,by exact gW e15,by exact gW e16,by exact gW e17,by exact gW e18,by exact gW e127,by exact gS,by(repeat' (first|exact hA|refine Agr.own ?_ (by omega))),_,by exact gC,by rw [hst];exact gC⟩,by omega⟩
   ·exact⟨Nat.zero_le _,by exact gW e0,by exact gW e1,by exact gW e2,by exact gW e15,by exact gW e16,by exact gW e17,by exact gW e18,by exact gW e127,by exact gW e128,by(repeat' (first|exact hA|refine Agr.own ?_ (by omega))),by exact gW e20,by exact gW m184,by exact gC,by exact gC,by exact gW e15,by(simp (disch:=omega) only [go_sem,lQ]<;>repeat' first|rfl|refine⟨?_,?_⟩),by exact gC⟩
  ·obtain rfl:n=nc:=by omega
   generalize hcm:(List.range n).map (λn=>poA (W n L.length))=cm at *;have lcm:cm.length=n:=by rw [←hcm,List.length_map,List.length_range]
   have gcm:∀j,j < n→cm.getD j .u=poA (W j L.length):=λj hj=>by rw [←hcm,List.getD_eq_getElem?_getD,List.getElem?_map,List.getElem?_range hj];rfl
   have add:=fun(m':Mem) (h1:m' (KB+1000)=_) (h2:m' (KL+1000)=_) (h3:m' (KP+1000)=_) (h4:m' 184=_)=>grAdd m' (KB+1000) (KL+1000) (KP+1000) 184 (KM+1000) gB hM qL eP.length 0 svL svP sv o L r P cm Cs v x h1 (by rw [heL];exact h2) (by rw [heP];exact h3) h4 (by omega) (by omega) (by omega) (by omega) (by omega) (by omega) (λj hj=>.inr ⟨_,gcm j (by omega)⟩) d1 d2 d3 d4 (λj hj=>by rw [gcm j (by omega)];exact d5 j (by omega)) d6 d7;have A:=Hid.mk add;clear add gcm c7 c8 d1 d2 d3 d4 d5 d6 d7;(focus (refine wkad (w_11 e0 e1 e2 e15 e16 e17 e18 e127 e128 e20 m184) w_t w_t ?_;(repeat' first|exact w_t|apply w_l);all_goals intros))
   refine o_any (A.h _ (by(simp (disch:=omega) only [go_sem,mB]<;>repeat' first|rfl|refine⟨?_,?_⟩)) (by(simp (disch:=omega) only [go_sem,mL]<;>repeat' first|rfl|refine⟨?_,?_⟩)) (by(simp (disch:=omega) only [go_sem,mP]<;>repeat' first|rfl|refine⟨?_,?_⟩)) (by exact gW m184)) ?_
   rintro r' σ' ⟨vl,vp,rfl,rfl⟩
   (focus (refine wkad w_t w_t w_t ?_;(repeat' first|exact w_t|apply w_l);all_goals intros));simp (disch:=omega) only [go_sem];refine Zpo (Sub.refl _) ⟨vl,vp,rfl,rfl⟩ λj=>?_;have hj:=hA j;by_cases kB:j=KB
   ·subst kB;simp (disch:=omega) only [Zaz,if_true,if_pos,Option.map_some,Ent.sh,AV.shL,AV.sh]
   by_cases kP:j=KP
   ·subst kP;simp (disch:=omega) only [Zaz,if_true,if_pos,if_neg,Option.map_some,Ent.sh,hlP]
   by_cases kL:j=KL
   ·subst kL;simp (disch:=omega) only [Zaz,if_true,if_pos,if_neg,Option.map_some,Ent.sh]
   simp (disch:=omega) only [Zaz,if_neg] at hj;simp (disch:=omega) only [Zaz,if_neg,hj]
 ·refine⟨Nat.zero_le _,by exact gC,by exact gC,by exact gC,by exact gC,by exact gC,by exact gC,by exact gC,by exact gW li,by exact gC,?_,_,by exact gC,by(simp (disch:=omega) only [go_sem,List.range_zero,List.map_nil]<;>repeat' first|rfl|refine⟨?_,?_⟩)⟩;refine λj=>?_;have hk:=hmA j;by_cases kP:j=KP
  ·subst kP;simp (disch:=omega) only [go_sem,Zaz,if_true,if_pos,if_neg,mP,Option.map_some,Ent.sh,Ent.mark]
  by_cases kM:j=KM
  ·subst kM;simp (disch:=omega) only [go_sem,Zaz,if_true,if_pos,if_neg,Option.map_some,Ent.sh]
  ·simp (disch:=omega) only [Zaz,if_neg] at hk;simp (disch:=omega) only [go_sem,Zaz,if_neg,hk]
def oneP:Po:=[(1,[])]
theorem Zqd:Pure Tryz.prog 102 [ratQ 1] (poA oneP):=by
 have z0:Sz (0:Rat) 1:=by simpa using Sz.int (z:=0) (k:=1) (by simp [Za3]) (by omega)
 have o0:Pure Tryz.prog 75 [iv 0] (ratQ 0):=ratOf 0 (by omega);have ad:=Zsq 1 0 Zqe z0 (by omega) (by omega);rw [Rat.add_zero] at ad;have sg:Pure Tryz.prog 73 [ratQ 1,.v (.slice none 0 0)] (poA oneP):=Zfn (Zqc 1 [] (by decide) Zqe (by omega)) (.cons (.refl _) (.cons (.nil 1) .nil));generalize (0:Rat)=q0 at *;generalize hr:oneP=r at *;generalize (1:Rat)=q1 at *;refine Zaa (tok:=0) Tryz.func102 rfl Tryz.ntmps102 Tryz.results102 Tryz.call102 (by rfl) (by simp) ?_;(focus (refine wkld w_t (w_3 o0 ad sg) w_t (w_1 (w_d 1 [(1,ratQ q0),(2,ratQ q1),(3,poA r)] [] [])) ?_;(repeat' first|exact w_t|apply w_l);all_goals intros))
structure BSt (σ:Mem) (gB hM:Nat) (svL svP:Value) (o:Int) (L:List (Po × List Po)) (qP:Nat):Prop where
 b:σ 19=some (.box gB 120 [.v (.int .i64 o),.own 301 svL,.own 302 svP,.mp 17 hM] false)
 l:σ 301=some (.row svL 87 2 (L.map elA) 0)
 p:σ 302=some (.row svP 23 1 (L.map λe=>poA e.1) qP)
def AddC (o:Int) (p:Po) (cm:List AV) (e:Po × List Po):Prop:=∃(t:Tm) (a:Rat),(e.2.length=cm.length∧cm.length≤1000∧∀i,i < cm.length→cm.getD i .u=.v (.slice none 0 0)∨∃q:Po,cm.getD i .u=poA q) ∧
 Pure Tryz.prog 18 [poA p,.v (.int .i64 o)] (.tup [tmA t,.v (.bool true)])∧Pure Tryz.prog 71 [ratQ 1,ratQ t.1] (.tup [ratQ a,iv 0])∧Pure Tryz.prog 125 [poA p,ratQ a] (poA e.1) ∧
 (∀i,i < cm.length→Pure Tryz.prog 125 [cm.getD i .u,ratQ a] (poA (e.2.getD i [])))∧Pure Tryz.prog 29 [poA e.1] (.v (.bool false))∧∀c∈e.2,Pure Tryz.prog 29 [poA c] (.v (.bool false))
theorem Zp8:Pure Tryz.prog 75 [iv 1] (ratQ 1):=ratOf 1 (by omega)
theorem AddC.call {o:Int} {p:Po} {cm:List AV} {e:Po × List Po} (h:AddC o p cm e) {σ:Mem} {gB hM KC qC:Nat} {svL svP svC:Value} {L:List (Po × List Po)} {qP:Nat} (hs:BSt σ gB hM svL svP o L qP) (hC:σ KC=some (.row svC 23 1 cm qC)) (hl:L.length≤1000) :
 ACall Tryz.prog 103 [.pbox 19 gB 0,poA p,.own KC svC] σ λr σ'=>∃svL' svP',r=iv 0∧BSt σ' gB hM svL' svP' o (L++[e]) qP∧σ' 17=σ 17:=by
 obtain⟨t,a,⟨h1,h2,h3⟩,h4,h5,h6,h7,h8,h9⟩:=h;refine(grAdd σ 19 301 302 KC 17 gB hM 0 qP qC svL svP svC o L p e.1 cm e.2 t a hs.b hs.l hs.p hC (by omega) (by omega) (by omega) hl h2 h1 h3 h4 Zp8 h5 h6 h7 h8 h9).mono ?_
 rintro r σ' ⟨svL',svP',rfl,rfl⟩
 refine⟨svL',svP',rfl,⟨?_,?_,?_⟩,?_⟩;all_goals simp only [Zaz];rfl
def ExC (o:Int) (L:List (Po × List Po)) (e:Po × List Po) (i k:Nat):Prop:=∀(σ:Mem) (gB hM:Nat) (svL svP:Value) (qP:Nat),BSt σ gB hM svL svP o L qP→σ 17=some (.map hM [])→ACall Tryz.prog 104 [.pbox 19 gB 0,iv i,iv k] σ λr σ'=>∃svL' svP',r=iv 0∧BSt σ' gB hM svL' svP' o (L++[e]) L.length
def ExN (o:Int) (L:List (Po × List Po)) (i k:Nat):Prop:=∀(σ:Mem) (gB hM:Nat) (svL svP:Value) (qP:Nat),BSt σ gB hM svL svP o L qP→ACall Tryz.prog 104 [.pbox 19 gB 0,iv i,iv k] σ λr σ'=>r=iv 0∧σ'=σ
theorem grBasis1 (o:Int) (l:List Po) (E:List (Po × List Po)) (hn:l.length=1) (hE:E.length=1) (hlg:∀p∈l,Pure Tryz.prog 29 [poA p] (.v (.bool false))) (h0:∀p∈l,p.length≠0)
 (hA:∀i,i < 1→AddC o (l.getD i []) ((List.replicate 1 (.v (.slice none 0 0))).set i (poA oneP)) (E.getD i ([],[]))) :
 Pure Tryz.prog 57 [.sl 1 (l.map poA),.v (.int .i64 o)] (.tup [.sl 2 ((E).map elA),iv 0]):=by
 have ch:=Zts l (by omega) hlg;have co:=Zqd;have c1:=Zp8;have hlm:(l.map poA).length=1:=by rw [List.length_map];exact hn
 have hgl:∀i,i < 1→(l.map poA).getD i .u=poA (l.getD i []):=λi hi=>Ztu (by omega);generalize hlM:l.map poA=M at *;generalize (1:Rat)=one at *;refine Zaa (tok:=0) Tryz.func57 rfl Tryz.ntmps57 Tryz.results57 Tryz.call57 (by rfl) (by simp) ?_;(focus (refine wkad (w_1 hlm) (w_1 ch) w_t ?_;(repeat' first|exact w_t|apply w_l);all_goals intros));rename_i hM gB;refine Ze5 (Frz.nilBox (k:=19) 1 301 2 87 (by exact gC) (by rfl) (by omega)) ?_;refine Ze5 (Frz.nilBox (k:=19) 2 302 1 23 (by exact gC) (by rfl) (by omega)) ?_;refine Zag (ι:=Nat) (λi e m=>i≤1∧e 0=.sl 1 M∧e 1=.v (.int .i64 o)∧e 6=.pbox 19 gB 0∧e 20=.sl 1 M∧e 21=iv 1∧e 22=iv i∧m 17=some (.map hM [])∧∃svL svP,BSt m gB hM svL svP o (E.take i) 0) (λi=>1 - i) 0 (by rfl) ?_ ?_
 ·rintro i e m ⟨hi,e0,e1,e6,e20,e21,e22,m17,svL,svP,hs⟩
  by_cases hlt:i < 1
  ·have hg:=hgl i hlt;have hp0:=h0 (l.getD i []) (Zgc (by omega));have ha:=hA i hlt;have hT:E.take (i+1)=E.take i++[E.getD i ([],[])]:=by rw [List.take_succ_eq_append_getElem (by omega),List.getD_eq_getElem?_getD,List.getElem?_eq_getElem (by omega)];rfl
   have hlt1:(E.take i).length≤1000:=by rw [List.length_take];omega
   have hb:=hs.b;generalize l.getD i []=p at *;have hrl:(List.replicate 1 (AV.v (.slice none 0 0))).length=1:=List.length_replicate ..;(focus (refine wkad (w_11 e0 e1 e6 e20 e21 e22 m17 hb hg hlm hp0) (w_2 c1 co) w_t ?_;(repeat' first|exact w_t|apply w_l);all_goals intros));refine o_any (ha.call (L:=E.take i) (gB:=gB) (hM:=hM) (svL:=svL) (svP:=svP) (qP:=0) (qC:=0) ⟨by exact gW hb,by(simp (disch:=omega) only [go_sem,hs.l]<;>repeat' first|rfl|refine⟨?_,?_⟩),by(simp (disch:=omega) only [go_sem,hs.p]<;>repeat' first|rfl|refine⟨?_,?_⟩)⟩ (by exact gC) hlt1) ?_
   rintro r σ' ⟨vl,vp,rfl,hs',h17⟩
   replace h17:σ' 17=some (.map hM []):=by rw [h17];exact gW m17
   (focus (refine wkad (w_7 e0 e1 e6 e20 e21 e22 h17) w_t w_t ?_;(repeat' first|exact w_t|apply w_l);all_goals intros));exact⟨i+1,⟨by omega,by exact gW e0,by exact gW e1,by exact gW e6,by exact gW e20,by exact gW e21,by exact gS,h17,vl,vp,by rw [hT];exact hs'⟩,by omega⟩
  ·obtain rfl:i=1:=by omega
   rw [List.take_of_length_le (by omega)] at hs;clear hA hlg h0 hgl;have hb:=hs.b;have hl:=hs.l;have hll:(E.map elA).length=1:=by rw [List.length_map];exact hE
   generalize E.map elA=eL at *;(focus (refine wkax (w_9 e0 e1 e6 e20 e21 e22 hb hl hll) w_t w_t w_t w_t w_t (w_r 3) ?_;(repeat' first|exact w_t|apply w_l);all_goals intros))
   (all_goals (try simp (disch:=omega) only [go_sem,hl,decide_eq_true,decide_eq_false,if_pos,if_neg,Int.reduceAdd,Int.reduceSub,Int.reduceToNat,Int.zero_add]));(all_goals first|done|rfl|(congr 2;first|done|omega|(rw [Bool.eq_iff_iff];simp only [bool_to_prop,Bool.false_eq_true,iff_true,true_iff,iff_false,false_iff];omega))|skip)
 ·exact⟨by omega,by exact gC,by exact gC,by exact gC,by exact gC,by exact gW hlm,by exact gC,by exact gC,_,_,⟨by exact gC,by(simp (disch:=omega) only [go_sem,List.take_zero,List.map_nil]<;>repeat' first|rfl|refine⟨?_,?_⟩),by(simp (disch:=omega) only [go_sem,List.take_zero,List.map_nil]<;>repeat' first|rfl|refine⟨?_,?_⟩)⟩⟩
theorem grBasis2 (o:Int) (l:List Po) (E:List (Po × List Po)) (hn:l.length=2) (hE:E.length=2) (hlg:∀p∈l,Pure Tryz.prog 29 [poA p] (.v (.bool false))) (h0:∀p∈l,p.length≠0)
 (hA:∀i,i < 2→AddC o (l.getD i []) ((List.replicate 2 (.v (.slice none 0 0))).set i (poA oneP)) (E.getD i ([],[])))
 (e3:Po × List Po) (x1:ExC o E e3 0 1) (x2:ExN o (E++[e3]) 0 2) (x3:ExN o (E++[e3]) 1 2) :
 Pure Tryz.prog 57 [.sl 1 (l.map poA),.v (.int .i64 o)] (.tup [.sl 2 ((E++[e3]).map elA),iv 0]):=by
 have ch:=Zts l (by omega) hlg;have co:=Zqd;have c1:=Zp8;have hlm:(l.map poA).length=2:=by rw [List.length_map];exact hn
 have hgl:∀i,i < 2→(l.map poA).getD i .u=poA (l.getD i []):=λi hi=>Ztu (by omega);generalize hlM:l.map poA=M at *;generalize (1:Rat)=one at *;refine Zaa (tok:=0) Tryz.func57 rfl Tryz.ntmps57 Tryz.results57 Tryz.call57 (by rfl) (by simp) ?_;(focus (refine wkad (w_1 hlm) (w_1 ch) w_t ?_;(repeat' first|exact w_t|apply w_l);all_goals intros));rename_i hM gB;refine Ze5 (Frz.nilBox (k:=19) 1 301 2 87 (by exact gC) (by rfl) (by omega)) ?_;refine Ze5 (Frz.nilBox (k:=19) 2 302 1 23 (by exact gC) (by rfl) (by omega)) ?_;refine Zag (ι:=Nat) (λi e m=>i≤2∧e 0=.sl 1 M∧e 1=.v (.int .i64 o)∧e 6=.pbox 19 gB 0∧e 20=.sl 1 M∧e 21=iv 2∧e 22=iv i∧m 17=some (.map hM [])∧∃svL svP,BSt m gB hM svL svP o (E.take i) 0) (λi=>2 - i) 0 (by rfl) ?_ ?_
 ·rintro i e m ⟨hi,e0,e1,e6,e20,e21,e22,m17,svL,svP,hs⟩
  by_cases hlt:i < 2
  ·have hg:=hgl i hlt;have hp0:=h0 (l.getD i []) (Zgc (by omega));have ha:=hA i hlt;have hT:E.take (i+1)=E.take i++[E.getD i ([],[])]:=by rw [List.take_succ_eq_append_getElem (by omega),List.getD_eq_getElem?_getD,List.getElem?_eq_getElem (by omega)];rfl
   have hlt1:(E.take i).length≤1000:=by rw [List.length_take];omega
   have hb:=hs.b;generalize l.getD i []=p at *;have hrl:(List.replicate 2 (AV.v (.slice none 0 0))).length=2:=List.length_replicate ..;(focus (refine wkad (w_11 e0 e1 e6 e20 e21 e22 m17 hb hg hlm hp0) (w_2 c1 co) w_t ?_;(repeat' first|exact w_t|apply w_l);all_goals intros));refine o_any (ha.call (L:=E.take i) (gB:=gB) (hM:=hM) (svL:=svL) (svP:=svP) (qP:=0) (qC:=0) ⟨by exact gW hb,by(simp (disch:=omega) only [go_sem,hs.l]<;>repeat' first|rfl|refine⟨?_,?_⟩),by(simp (disch:=omega) only [go_sem,hs.p]<;>repeat' first|rfl|refine⟨?_,?_⟩)⟩ (by exact gC) hlt1) ?_
   rintro r σ' ⟨vl,vp,rfl,hs',h17⟩
   replace h17:σ' 17=some (.map hM []):=by rw [h17];exact gW m17
   (focus (refine wkad (w_7 e0 e1 e6 e20 e21 e22 h17) w_t w_t ?_;(repeat' first|exact w_t|apply w_l);all_goals intros));exact⟨i+1,⟨by omega,by exact gW e0,by exact gW e1,by exact gW e6,by exact gW e20,by exact gW e21,by exact gS,h17,vl,vp,by rw [hT];exact hs'⟩,by omega⟩
  ·obtain rfl:i=2:=by omega
   rw [List.take_of_length_le (by omega)] at hs;clear hA hlg h0 hgl;have hb:=hs.b;have hl:=hs.l;have hll:(E.map elA).length=2:=by rw [List.length_map];exact hE
   (focus (refine wkax (w_9 e0 e1 e6 e20 e21 e22 hb hl hll) w_t w_t w_t w_t w_t (w_r 4) ?_;(repeat' first|exact w_t|apply w_l);all_goals intros));refine o_any (x1 _ gB hM svL svP 0 hs m17) ?_
   rintro r σ' ⟨vl,vp,rfl,hs2⟩
   have hb:=hs2.b;have hl:=hs2.l;have hll:((E++[e3]).map elA).length=3:=by rw [List.length_map,List.length_append,hE];rfl
   have X2:=x2 _ gB hM vl vp _ hs2;have X3:=x3 _ gB hM vl vp _ hs2;clear x1 x2 x3 hs hs2;generalize (E++[e3]).map elA=eL at *;(focus (refine wkax (w_9 e0 e1 e6 e20 e21 e22 hb hl hll) w_t w_t w_t w_t w_t (w_r 4) ?_;(repeat' first|exact w_t|apply w_l);all_goals intros));refine Zhs X2 ?_;(focus (refine wkax (w_9 e0 e1 e6 e20 e21 e22 hb hl hll) w_t w_t w_t w_t w_t (w_r 4) ?_;(repeat' first|exact w_t|apply w_l);all_goals intros));refine Zhs X3 ?_;(focus (refine wkax (w_9 e0 e1 e6 e20 e21 e22 hb hl hll) w_t w_t w_t w_t w_t (w_r 4) ?_;(repeat' first|exact w_t|apply w_l);all_goals intros))
   (all_goals (try simp (disch:=omega) only [go_sem,hl,decide_eq_true,decide_eq_false,if_pos,if_neg,Int.reduceAdd,Int.reduceSub,Int.reduceToNat,Int.zero_add]));(all_goals first|done|rfl|(congr 2;first|done|omega|(rw [Bool.eq_iff_iff];simp only [bool_to_prop,Bool.false_eq_true,iff_true,true_iff,iff_false,false_iff];omega))|skip)
 ·exact⟨by omega,by exact gC,by exact gC,by exact gC,by exact gC,by exact gW hlm,by exact gC,by exact gC,_,_,⟨by exact gC,by(simp (disch:=omega) only [go_sem,List.take_zero,List.map_nil]<;>repeat' first|rfl|refine⟨?_,?_⟩),by(simp (disch:=omega) only [go_sem,List.take_zero,List.map_nil]<;>repeat' first|rfl|refine⟨?_,?_⟩)⟩⟩
end Go.Proofs.YtimmnimikmnljaaGreat
namespace Go.Proofs.YtimmnimikmnljaaGreat
open Go Go.RowKit Go.Pg
attribute [-bool_to_prop] Bool.and_eq_decide Bool.or_eq_decide Bool.decide_beq_decide decide_eq_decide
attribute [local go_sem] Tryz.underlying40 Tryz.underlying3 Tryz.underlying104 Tryz.underlying161 Tryz.underlying115 Tryz.underlying21 Tryz.underlying9 Tryz.underlying5 Tryz.underlying126 sz3 by3 z3 szL byL zL
theorem Zuc (x:Nat) (hx:x < 256):Pure Tryz.prog 164 [.v (.int .u64 (x:Int))] (iv (len8 x:Nat)):=by
 refine Zaa (tok:=0) (rs:=[.tmp 2]) Tryz.func164 rfl Tryz.ntmps164 Tryz.results164 Tryz.call164 (by rfl) (by simp) ?_;have b:=Zjs (i:=x) (by omega)
 (repeat' (first|(apply o_tab (g:=len8) (n:=256) (by kernel_rfl) (by kernel_rfl) (by omega))|(with_reducible first|refine stp ?_|apply gx1|apply gx2|apply gx3|apply gx4|apply gx5|apply gx6|apply gx7)|(with_reducible refine Zbf ?_;intro _)|((with_reducible refine gE ?_);(try simp (disch:=omega) only [go_sem])<;>first|rfl|omega)|with_reducible refine Zaf (by decide) ?_))
 simp (disch:=omega) only [go_sem,Int.zero_add]
theorem bitsLen (x:Nat) (hx:x < 256):Pure Tryz.prog 107 [.v (.int .u64 (x:Int))] (iv (len8 x:Nat)):=by
 have c:=Zuc x hx;generalize ((len8 x:Nat):Int)=r at *;refine Zaa (tok:=0) Tryz.func107 rfl Tryz.ntmps107 Tryz.results107 Tryz.call107 (by rfl) (by simp) ?_;(focus (refine wkap w_t (w_1 c) (w_r 0) ?_;(repeat' first|exact w_t|apply w_l);all_goals intros));all_goals exact gL
end Go.Proofs.YtimmnimikmnljaaGreat
namespace Go.Proofs.YtimmnimikmnljaaGreat
open Go Go.RowKit Go.Pg Go.Pol
attribute [-bool_to_prop] Bool.and_eq_decide Bool.or_eq_decide Bool.decide_beq_decide decide_eq_decide
attribute [local go_sem] Tryz.underlying3 Tryz.underlying4 Tryz.underlying27 Tryz.underlying44 Tryz.underlying42 Tryz.underlying40 Tryz.underlying48 Tryz.underlying22 Tryz.underlying46 Tryz.underlying23 Tryz.underlying24 Tryz.underlying45 sz3 by3 z3 szB zB Zcd zRat Zcf zInt Zce zNat Zbq Zbt Zcs Zbs Zbv Zcu Zbr Zbu Zct Zee Zep Zg4 Zg9 zSlE Zed Zg3 Zef Zeq Zg5 Tryz.underlying87 Tryz.underlying83 Tryz.underlying120 Tryz.underlying117 Zfa Zh3 zArr Ze9 Zh2 zMap
def spR (cm:Nat→Nat→Int) (dv:Nat→Nat→Bool) (i:Nat):Nat→Bool
 | 0=>false
 | k+1=>spR cm dv i k || (decide (k≠i) && (dv k i && (decide (cm i k≠0) || decide (k < i))))
def ndR (cm:Nat→Nat→Int) (dv:Nat→Nat→Bool) (ps:List Po):Nat→List Po
 | 0=>[]
 | i+1=>if spR cm dv i ps.length=true then ndR cm dv ps i else ndR cm dv ps i++[ps.getD i []]
theorem Zs7 (cm:Nat→Nat→Int) (dv:Nat→Nat→Bool) (ps:List Po):∀i,(ndR cm dv ps i).length≤i
 | 0=>Nat.le_refl _
 | i+1=>by
   have:=Zs7 cm dv ps i;unfold ndR;split
   ·omega
   ·rw [List.length_append,List.length_singleton];omega
theorem grNeeded (σ:Mem) (T:Nat) (o:Int) (ps:List Po) (ls:List Tm) (cm:Nat→Nat→Int) (dv:Nat→Nat→Bool) (hps:ps.length≤100) (hls:ls.length=ps.length)
 (c0:Pure Tryz.prog 28 [.sl 1 (ps.map poA),.v (.int .i64 o)] (.tup [.sl 4 (ls.map tmA),.v (.bool true)]))
 (c1:∀i k,i < ps.length→k < ps.length→Pure Tryz.prog 51 [ivs (ls.getD i (0,[])).2,ivs (ls.getD k (0,[])).2,.v (.int .i64 o)] (iv (cm i k))∧Pure Tryz.prog 105 [ivs (ls.getD k (0,[])).2,ivs (ls.getD i (0,[])).2] (.v (.bool (dv k i)))) :
 ACall Tryz.prog 58 [.sl 1 (ps.map poA),.v (.int .i64 o)] σ λr σ'=>∃sv,r=.own T sv∧σ'=upd σ T (some (.row sv 23 1 ((ndR cm dv ps ps.length).map poA) 0)):=by
 refine Zrx (args':=[.sl 1 (ps.map poA),.v (.int .i64 o)]) Tryz.func58 rfl Tryz.ntmps58 Tryz.results58 Tryz.call58 (by rfl) (by simp) (.cons (Sub.refl _) (.cons (Sub.refl _) .nil)) ?_;have hL:∀k,lent σ (k+1000)=σ k:=λk=>by unfold lent;rw [if_neg (by omega),Nat.add_sub_cancel]
 generalize lent σ=m0 at *;have hpm:(ps.map poA).length=ps.length:=List.length_map ..;have hpg:∀i,i < ps.length→(ps.map poA).getD i .u=poA (ps.getD i []):=λi hi=>Ztu hi;have hlm:(ls.map tmA).length=ps.length:=by rw [List.length_map];exact hls
 have hlg:∀i,i < ps.length→(ls.map tmA).getD i .u=.agg [.v (.bool (decide ((ls.getD i (0,[])).1.num < 0))),lim (toL (ls.getD i (0,[])).1.num.natAbs),lim (toL (ls.getD i (0,[])).1.den),ivs (ls.getD i (0,[])).2]:=λi hi=>by
  rw [Zbb tmA (by omega),List.getD_eq_getElem?_getD,List.getElem?_eq_getElem (by omega)];rfl
 generalize hpM:ps.map poA=M at *;generalize ls.map tmA=D at *;(focus (refine wkad (w_1 hpm) (w_1 c0) w_t ?_;(repeat' first|exact w_t|apply w_l);all_goals intros));refine Ze5 (Frz.nilOwn (d:=7) 78 1 23 (by exact gC)) ?_;refine Zag (ι:=Nat) (λi e m=>i≤ps.length∧e 0=.sl 1 M∧e 1=.v (.int .i64 o)∧e 5=.sl 4 D∧e 18=.sl 1 M∧e 19=iv ps.length∧e 20=iv i∧(∀k,m (k+1000)=σ k)∧∃sv,e 7=.own 78 sv∧m 78=some (.row sv 23 1 ((ndR cm dv ps i).map poA) 0)) (λi=>ps.length - i) 0 (by rfl) ?_ ?_
 ·rintro i e m ⟨hi,e0,e1,e5,e18,e19,e20,hm,sv,e7,m78⟩
  by_cases hlt:i < ps.length
  ·have G:=Hid.mk hpg;have Gl:=Hid.mk hlg;have G1:=Hid.mk c1;clear hpg hlg c1;(focus (refine wkad (w_10 e0 e1 e5 e18 e19 e20 e7 m78 hpm hlm) w_t w_t ?_;(repeat' first|exact w_t|apply w_l);all_goals intros));refine Zag (ι:=Nat) (λk e m=>k≤ps.length∧e 0=.sl 1 M∧e 1=.v (.int .i64 o)∧e 5=.sl 4 D∧e 18=.sl 1 M∧e 19=iv ps.length∧e 20=iv i∧(∀k,m (k+1000)=σ k)∧e 7=.own 78 sv∧m 78=some (.row sv 23 1 ((ndR cm dv ps i).map poA) 0)∧e 8=iv i∧e 9=.v (.bool (spR cm dv i k))∧e 24=iv ps.length∧e 25=iv k) (λk=>ps.length - k) 0 (by rfl) ?_ ?_
   ·rintro k e m ⟨hk,e0,e1,e5,e18,e19,e20,hm,e7,m78,e8,e9,e24,e25⟩
    by_cases hkl:k < ps.length
    ·have g1:=Gl.h i hlt;have g2:=Gl.h k hkl;obtain⟨p1,p2⟩:=G1.h i k hlt hkl;have hst:spR cm dv i (k+1)=(spR cm dv i k || (decide (k≠i) && (dv k i && (decide (cm i k≠0) || decide (k < i))))):=rfl;generalize ls.getD i (0,[])=t at *;generalize ls.getD k (0,[])=u at *;obtain⟨t1,t2⟩:=t;obtain⟨u1,u2⟩:=u;simp only at p1 p2 g1 g2;generalize hs1:spR cm dv i (k+1)=s1 at *;generalize spR cm dv i k=s at *;generalize cm i k=c at *;generalize dv k i=d at *;generalize (ndR cm dv ps i).map poA=N at *;cases s
     ·by_cases hki:k=i
      ·have hv:s1=false:=by rw [hst];simp [hki]
       subst hv;(focus (refine wkad (w_16 e0 e1 e5 e18 e19 e20 e7 m78 e8 e9 e24 e25 hpm hlm g1 g2) (w_2 p1 p2) (w_2 (w_d 10 [(11,iv c)] [] []) (w_d 11 [(16,.v (.bool d))] [] [])) ?_;(repeat' first|exact w_t|apply w_l);all_goals intros));exact⟨k+1,⟨by omega,by exact gW e0,by exact gW e1,by exact gW e5,by exact gW e18,by exact gW e19,by exact gW e20,by(intro j;simp (disch:=omega) only [go_sem,hm]),by exact gW e7,by exact gW m78,by exact gW e8,by rw [hs1];exact gC,by exact gW e24,by exact gS⟩,by omega⟩
      ·cases d
       ·have hv:s1=false:=by rw [hst];simp []
        subst hv;(focus (refine wkad (w_16 e0 e1 e5 e18 e19 e20 e7 m78 e8 e9 e24 e25 hpm hlm g1 g2) (w_2 p1 p2) (w_2 (w_d 10 [(11,iv c)] [] []) (w_d 11 [(16,.v (.bool false))] [] [])) ?_;(repeat' first|exact w_t|apply w_l);all_goals intros));exact⟨k+1,⟨by omega,by exact gW e0,by exact gW e1,by exact gW e5,by exact gW e18,by exact gW e19,by exact gW e20,by(intro j;simp (disch:=omega) only [go_sem,hm]),by exact gW e7,by exact gW m78,by exact gW e8,by rw [hs1];exact gC,by exact gW e24,by exact gS⟩,by omega⟩
       ·by_cases hc:c=0
        ·by_cases hk2:k < i
         ·have hv:s1=true:=by rw [hst];simp [hki,hk2]
          subst hv;(focus (refine wkad (w_16 e0 e1 e5 e18 e19 e20 e7 m78 e8 e9 e24 e25 hpm hlm g1 g2) (w_2 p1 p2) (w_2 (w_d 10 [(11,iv c)] [] []) (w_d 11 [(16,.v (.bool true))] [] [])) ?_;(repeat' first|exact w_t|apply w_l);all_goals intros));exact⟨k+1,⟨by omega,by exact gW e0,by exact gW e1,by exact gW e5,by exact gW e18,by exact gW e19,by exact gW e20,by(intro j;simp (disch:=omega) only [go_sem,hm]),by exact gW e7,by exact gW m78,by exact gW e8,by rw [hs1];exact gC,by exact gW e24,by exact gS⟩,by omega⟩
         ·have hv:s1=false:=by rw [hst];simp [hki,hk2,hc]
          subst hv;(focus (refine wkad (w_16 e0 e1 e5 e18 e19 e20 e7 m78 e8 e9 e24 e25 hpm hlm g1 g2) (w_2 p1 p2) (w_2 (w_d 10 [(11,iv c)] [] []) (w_d 11 [(16,.v (.bool true))] [] [])) ?_;(repeat' first|exact w_t|apply w_l);all_goals intros));exact⟨k+1,⟨by omega,by exact gW e0,by exact gW e1,by exact gW e5,by exact gW e18,by exact gW e19,by exact gW e20,by(intro j;simp (disch:=omega) only [go_sem,hm]),by exact gW e7,by exact gW m78,by exact gW e8,by rw [hs1];exact gC,by exact gW e24,by exact gS⟩,by omega⟩
        ·have hv:s1=true:=by rw [hst];simp [hki,hc]
         subst hv;(focus (refine wkad (w_16 e0 e1 e5 e18 e19 e20 e7 m78 e8 e9 e24 e25 hpm hlm g1 g2) (w_2 p1 p2) (w_2 (w_d 10 [(11,iv c)] [] []) (w_d 11 [(16,.v (.bool true))] [] [])) ?_;(repeat' first|exact w_t|apply w_l);all_goals intros));exact⟨k+1,⟨by omega,by exact gW e0,by exact gW e1,by exact gW e5,by exact gW e18,by exact gW e19,by exact gW e20,by(intro j;simp (disch:=omega) only [go_sem,hm]),by exact gW e7,by exact gW m78,by exact gW e8,by rw [hs1];exact gC,by exact gW e24,by exact gS⟩,by omega⟩
     ·have hv:s1=true:=by rw [hst];simp []
      subst hv;(focus (refine wkad (w_16 e0 e1 e5 e18 e19 e20 e7 m78 e8 e9 e24 e25 hpm hlm g1 g2) (w_2 p1 p2) (w_2 (w_d 10 [(11,iv c)] [] []) (w_d 11 [(16,.v (.bool d))] [] [])) ?_;(repeat' first|exact w_t|apply w_l);all_goals intros));exact⟨k+1,⟨by omega,by exact gW e0,by exact gW e1,by exact gW e5,by exact gW e18,by exact gW e19,by exact gW e20,by(intro j;simp (disch:=omega) only [go_sem,hm]),by exact gW e7,by exact gW m78,by exact gW e8,by rw [hs1];exact gC,by exact gW e24,by exact gS⟩,by omega⟩
    ·obtain rfl:k=ps.length:=by omega
     have gp:=G.h i hlt;have hnl:=Zs7 cm dv ps i;have hst:ndR cm dv ps (i+1)=if spR cm dv i ps.length=true then ndR cm dv ps i else ndR cm dv ps i++[ps.getD i []]:=rfl;have hNl:((ndR cm dv ps i).map poA).length≤100:=by rw [List.length_map];omega
     cases hs:spR cm dv i ps.length
     ·rw [hs,if_neg (by decide)] at hst;have hsm:(ndR cm dv ps (i+1)).map poA=(ndR cm dv ps i).map poA++[poA (ps.getD i [])]:=by rw [hst,List.map_append];rfl
      rw [hs] at e9;generalize (ndR cm dv ps i).map poA=N at *;generalize ps.getD i []=p at *;(focus (refine wkad (w_14 e0 e1 e5 e18 e19 e20 e7 m78 e8 e9 e24 e25 hpm gp) w_t w_t ?_;(repeat' first|exact w_t|apply w_l);all_goals intros));exact⟨i+1,⟨by omega,by exact gW e0,by exact gW e1,by exact gW e5,by exact gW e18,by exact gW e19,by exact gS,by(intro j;simp (disch:=omega) only [go_sem,hm]),_,by exact gC,by rw [hsm];exact gC⟩,by omega⟩
     ·rw [hs,if_pos rfl] at hst;rw [hs] at e9;have hsm:(ndR cm dv ps (i+1)).map poA=(ndR cm dv ps i).map poA:=by rw [hst]
      generalize (ndR cm dv ps i).map poA=N at *;(focus (refine wkad (w_13 e0 e1 e5 e18 e19 e20 e7 m78 e8 e9 e24 e25 hpm) w_t w_t ?_;(repeat' first|exact w_t|apply w_l);all_goals intros));exact⟨i+1,⟨by omega,by exact gW e0,by exact gW e1,by exact gW e5,by exact gW e18,by exact gW e19,by exact gS,by(intro j;simp (disch:=omega) only [go_sem,hm]),_,by exact gW e7,by rw [hsm];exact gW m78⟩,by omega⟩
   ·exact⟨Nat.zero_le _,by exact gW e0,by exact gW e1,by exact gW e5,by exact gW e18,by exact gW e19,by exact gW e20,by(intro j;simp (disch:=omega) only [go_sem,hm]),by exact gW e7,by exact gW m78,by exact gC,by(simp (disch:=omega) only [go_sem,spR]<;>repeat' first|rfl|refine⟨?_,?_⟩),by exact gW hpm,by exact gC⟩
  ·obtain rfl:i=ps.length:=by omega
   generalize (ndR cm dv ps ps.length).map poA=N at *;(focus (refine wkad (w_8 e0 e1 e5 e18 e19 e20 e7 m78) w_t w_t ?_;(repeat' first|exact w_t|apply w_l);all_goals intros));simp (disch:=omega) only [go_sem];refine back_new 78 T (by omega) (Sub.own _ _ _) ⟨sv,rfl,rfl⟩ (by simp (disch:=omega) only [go_sem,m78,Zaz,if_pos]) λj hj _=>?_;simp (disch:=omega) only [go_sem,hm,Zaz,if_neg hj]
 ·exact⟨Nat.zero_le _,by exact gC,by exact gC,by exact gC,by exact gC,by exact gW hpm,by exact gC,by(intro j;simp (disch:=omega) only [go_sem,hL]),_,by exact gC,by(simp (disch:=omega) only [go_sem,ndR,List.map_nil]<;>repeat' first|rfl|refine⟨?_,?_⟩)⟩
attribute [local go_sem] Tryz.underlying126
theorem grLess (K g:Nat) (o:Int) (p q:Po) (t u:Tm) (c:Int) (c1:Pure Tryz.prog 18 [poA p,.v (.int .i64 o)] (.tup [tmA t,.v (.bool true)])) (c2:Pure Tryz.prog 18 [poA q,.v (.int .i64 o)] (.tup [tmA u,.v (.bool true)]))
 (c3:Pure Tryz.prog 51 [ivs t.2,ivs u.2,.v (.int .i64 o)] (iv c)):RdC Tryz.prog [(K,.box g 3 [.v (.int .i64 o)] false)] 60 [poA p,poA q,.pbox K g 0] (iv c):=λσ hL=>by
 have mB:=Zcb hL.1;simp only [Ent.sh,AV.shL,AV.sh] at mB;have k5:∀c,c < 1000→(K+1000 == c)=false:=λc h=>by rw [beq_eq_false_iff_ne];omega
 clear hL;obtain⟨t1,t2⟩:=t;obtain⟨u1,u2⟩:=u;simp only at c3;refine Zc7 Tryz.func60 rfl Tryz.ntmps60 Tryz.results60 Tryz.call60 (by rfl) (by simp) ?_;(focus (refine wkax (w_3 mB @Zcr k5) (w_1 c3) w_t w_t (w_2 c1 c2) w_t (w_r 0) ?_;(repeat' first|exact w_t|apply w_l);all_goals intros));simp (disch:=omega) only [go_sem];refine Zpo (Sub.refl _) ⟨rfl,rfl⟩ ?_
 (repeat' (first|exact Agr.start _|(refine Agr.own ?_ (by omega))))
theorem grIns2 (σ:Mem) (K KO g:Nat) (sv:Value) (o c:Int) (a b:Po) (hK:σ K=some (.row sv 23 1 [poA a,poA b] 0)) (hO:σ KO=some (.box g 3 [.v (.int .i64 o)] false)) (hne:K≠KO) (hc:c < 0)
 (cc:∀KO',RdC Tryz.prog [(KO',.box g 3 [.v (.int .i64 o)] false)] 60 [poA b,poA a,.pbox KO' g 0] (iv c)) :
 ACall Tryz.prog 155 [.own K sv,iv 0,iv 2,.fn 60 [.pbox KO g 0]] σ λr σ'=>r=.tup []∧σ'=upd σ K (some (.row sv 23 1 [poA b,poA a] 0)):=by
 have mK:=Zcb hK;have mO:=Zcb hO;simp only [Ent.sh,AV.shL,AV.sh] at mK mO;have k5:∀c,c < 1000→(K+1000 == c)=false:=λc h=>by rw [beq_eq_false_iff_ne];omega
 have k6:∀c,c < 1000→(KO+1000 == c)=false:=λc h=>by rw [beq_eq_false_iff_ne];omega
 have c1:=cc (KO+1000);clear cc;refine Zc7 Tryz.func155 rfl Tryz.ntmps155 Tryz.results155 Tryz.call155 (by rfl) (by simp) ?_
 (repeat' (first|((with_reducible apply gyrG (c1));(focus rfl);(focus rfl);(focus ((with_reducible refine gE ?_);simp (disch:=omega) only [go_sem];rfl));(focus rfl);iterate 3 focus ((with_reducible refine gE ?_);first|rfl|(simp (disch:=omega) only [go_sem,mO,k5,k6];done)|(simp (disch:=omega) only [go_sem,mO,k5,k6];rfl)))|(with_reducible first|refine stp ?_|apply gx1|apply gx2|apply gx3|apply gx4|apply gx5|apply gx6|apply gx7|apply gy8|apply gz2|apply gz3)|(with_reducible refine Zbf ?_;intro _)|((with_reducible refine gE ?_);(try simp (disch:=omega) only [go_sem,mK,mO,Zcr,k5,k6,decide_eq_true,decide_eq_false,if_pos,if_neg,Int.reduceAdd,Int.reduceSub,Int.reduceToNat,Int.zero_add])<;>first|rfl|omega)|with_reducible refine Zaf (by decide) ?_|((with_reducible apply gy1);iterate 3 focus rfl)|((with_reducible apply gy2);iterate 3 focus rfl)|((with_reducible apply gy3);iterate 2 focus rfl)|((with_reducible apply gy4);iterate 1 focus rfl)|((with_reducible apply gy5);iterate 4 focus rfl)|((with_reducible apply gy5c);iterate 4 focus rfl)|((with_reducible apply gy6);iterate 4 focus rfl)|((with_reducible apply Zc0);iterate 3 focus rfl)|((with_reducible apply Zcz);iterate 1 focus rfl)|((with_reducible apply gy7);iterate 1 focus rfl)|((with_reducible apply gy9);(focus ((with_reducible refine gE ?_);(try simp (disch:=omega) only [go_sem,mK,mO,Zcr,k5,k6,decide_eq_true,decide_eq_false,if_pos,if_neg,Int.reduceAdd,Int.reduceSub,Int.reduceToNat,Int.zero_add])<;>rfl)))|((with_reducible apply gz1);(focus first|rfl|(simp (disch:=omega) only [go_sem,mK,mO,Zcr,k5,k6,decide_eq_true,decide_eq_false,if_pos,if_neg,Int.reduceAdd,Int.reduceSub,Int.reduceToNat,Int.zero_add];done)))|((with_reducible apply Za2 (id:=4) (Zcg [(14,iv c)]) [] []);(focus kernel_rfl);(focus rfl);(focus kernel_rfl);(focus (simp only [List.length_cons,List.length_nil,Nat.reduceAdd];rfl)))|((with_reducible apply Za2 (id:=6) (Zcg []) [15,2015,16,17] []);(focus kernel_rfl);(focus rfl);(focus kernel_rfl);(focus (simp only [List.length_cons,List.length_nil,Nat.reduceAdd];rfl)))|((with_reducible first|apply Zbm|apply Zbw|apply Zbn);all_goals (intro hc;(try simp only [bool_to_prop] at hc);try (exfalso;omega)))|((with_reducible apply Zlk 4);(focus rfl))))
 simp (disch:=omega) only [go_sem];refine Zpo (Sub.refl _) ⟨rfl,rfl⟩ λj=>?_;have hj:=Agr.start σ j;by_cases kK:j=K
 ·subst kK;simp (disch:=omega) only [go_sem,Zaz,if_true,if_pos,Option.map_some,Ent.sh]
 ·simp (disch:=omega) only [go_sem,Zaz,if_neg,hj]
theorem grPdq2 (σ:Mem) (K KO g:Nat) (sv:Value) (o c:Int) (a b:Po) (hK:σ K=some (.row sv 23 1 [poA a,poA b] 0)) (hO:σ KO=some (.box g 3 [.v (.int .i64 o)] false)) (hne:K≠KO) (hc:c < 0)
 (cc:∀KO',RdC Tryz.prog [(KO',.box g 3 [.v (.int .i64 o)] false)] 60 [poA b,poA a,.pbox KO' g 0] (iv c)) :
 ACall Tryz.prog 106 [.own K sv,iv 0,iv 2,iv 2,.fn 60 [.pbox KO g 0]] σ λr σ'=>r=.tup []∧σ'=upd σ K (some (.row sv 23 1 [poA b,poA a] 0)):=by
 have mK:=Zcb hK;have mO:=Zcb hO;simp only [Ent.sh,AV.shL,AV.sh] at mK mO;refine Zc7 Tryz.func106 rfl Tryz.ntmps106 Tryz.results106 Tryz.call106 (by rfl) (by simp) ?_;(focus (refine wkax (w_3 mK mO @Zcr) w_t w_t w_t w_t w_t (w_r 2) ?_;(repeat' first|exact w_t|apply w_l);all_goals intros));refine Zhs (grIns2 _ (K+1000) (KO+1000) g sv o c a b mK mO (by omega) hc cc) ?_;(focus (refine wkad w_t w_t w_t ?_;(repeat' first|exact w_t|apply w_l);all_goals intros));simp (disch:=omega) only [go_sem];refine Zpo (Sub.refl _) ⟨rfl,rfl⟩ λj=>?_;have hj:=Agr.start σ j;by_cases kK:j=K
 ·subst kK;simp (disch:=omega) only [go_sem,Zaz,if_true,if_pos,Option.map_some,Ent.sh]
 ·simp (disch:=omega) only [go_sem,Zaz,if_neg,hj]
theorem grSort2 (σ:Mem) (K KO g:Nat) (sv:Value) (o c:Int) (a b:Po) (hK:σ K=some (.row sv 23 1 [poA a,poA b] 0)) (hO:σ KO=some (.box g 3 [.v (.int .i64 o)] false)) (hne:K≠KO) (hc:c < 0)
 (cc:∀KO',RdC Tryz.prog [(KO',.box g 3 [.v (.int .i64 o)] false)] 60 [poA b,poA a,.pbox KO' g 0] (iv c)) :
 ACall Tryz.prog 59 [.own K sv,.fn 60 [.pbox KO g 0]] σ λr σ'=>r=.tup []∧σ'=upd σ K (some (.row sv 23 1 [poA b,poA a] 0)):=by
 have mK:=Zcb hK;have mO:=Zcb hO;simp only [Ent.sh,AV.shL,AV.sh] at mK mO;have cb:Pure Tryz.prog 107 [.v (.int .u64 2)] (iv 2):=bitsLen 2 (by omega);refine Zc7 Tryz.func59 rfl Tryz.ntmps59 Tryz.results59 Tryz.call59 (by rfl) (by simp) ?_;(focus (refine wkad (w_3 mK mO @Zcr) (w_1 cb) w_t ?_;(repeat' first|exact w_t|apply w_l);all_goals intros));refine Zhs (grPdq2 _ (K+1000) (KO+1000) g sv o c a b mK mO (by omega) hc cc) ?_;(focus (refine wkad w_t w_t w_t ?_;(repeat' first|exact w_t|apply w_l);all_goals intros));simp (disch:=omega) only [go_sem];refine Zpo (Sub.refl _) ⟨rfl,rfl⟩ λj=>?_
 have hj:=Agr.start σ j;by_cases kK:j=K
 ·subst kK;simp (disch:=omega) only [go_sem,Zaz,if_true,if_pos,Option.map_some,Ent.sh]
 ·simp (disch:=omega) only [go_sem,Zaz,if_neg,hj]
theorem Zto (o c:Int) (l:List Po) (B:List (Po × List Po)) (p0 p1 a b:Po) (Q0 Q1:List Po) (hBl:B.length≤100)
 (c1:Pure Tryz.prog 57 [.sl 1 (l.map poA),.v (.int .i64 o)] (.tup [.sl 2 (B.map elA),iv 0]))
 (c2:∀σ T,ACall Tryz.prog 58 [.sl 1 (B.map λe=>poA e.1),.v (.int .i64 o)] σ λr σ'=>∃sv,r=.own T sv∧σ'=upd σ T (some (.row sv 23 1 [poA p0,poA p1] 0)))
 (c3:Pure Tryz.prog 8 [poA p0,.sl 1 [poA p1],.v (.int .i64 o)] (.tup [.sl 1 (Q0.map poA),poA a,iv 0]))
 (c4:Pure Tryz.prog 8 [poA p1,.sl 1 [poA a],.v (.int .i64 o)] (.tup [.sl 1 (Q1.map poA),poA b,iv 0]))
 (hc:c < 0) (cc:∀K g,RdC Tryz.prog [(K,.box g 3 [.v (.int .i64 o)] false)] 60 [poA b,poA a,.pbox K g 0] (iv c)) :
 Pure Tryz.prog 23 [.sl 1 (l.map poA),.v (.int .i64 o)] (.tup [.sl 1 [poA b,poA a],iv 0]):=by
 have hlB:(B.map elA).length=B.length:=List.length_map ..;have hgB:∀i,i < B.length→(B.map elA).getD i .u=.agg [poA (B.getD i ([],[])).1,.sl 1 ((B.getD i ([],[])).2.map poA)]:=λi hi=>by rw [List.getD_eq_getElem?_getD,List.getElem?_map,List.getElem?_eq_getElem hi,List.getD_eq_getElem?_getD,List.getElem?_eq_getElem hi];rfl
 have G:=Hid.mk (And.intro hgB (And.intro c2 (And.intro c3 (And.intro c4 cc))));clear hgB c2 c3 c4 cc;generalize hBm:B.map elA=Bm at *;generalize hQ0:Q0.map poA=q0 at *;generalize hQ1:Q1.map poA=q1 at *;refine Zaa (tok:=0) Tryz.func23 rfl Tryz.ntmps23 Tryz.results23 Tryz.call23 (by rfl) (by simp) ?_;(focus (refine wkad (w_1 hlB) (w_1 c1) w_t ?_;(repeat' first|exact w_t|apply w_l);all_goals intros));rename_i g3;refine Ze5 (Frz.nilOwn (d:=8) 36 1 23 (by exact gC)) ?_;refine r_loopZ ?_;refine Zag (ι:=Nat) (λi e m=>i≤B.length∧e 3=.pbox 3 g3 0∧m 3=some (.box g3 3 [.v (.int .i64 o)] false)∧e 26=.sl 2 Bm∧e 27=iv B.length∧e 28=iv i∧∃sv,e 8=.own 36 sv∧m 36=some (.row sv 23 1 ((B.take i).map λe=>poA e.1) 0)) (λi=>B.length - i) 0 (by rfl) ?_ ?_
 ·rintro i e m ⟨hi,e3,m3,e26,e27,e28,sv,e8,m36⟩
  by_cases hlt:i < B.length
  ·have hg:=G.h.1 i hlt;have hT:((B.take (i+1)).map λe=>poA e.1)=((B.take i).map λe=>poA e.1)++[poA (B.getD i ([],[])).1]:=by rw [List.take_succ_eq_append_getElem hlt,List.map_append,List.getD_eq_getElem?_getD,List.getElem?_eq_getElem hlt];rfl
   have hol:((B.take i).map λe=>poA e.1).length=i:=by rw [List.length_map,List.length_take];omega
   generalize ((B.take i).map λe=>poA e.1)=out at *;generalize (B.getD i ([],[])).2.map poA=cf at *;generalize (B.getD i ([],[])).1=p at *;(focus (refine wkad (w_10 e3 m3 e26 e27 e28 e8 m36 hg hol hlB) w_t w_t ?_;(repeat' first|exact w_t|apply w_l);all_goals intros));exact⟨i+1,⟨by omega,by exact gW e3,by exact gW m3,by exact gW e26,by exact gW e27,by exact gS,_,by exact gC,by rw [hT];exact gC⟩,by omega⟩
  ·rw [List.take_of_length_le (by omega)] at m36;(focus (refine wkad (w_7 e3 m3 e26 e27 e28 e8 m36) w_t w_t ?_;(repeat' first|exact w_t|apply w_l);all_goals intros));refine⟨_,Frz.own (d:=8) (k:=36) (by exact gW e8) (by exact gW m36),?_⟩;(focus (refine wkad (w_7 e3 m3 e26 e27 e28 e8 m36) w_t w_t ?_;(repeat' first|exact w_t|apply w_l);all_goals intros));refine o_fresh (G.h.2.1 _ 40) ?_;intro svN;(focus (refine wkad (w_7 e3 m3 e26 e27 e28 e8 m36) w_t w_t ?_;(repeat' first|exact w_t|apply w_l);all_goals intros));refine Zag (ι:=Nat) (λi e m=>i≤2∧e 3=.pbox 3 g3 0∧m 3=some (.box g3 3 [.v (.int .i64 o)] false)∧e 11=.own 40 svN∧e 41=.own 40 svN∧e 42=iv 2∧e 43=iv i∧(i=0→m 40=some (.row svN 23 1 [poA p0,poA p1] 0))∧(i=1→m 40=some (.row svN 23 1 [poA a,poA p1] 0))∧(i=2→m 40=some (.row svN 23 1 [poA a,poA b] 0))) (λi=>2 - i) 0 (by rfl) ?_ ?_
   ·rintro i e m ⟨hi,e3,m3,e11,e41,e42,e43,r0,r1,r2⟩
    have hi3:i=0∨i=1∨i=2:=by omega
    rcases hi3 with rfl | rfl | rfl
    ·have m40:=r0 rfl;clear r0 r1 r2;have cD:=G.h.2.2.1
     (repeat' (first|(fail)|(with_reducible first|refine stp ?_|apply gx1|apply gx2|apply gx3|apply gx4|apply gx5|apply gx6|apply gx7|apply gy8|apply gz2|apply gz3)|(with_reducible refine Zbf ?_;intro _)|((with_reducible refine gE ?_);(try simp (disch:=omega) only [go_sem,e3,m3,e11,e41,e42,e43,m40,decide_eq_true,decide_eq_false,if_pos,if_neg,Int.reduceAdd,Int.reduceSub,Int.reduceToNat,Int.zero_add])<;>first|rfl|omega)|with_reducible refine Zaf (by decide) ?_|((with_reducible apply gy1);iterate 3 focus rfl)|((with_reducible apply gy2);iterate 3 focus rfl)|((with_reducible apply gy3);iterate 2 focus rfl)|((with_reducible apply gy4);iterate 1 focus rfl)|((with_reducible apply gy5);iterate 4 focus rfl)|((with_reducible apply gy5c);iterate 4 focus rfl)|((with_reducible apply gy6);iterate 4 focus rfl)|((with_reducible apply Zc0);iterate 3 focus rfl)|((with_reducible apply Zcz);iterate 1 focus rfl)|((with_reducible apply gy7);iterate 1 focus rfl)|((with_reducible apply gy9);(focus ((with_reducible refine gE ?_);(try simp (disch:=omega) only [go_sem,e3,m3,e11,e41,e42,e43,m40,decide_eq_true,decide_eq_false,if_pos,if_neg,Int.reduceAdd,Int.reduceSub,Int.reduceToNat,Int.zero_add])<;>rfl)))|((with_reducible apply gz1);(focus first|rfl|(simp (disch:=omega) only [go_sem,e3,m3,e11,e41,e42,e43,m40,decide_eq_true,decide_eq_false,if_pos,if_neg,Int.reduceAdd,Int.reduceSub,Int.reduceToNat,Int.zero_add];done)))|((with_reducible apply Za2 (id:=14) (Zcg []) [4,1004,9,1009] [46]);(focus kernel_rfl);(focus rfl);(focus kernel_rfl);(focus (simp only [List.length_cons,List.length_nil,Nat.reduceAdd];rfl)))|((with_reducible first|apply Zbm|apply Zbw|apply Zbn);all_goals (intro hc;(try simp only [bool_to_prop] at hc);try (exfalso;omega)))))
     refine Zp9 (Frz.own (d:=13) (k:=46) (by exact gC) (by exact gC)) ?_;(focus (refine wkad (w_7 e3 m3 e11 e41 e42 e43 m40) (w_1 cD) (w_1 (w_d 15 [(6,.tup [.sl 1 q0,poA a,iv 0])] [] [])) ?_;(repeat' first|exact w_t|apply w_l);all_goals intros));exact⟨1,⟨by omega,by exact gW e3,by exact gW m3,by exact gW e11,by exact gW e41,by exact gW e42,by exact gC,λh=>absurd h (by decide),λh=>(by exact gC),λh=>absurd h (by decide)⟩,by omega⟩
    ·have m40:=r1 rfl;clear r0 r1 r2;have cD:=G.h.2.2.2.1
     (repeat' (first|(fail)|(with_reducible first|refine stp ?_|apply gx1|apply gx2|apply gx3|apply gx4|apply gx5|apply gx6|apply gx7|apply gy8|apply gz2|apply gz3)|(with_reducible refine Zbf ?_;intro _)|((with_reducible refine gE ?_);(try simp (disch:=omega) only [go_sem,e3,m3,e11,e41,e42,e43,m40,decide_eq_true,decide_eq_false,if_pos,if_neg,Int.reduceAdd,Int.reduceSub,Int.reduceToNat,Int.zero_add])<;>first|rfl|omega)|with_reducible refine Zaf (by decide) ?_|((with_reducible apply gy1);iterate 3 focus rfl)|((with_reducible apply gy2);iterate 3 focus rfl)|((with_reducible apply gy3);iterate 2 focus rfl)|((with_reducible apply gy4);iterate 1 focus rfl)|((with_reducible apply gy5);iterate 4 focus rfl)|((with_reducible apply gy5c);iterate 4 focus rfl)|((with_reducible apply gy6);iterate 4 focus rfl)|((with_reducible apply Zc0);iterate 3 focus rfl)|((with_reducible apply Zcz);iterate 1 focus rfl)|((with_reducible apply gy7);iterate 1 focus rfl)|((with_reducible apply gy9);(focus ((with_reducible refine gE ?_);(try simp (disch:=omega) only [go_sem,e3,m3,e11,e41,e42,e43,m40,decide_eq_true,decide_eq_false,if_pos,if_neg,Int.reduceAdd,Int.reduceSub,Int.reduceToNat,Int.zero_add])<;>rfl)))|((with_reducible apply gz1);(focus first|rfl|(simp (disch:=omega) only [go_sem,e3,m3,e11,e41,e42,e43,m40,decide_eq_true,decide_eq_false,if_pos,if_neg,Int.reduceAdd,Int.reduceSub,Int.reduceToNat,Int.zero_add];done)))|((with_reducible apply Za2 (id:=14) (Zcg []) [4,1004,9,1009] [46]);(focus kernel_rfl);(focus rfl);(focus kernel_rfl);(focus (simp only [List.length_cons,List.length_nil,Nat.reduceAdd];rfl)))|((with_reducible first|apply Zbm|apply Zbw|apply Zbn);all_goals (intro hc;(try simp only [bool_to_prop] at hc);try (exfalso;omega)))))
     refine Zp9 (Frz.own (d:=13) (k:=46) (by exact gC) (by exact gC)) ?_;(focus (refine wkad (w_7 e3 m3 e11 e41 e42 e43 m40) (w_1 cD) (w_1 (w_d 15 [(6,.tup [.sl 1 q1,poA b,iv 0])] [] [])) ?_;(repeat' first|exact w_t|apply w_l);all_goals intros));exact⟨2,⟨by omega,by exact gW e3,by exact gW m3,by exact gW e11,by exact gW e41,by exact gW e42,by exact gC,λh=>absurd h (by decide),λh=>absurd h (by decide),λh=>(by exact gC)⟩,by omega⟩
    ·have m40:=r2 rfl;clear r0 r1 r2;(focus (refine wkad (w_7 e3 m3 e11 e41 e42 e43 m40) w_t w_t ?_;(repeat' first|exact w_t|apply w_l);all_goals intros));refine Zhs (grSort2 _ 40 3 g3 svN o c a b (by exact gW m40) (by exact gW m3) (by omega) hc λK=>G.h.2.2.2.2 K g3) ?_;(focus (refine wkld (w_6 e3 m3 e11 e41 e42 e43) w_t w_t w_t ?_;(repeat' first|exact w_t|apply w_l);all_goals intros))
   ·exact⟨by omega,by exact gW e3,by exact gW m3,by exact gC,by exact gC,by exact gC,by exact gC,λh=>(by exact gC),λh=>absurd h (by decide),λh=>absurd h (by decide)⟩
 ·exact⟨by omega,by exact gC,by exact gC,by exact gC,by(simp (disch:=omega) only [go_sem,hlB]<;>repeat' first|rfl|refine⟨?_,?_⟩),by exact gC,_,by exact gC,by(simp (disch:=omega) only [go_sem,List.take_zero,List.map_nil]<;>repeat' first|rfl|refine⟨?_,?_⟩)⟩
theorem Ztq (p:Po) (l:List Po) (a k0 q x y:Po) (hl:l.length=1)
 (c1:Pure Tryz.prog 57 [.sl 1 (l.map poA),iv 1] (.tup [.sl 2 [.agg [poA a,.sl 1 [poA k0]]],iv 0]))
 (c2:Pure Tryz.prog 8 [poA p,.sl 1 [poA a],iv 1] (.tup [.sl 1 [poA q],.sl 4 [],iv 0]))
 (c3:Pure Tryz.prog 17 [poA q,poA k0] (poA x)) (c4:Pure Tryz.prog 16 [.v (.slice none 0 0),poA x] (poA y)) (c5:Pure Tryz.prog 29 [poA y] (.v (.bool false))) :
 Pure Tryz.prog 26 [poA p,.sl 1 (l.map poA)] (.tup [.sl 1 [poA y],iv 0]):=by
 have hlm:(l.map poA).length=1:=by rw [List.length_map];exact hl
 generalize l.map poA=M at *;refine Zaa (tok:=0) Tryz.func26 rfl Tryz.ntmps26 Tryz.results26 Tryz.call26 (by rfl) (by simp) ?_;(focus (refine wkax (w_1 hlm) (w_4 c1 c3 c4 c5) w_t (w_1 c2) w_t w_t (w_r 3) ?_;(repeat' first|exact w_t|apply w_l);all_goals intros))
 (all_goals (try simp (disch:=omega) only [go_sem,decide_eq_true,decide_eq_false,if_pos,if_neg,Int.reduceAdd,Int.reduceSub,Int.reduceToNat,Int.zero_add]));(all_goals first|done|rfl|(congr 2;first|done|omega|(rw [Bool.eq_iff_iff];simp only [bool_to_prop,Bool.false_eq_true,iff_true,true_iff,iff_false,false_iff];omega))|skip)
def litT (d:Int) (t:Tm):Bool:=decide (t.1≠0) && (decide (t.1.num.natAbs < 65536) && (decide (t.1.den < 65536) && (decide (t.2.length≤3) && (t.2.all (λx=>decide (0≤x) && decide (x≤4)) && (decide (t.2.getLast?.getD 1≠0) && decide (dgI t.2≤d))))))
def Zfp (d:Int) (p:Po):Bool:=p.all (litT d) && (decide (p.Pairwise λs t=>ltM t.2 s.2) && decide (p.length≤8))
theorem Zh5 {d:Int} {t:Tm} (h:litT d t=true):t.1≠0∧Sz t.1 1∧Can t.2∧t.2.length≤3∧(∀j,gI t.2 j≤(4:Nat))∧dgI t.2≤d:=by
 unfold litT at h;simp only [Bool.and_eq_true,decide_eq_true_eq,List.all_eq_true] at h;obtain⟨h1,h2,h3,h4,h5,h6,h7⟩:=h;have hj:∀j,0≤gI t.2 j∧gI t.2 j≤(4:Nat):=λj=>by
  by_cases hl:j < t.2.length
  ·rw [Zfr hl];exact h5 _ (List.getElem_mem hl)
  ·rw [Zbi (by omega)];omega
 refine⟨h1,⟨Zai.2 (by omega),Zai.2 (by omega)⟩,⟨λj=>(hj j).1,?_⟩,h4,λj=>(hj j).2,h7⟩;by_cases h0:t.2.length=0
 ·exact .inl h0
 ·have hn:t.2≠[]:=λe=>h0 (by rw [e];rfl);rw [List.getLast?_eq_some_getLast hn,Option.getD_some,List.getLast_eq_getElem hn] at h6;exact .inr (by rw [Zfr (by omega)];exact h6)
theorem Zno {d:Int} {p:Po} (h:Zfp d p=true):(∀t∈p,litT d t=true)∧p.Pairwise (λs t=>ltM t.2 s.2)∧p.length≤8:=by
 unfold Zfp at h
 simpa only [Bool.and_eq_true,decide_eq_true_eq,List.all_eq_true] using h
theorem Zde {d:Int} {p:Po} (h:Zfp d p=true):PB p 8 1 4:=by
 obtain⟨h1,h2,h3⟩:=Zno h;exact⟨⟨λt ht=>⟨(Zh5 (h1 t ht)).1,(Zh5 (h1 t ht)).2.2.1⟩,h2⟩,λt ht=>⟨(Zh5 (h1 t ht)).2.1,by have:=(Zh5 (h1 t ht)).2.2.2.1;omega,λj=>⟨(Zh5 (h1 t ht)).2.2.1.1 j,(Zh5 (h1 t ht)).2.2.2.2.1 j⟩⟩,h3⟩
theorem lit_bo {p:Po} (h:Zfp 2 p=true) (h0:p≠[]) (hl:p.length≤4):BO p:=by
 obtain⟨h1,h2,h3⟩:=Zno h;have b:=Zde h;exact⟨b.s,h0,hl,λt ht=>(Zh5 (h1 t ht)).2.1,λt ht=>⟨(Zh5 (h1 t ht)).2.2.2.1,(Zh5 (h1 t ht)).2.2.2.2.2⟩⟩
theorem lit_ps {d:Int} {p:Po} (h:Zfp d p=true):PS p:=⟨(Zde h).mono (by omega) (by omega) (by omega),λt ht=>by have:=(Zh5 ((Zno h).1 t ht)).2.2.2.1;omega⟩
theorem lSub {p q:Po} (r:Po) (hp:Zfp 4 p=true) (hq:Zfp 4 q=true) (h:subM p q=r):Pure Tryz.prog 31 [poA p,poA q] (poA r)∧Pure Tryz.prog 24 [poA p,poA q] (poA r):=by
 subst h;exact hpSub (Zde hp) (Zde hq) (by omega) (by omega) (by omega) (by omega) (by omega) (by omega)
theorem lAdd {p q:Po} (r:Po) (hp:Zfp 4 p=true) (hq:Zfp 4 q=true) (h:addM p q=r):Pure Tryz.prog 16 [poA p,poA q] (poA r)∧Pure Tryz.prog 25 [poA p,poA q] (poA r):=by
 subst h;exact hpAdd (Zde hp) (Zde hq) (by omega) (by omega) (by omega) (by omega) (by omega) (by omega)
theorem lMul {p q:Po} (r:Po) (hp:Zfp 4 p=true) (hq:Zfp 4 q=true) (h:mlM p q=r):Pure Tryz.prog 17 [poA p,poA q] (poA r)∧Pure Tryz.prog 27 [poA p,poA q] (poA r):=by
 subst h;exact hpMul (Zde hp) (Zde hq) (by omega) (by omega) (by omega) (by omega) (by omega) (by omega) (by omega) (by rw [show min 8 8=8 from rfl];omega) (by omega)
theorem lEq {p q:Po} (hp:Zfp 4 p=true) (h:p=q):Pure Tryz.prog 11 [poA p,poA q] (.v (.bool true)):=by
 subst h;have b:=Zde hp;have:=Zsg p p b.k b.k b.s.dom b.s.dom (by have:=b.l;omega) (by have:=b.l;omega) (by omega) (by omega) (by omega) (by omega)
 rwa [decide_eq_true rfl] at this
theorem Zjv {p:Po} (o:Int) (t:Tm) (hp:Zfp 4 p=true) (h0:p≠[]) (h:ldO o p=t):Pure Tryz.prog 18 [poA p,.v (.int .i64 o)] (.tup [tmA t,.v (.bool true)]):=by
 subst h;exact Zjb p o h0 (λu hu=>(Zde hp).k.sm (by omega) hu) (by have:=(Zde hp).l;omega)
theorem Zg2 {p:Po} (a:Rat) (r:Po) (hp:Zfp 4 p=true) (ha:decide (a.num.natAbs < 65536) && decide (a.den < 65536)) (h:sclM a p=r):Pure Tryz.prog 125 [poA p,ratQ a] (poA r):=by
 subst h;simp only [Bool.and_eq_true,decide_eq_true_eq] at ha;exact Zsu p a (Zde hp).k (k:=1) ⟨Zai.2 (by omega),Zai.2 (by omega)⟩ (Zde hp).s (by have:=(Zde hp).l;omega) (by omega) (by omega) (by omega)
theorem Ztk (a:Rat) (ha:decide (a.num.natAbs < 65536) && decide (a.den < 65536)):Pure Tryz.prog 125 [.v (.slice none 0 0),ratQ a] (poA []) :=
 Zfn (Zg2 (p:=[]) a [] (by decide) ha (by unfold sclM;split<;>rfl)) (.cons (.nil 4) (.cons (.refl _) .nil))
theorem lDiv {b:Rat} (a:Rat) (hb:decide (b.num.natAbs < 65536) && decide (b.den < 65536)) (h0:b≠0) (h:1/b=a):Pure Tryz.prog 71 [ratQ 1,ratQ b] (.tup [ratQ a,iv 0]):=by
 subst h;simp only [Bool.and_eq_true,decide_eq_true_eq] at hb;exact ratDiv 1 b Zqe (k:=1) ⟨Zai.2 (by omega),Zai.2 (by omega)⟩ (by omega) (by omega) h0
theorem Zga {p:Po} (hp:Zfp 4 p=true) (h:bigP p=false):Pure Tryz.prog 29 [poA p] (.v (.bool false)):=by
 have:=(lgB (Zde hp) (by omega) (by omega)).1
 rwa [h] at this
theorem Zl4 (o:Int) (bs:List Po) (p:Po) (Q:List Po) (R:Po) (hb:(bs.all λb=>Zfp 2 b && (decide (b≠[]) && decide (b.length≤4)))=true) (hl:bs.length≤1000) (hp:Zfp 4 p=true) (hg:bigP p=false) (h:(Zdn o bs ⟨p,List.replicate bs.length [],[]⟩).map (λs=>(s.q,s.r))=some (Q,R)) :
 Pure Tryz.prog 8 [poA p,.sl 1 (bs.map poA),.v (.int .i64 o)] (.tup [.sl 1 (Q.map poA),poA R,iv 0]):=by
 have hB:∀b∈bs,BO b:=λb hm=>by
  have:=List.all_eq_true.1 hb b hm;simp only [Bool.and_eq_true,decide_eq_true_eq] at this;exact lit_bo this.1 this.2.1 this.2.2
 have b:=Zde hp;have c:=Zl6 o bs p hB hl (b.mono (by omega) (by omega) (by omega)) (Zmb b.s b.l (λt ht=>(b.k t ht).1) λt ht=>⟨(Zh5 ((Zno hp).1 t ht)).2.2.2.1,(Zh5 ((Zno hp).1 t ht)).2.2.2.2.2⟩);rw [if_neg (by rw [hg];decide)] at c
 cases e:Zdn o bs ⟨p,List.replicate bs.length [],[]⟩with
 | none=>rw [e] at h;cases h
 | some s =>
   rw [e] at h c;simp only [Option.map_some,Option.some.injEq,Prod.mk.injEq] at h;obtain⟨rfl,rfl⟩:=h;exact c
def xP:Po:=[(1,[1])]
def yP:Po:=[(1,[0,1])]
def d0P:Po:=[(1,[0,1]),(-1,[1])]
def d1P:Po:=[(1,[0,1]),(1,[1])]
def s2P:Po:=[(-2,[1])]
def mnP:Po:=[(-1,[])]
def dfP:Po:=[(-1,[0,2]),(1,[2])]
def dxP:Po:=[(-1,[0,1]),(1,[1])]
def qmP:Po:=[(-1,[0,1]),(-1,[1])]
def hmP:Po:=[(-1/2,[])]
def hpP:Po:=[(1/2,[])]
def E0:Po × List Po:=(d0P,[oneP,[]])
def E1:Po × List Po:=(d1P,[[],oneP])
def E2:Po × List Po:=(xP,[hmP,hpP])
def EM:Po × List Po:=(d0P,[mnP])
theorem add0:AddC 0 d0P [poA oneP,.v (.slice none 0 0)] E0:=⟨(1,[0,1]),1,⟨rfl,by decide,λi hi=>by
 match i,hi with
 | 0,_=>exact .inr ⟨_,rfl⟩
 | 1,_=>exact .inl rfl⟩,Zjv 0 _ (by decide +kernel) (by decide) (by decide +kernel),lDiv 1 (by decide +kernel) (by decide) (by decide +kernel),Zg2 1 _ (by decide +kernel) (by decide +kernel) (by decide +kernel),λi hi=>by
 match i,hi with
 | 0,_=>exact Zg2 1 _ (by decide +kernel) (by decide +kernel) (by decide +kernel)
 | 1,_=>exact Ztk 1 (by decide +kernel),Zga (by decide +kernel) (by decide +kernel),λc hc=>by
 simp only [E0,List.mem_cons,List.not_mem_nil,or_false] at hc;rcases hc with rfl | rfl<;>exact Zga (by decide +kernel) (by decide +kernel)⟩
theorem add1:AddC 0 d1P [.v (.slice none 0 0),poA oneP] E1:=⟨(1,[0,1]),1,⟨rfl,by decide,λi hi=>by
 match i,hi with
 | 0,_=>exact .inl rfl
 | 1,_=>exact .inr ⟨_,rfl⟩⟩,Zjv 0 _ (by decide +kernel) (by decide) (by decide +kernel),lDiv 1 (by decide +kernel) (by decide) (by decide +kernel),Zg2 1 _ (by decide +kernel) (by decide +kernel) (by decide +kernel),λi hi=>by
 match i,hi with
 | 0,_=>exact Ztk 1 (by decide +kernel)
 | 1,_=>exact Zg2 1 _ (by decide +kernel) (by decide +kernel) (by decide +kernel),Zga (by decide +kernel) (by decide +kernel),λc hc=>by
 simp only [E1,List.mem_cons,List.not_mem_nil,or_false] at hc;rcases hc with rfl | rfl<;>exact Zga (by decide +kernel) (by decide +kernel)⟩
theorem addM1:AddC 1 dxP [poA oneP] EM:=⟨(-1,[0,1]),-1,⟨rfl,by decide,λi hi=>by
 match i,hi with
 | 0,_=>exact .inr ⟨_,rfl⟩⟩,Zjv 1 _ (by decide +kernel) (by decide) (by decide +kernel),lDiv (-1) (by decide +kernel) (by decide) (by decide +kernel),Zg2 (-1) _ (by decide +kernel) (by decide +kernel) (by decide +kernel),λi hi=>by
 match i,hi with
 | 0,_=>exact Zg2 (-1) _ (by decide +kernel) (by decide +kernel) (by decide +kernel),Zga (by decide +kernel) (by decide +kernel),λc hc=>by
 simp only [EM,List.mem_cons,List.not_mem_nil,or_false] at hc;subst hc;exact Zga (by decide +kernel) (by decide +kernel)⟩
theorem exm01:ExC 0 [E0,E1] E2 0 1:=λσ gB hM svL svP qP hs hm=>by
 obtain⟨f1,f2,-⟩:=grPair 0 (P:=d0P) (Q:=d1P) (lit_ps (d:=4) (by decide +kernel)) (lit_ps (d:=4) (by decide +kernel)) (by decide) (by decide);rw [show prA 0 d0P d1P=.tup [poA s2P,iv 0] from by
  rw [show prA 0 d0P d1P=if bigP (prZ 0 d0P d1P)=true then .tup [.v (.slice none 0 0),iv 4] else .tup [poA (prZ 0 d0P d1P),iv 0] from if_neg (by decide),show prZ 0 d0P d1P=s2P from by decide +kernel,if_neg (by decide +kernel)]] at f2
 rw [show fcT 0 d0P d1P d0P=(1,[]) from by decide +kernel,show fcT 0 d0P d1P d1P=(1,[]) from by decide +kernel] at f1;refine(grExam σ 19 301 302 17 gB hM 0 qP svL svP 0 [E0,E1] 0 1 2 d0P d1P s2P s2P oneP oneP (1,[0,1]) (1,[0,1]) (-2,[1]) [[],[]] (λn _=>if n=0 then oneP else mnP) xP [hmP,hpP] (-1/2) hs.b hs.l hs.p hm (by omega) (by omega) (by omega) (by omega) (by omega) (by omega) (by decide) (by decide) (by decide) rfl rfl (by omega) (λe he=>by
  simp only [List.mem_cons,List.not_mem_nil,or_false] at he;rcases he with rfl | rfl<;>rfl) rfl (by decide) rfl
  (Zjv 0 _ (by decide +kernel) (by decide) (by decide +kernel)) (Zjv 0 _ (by decide +kernel) (by decide) (by decide +kernel)) (by
   have:=Zkw [0,1] [0,1] (by decide)
   rwa [show copI [0,1] [0,1]=false from by decide] at this) f2 (Zl4 0 [d0P,d1P] s2P _ _ (by decide +kernel) (by decide) (by decide +kernel) (by decide +kernel) (by decide +kernel)) f1
  (λn hn=>by
   match n,hn with
   | 0,_=>exact⟨oneP,[],(lMul _ (by decide +kernel) (by decide +kernel) (by decide +kernel)).1,(lMul _ (by decide +kernel) (by decide +kernel) (by decide +kernel)).1,(lSub _ (by decide +kernel) (by decide +kernel) (by decide +kernel)).1⟩
   | 1,_=>exact⟨[],oneP,(lMul _ (by decide +kernel) (by decide +kernel) (by decide +kernel)).1,(lMul _ (by decide +kernel) (by decide +kernel) (by decide +kernel)).1,(lSub _ (by decide +kernel) (by decide +kernel) (by decide +kernel)).1⟩)
  (λn hn j hj=>⟨[],by
   match n,hn,j,hj with
   | 0,_,0,_=>exact⟨(lMul _ (by decide +kernel) (by decide +kernel) (by decide +kernel)).1,(lSub _ (by decide +kernel) (by decide +kernel) (by decide +kernel)).1⟩
   | 0,_,1,_=>exact⟨(lMul _ (by decide +kernel) (by decide +kernel) (by decide +kernel)).1,(lSub _ (by decide +kernel) (by decide +kernel) (by decide +kernel)).1⟩
   | 1,_,0,_=>exact⟨(lMul _ (by decide +kernel) (by decide +kernel) (by decide +kernel)).1,(lSub _ (by decide +kernel) (by decide +kernel) (by decide +kernel)).1⟩
   | 1,_,1,_=>exact⟨(lMul _ (by decide +kernel) (by decide +kernel) (by decide +kernel)).1,(lSub _ (by decide +kernel) (by decide +kernel) (by decide +kernel)).1⟩⟩)
  (Zjv 0 _ (by decide +kernel) (by decide) (by decide +kernel)) Zp8 (lDiv _ (by decide +kernel) (by decide) (by decide +kernel)) (Zg2 _ _ (by decide +kernel) (by decide +kernel) (by decide +kernel))
  (λn hn=>by
   match n,hn with
   | 0,_=>exact Zg2 _ _ (by decide +kernel) (by decide +kernel) (by decide +kernel)
   | 1,_=>exact Zg2 _ _ (by decide +kernel) (by decide +kernel) (by decide +kernel)) (Zga (by decide +kernel) (by decide +kernel)) (λc hc=>by
  simp only [List.mem_cons,List.not_mem_nil,or_false] at hc;rcases hc with rfl | rfl<;>exact Zga (by decide +kernel) (by decide +kernel))).mono ?_
 rintro r σ' ⟨svL',svP',rfl,rfl⟩
 refine⟨svL',svP',rfl,⟨?_,?_,?_⟩⟩;all_goals simp only [Zaz];rfl
theorem exm2 (i:Nat) (hi:i=0∨i=1):ExN 0 [E0,E1,E2] i 2:=λσ gB hM svL svP qP hs=>by
 have cp:Pure Tryz.prog 154 [ivs [0,1],ivs [1]] (.v (.bool true)):=by
  have:=Zkw [0,1] [1] (by decide)
  rwa [show copI [0,1] [1]=true from by decide] at this
 have lx:Pure Tryz.prog 18 [poA xP,.v (.int .i64 0)] (.tup [tmA (1,[1]),.v (.bool true)]):=Zjv 0 _ (by decide +kernel) (by decide) (by decide +kernel);rcases hi with rfl | rfl
 ·exact Ztt σ 19 301 302 17 gB hM qP svL svP 0 [E0,E1,E2] 0 2 d0P xP (1,[0,1]) (1,[1]) hs.b hs.p (by decide) (by decide) (by decide) rfl rfl (Zjv 0 _ (by decide +kernel) (by decide) (by decide +kernel)) lx cp
 ·exact Ztt σ 19 301 302 17 gB hM qP svL svP 0 [E0,E1,E2] 1 2 d1P xP (1,[0,1]) (1,[1]) hs.b hs.p (by decide) (by decide) (by decide) rfl rfl (Zjv 0 _ (by decide +kernel) (by decide) (by decide +kernel)) lx cp
theorem bas2:Pure Tryz.prog 57 [.sl 1 ([d0P,d1P].map poA),.v (.int .i64 0)] (.tup [.sl 2 ([E0,E1,E2].map elA),iv 0]) :=
 grBasis2 0 [d0P,d1P] [E0,E1] rfl rfl (λp hp=>by
  simp only [List.mem_cons,List.not_mem_nil,or_false] at hp;rcases hp with rfl | rfl<;>exact Zga (by decide +kernel) (by decide +kernel)) (λp hp=>by
  simp only [List.mem_cons,List.not_mem_nil,or_false] at hp;rcases hp with rfl | rfl<;>decide) (λi hi=>by
  match i,hi with
  | 0,_=>exact add0
  | 1,_=>exact add1) E2 exm01 (exm2 0 (.inl rfl)) (exm2 1 (.inr rfl))
theorem bas1:Pure Tryz.prog 57 [.sl 1 ([dxP].map poA),.v (.int .i64 1)] (.tup [.sl 2 ([EM].map elA),iv 0]) :=
 grBasis1 1 [dxP] [EM] rfl rfl (λp hp=>by
  simp only [List.mem_cons,List.not_mem_nil,or_false] at hp;subst hp;exact Zga (by decide +kernel) (by decide +kernel)) (λp hp=>by
  simp only [List.mem_cons,List.not_mem_nil,or_false] at hp;subst hp;decide) (λi hi=>by
  match i,hi with
  | 0,_=>exact addM1)
def lsP:List Tm:=[(1,[0,1]),(1,[0,1]),(1,[1])]
theorem lsSm:∀i,i < 3→Sm (lsP.getD i (0,[])).2:=λi hi=>by
 have key:∀t∈lsP,litT 4 t=true:=by decide +kernel
 have hm:lsP.getD i (0,[])∈lsP:=by rw [List.getD_eq_getElem?_getD,List.getElem?_eq_getElem hi];exact List.getElem_mem hi
 obtain⟨-,-,h1,h2,h3,-⟩:=Zh5 (key _ hm);exact⟨by omega,λj=>⟨h1.1 j,by have:=h3 j;omega⟩⟩
theorem ned3 (σ:Mem) (T:Nat):ACall Tryz.prog 58 [.sl 1 ([E0,E1,E2].map λe=>poA e.1),.v (.int .i64 0)] σ λr σ'=>∃sv,r=.own T sv∧σ'=upd σ T (some (.row sv 23 1 [poA d0P,poA xP] 0)):=by
 have h:=grNeeded σ T 0 [d0P,d1P,xP] lsP (λi k=>cmpI (lsP.getD i (0,[])).2 (lsP.getD k (0,[])).2 0) (λk i=>divI (lsP.getD k (0,[])).2 (lsP.getD i (0,[])).2) (by decide) rfl (by
  have:=Ztr [d0P,d1P,xP] 0 (λb hb=>by
   simp only [List.mem_cons,List.not_mem_nil,or_false] at hb;rcases hb with rfl | rfl | rfl
   ·exact⟨by decide,λu hu=>(Zde (d:=4) (p:=d0P) (by decide +kernel)).k.sm (by omega) hu,by decide⟩
   ·exact⟨by decide,λu hu=>(Zde (d:=4) (p:=d1P) (by decide +kernel)).k.sm (by omega) hu,by decide⟩
   ·exact⟨by decide,λu hu=>(Zde (d:=4) (p:=xP) (by decide +kernel)).k.sm (by omega) hu,by decide⟩) (by decide) (by decide)
  have e:([d0P,d1P,xP].map λb=>tmA (ldO 0 b))=lsP.map tmA:=by
   simp only [List.map_cons,List.map_nil,show ldO 0 d0P=(1,[0,1]) from by decide +kernel,show ldO 0 d1P=(1,[0,1]) from by decide +kernel,show ldO 0 xP=(1,[1]) from by decide +kernel,lsP]
  rwa [e] at this) (λi k hi hk=>⟨Zqk _ _ 0 (lsSm i hi) (lsSm k hk),Zkv _ _ (lsSm k hk).1⟩)
 rw [show ndR (λi k=>cmpI (lsP.getD i (0,[])).2 (lsP.getD k (0,[])).2 0) (λk i=>divI (lsP.getD k (0,[])).2 (lsP.getD i (0,[])).2) [d0P,d1P,xP] [d0P,d1P,xP].length=[d0P,xP] from by decide +kernel] at h;exact h
theorem red2:Pure Tryz.prog 23 [.sl 1 [poA d0P,poA d1P],.v (.int .i64 0)] (.tup [.sl 1 [poA xP,poA yP],iv 0]) :=
 Zto 0 (-1) [d0P,d1P] [E0,E1,E2] d0P xP yP xP [mnP] [[]] (by decide) bas2 ned3 (Zl4 0 [xP] d0P [mnP] yP (by decide +kernel) (by decide) (by decide +kernel) (by decide +kernel) (by decide +kernel)) (Zl4 0 [yP] xP [[]] xP (by decide +kernel) (by decide) (by decide +kernel) (by decide +kernel) (by decide +kernel)) (by decide)
  λK g=>grLess K g 0 xP yP (1,[1]) (1,[0,1]) (-1) (Zjv 0 _ (by decide +kernel) (by decide) (by decide +kernel)) (Zjv 0 _ (by decide +kernel) (by decide) (by decide +kernel)) (by
   have:=Zqk (lsP.getD 2 (0,[])).2 (lsP.getD 0 (0,[])).2 0 (lsSm 2 (by omega)) (lsSm 0 (by omega))
   rwa [show cmpI (lsP.getD 2 (0,[])).2 (lsP.getD 0 (0,[])).2 0=-1 from by decide +kernel] at this)
theorem mem1:Pure Tryz.prog 26 [poA dfP,.sl 1 [poA dxP]] (.tup [.sl 1 [poA d1P],iv 0]) :=
 Ztq dfP [dxP] d0P mnP qmP d1P d1P rfl bas1 (Zl4 1 [d0P] dfP [qmP] [] (by decide +kernel) (by decide) (by decide +kernel) (by decide +kernel) (by decide +kernel)) (lMul _ (by decide +kernel) (by decide +kernel) (by decide +kernel)).1
  (Zfn (lAdd (p:=[]) (q:=d1P) d1P (by decide +kernel) (by decide +kernel) (by decide +kernel)).1 (.cons (.nil 4) (.cons (.refl _) .nil))) (Zga (by decide +kernel) (by decide +kernel))
theorem lwAliveV (X Y a b c d e f g:Po)
 (v0:Pure Tryz.prog 22 [iv 0] (poA X)) (v1:Pure Tryz.prog 22 [iv 1] (poA Y))
 (s1:Pure Tryz.prog 24 [poA Y,poA X] (poA a)) (s2:Pure Tryz.prog 25 [poA Y,poA X] (poA b)) (rd:Pure Tryz.prog 23 [.sl 1 [poA a,poA b],iv 0] (.tup [.sl 1 [poA X,poA Y],iv 0]))
 (m1:Pure Tryz.prog 27 [poA X,poA X] (poA c)) (m2:Pure Tryz.prog 27 [poA Y,poA Y] (poA d)) (s3:Pure Tryz.prog 24 [poA c,poA d] (poA e)) (s4:Pure Tryz.prog 24 [poA X,poA Y] (poA f))
 (mb:Pure Tryz.prog 26 [poA e,.sl 1 [poA f]] (.tup [.sl 1 [poA g],iv 0])) (s5:Pure Tryz.prog 25 [poA X,poA Y] (poA g))
 (q1:Pure Tryz.prog 11 [poA X,poA X] (.v (.bool true))) (q2:Pure Tryz.prog 11 [poA Y,poA Y] (.v (.bool true))) (q3:Pure Tryz.prog 11 [poA g,poA g] (.v (.bool true))) :
 Pure Tryz.prog 7 [] (.v (.bool true)):=by
 refine Zaa (tok:=0) Tryz.func7 rfl Tryz.ntmps7 Tryz.results7 Tryz.call7 (by rfl) (by simp) ?_;(focus (refine wkax w_t w_t w_t w_t (w_2 v0 v1) w_t (w_r 0) ?_;(repeat' first|exact w_t|apply w_l);all_goals intros));(focus (refine wkax w_t (w_1 s2) w_t (w_1 rd) (w_1 s1) w_t (w_r 0) ?_;(repeat' first|exact w_t|apply w_l);all_goals intros))
 (repeat' (first|(fail)|(with_reducible first|refine stp ?_|apply gx1|apply gx2|apply gx3|apply gx4|apply gx5|apply gx6|apply gx7|apply gy8|apply gz2|apply gz3|apply gw1 (mb))|((with_reducible apply gw1 (s4));iterate 4 focus ((with_reducible refine gE ?_);(try simp (disch:=omega) only [go_sem,decide_eq_true,decide_eq_false,if_pos,if_neg,Int.reduceAdd,Int.reduceSub,Int.reduceToNat,Int.zero_add])<;>first|rfl|done))|((with_reducible apply gw1 (s3));iterate 4 focus ((with_reducible refine gE ?_);(try simp (disch:=omega) only [go_sem,decide_eq_true,decide_eq_false,if_pos,if_neg,Int.reduceAdd,Int.reduceSub,Int.reduceToNat,Int.zero_add])<;>first|rfl|done))|((with_reducible apply gw1 (m2));iterate 4 focus ((with_reducible refine gE ?_);(try simp (disch:=omega) only [go_sem,decide_eq_true,decide_eq_false,if_pos,if_neg,Int.reduceAdd,Int.reduceSub,Int.reduceToNat,Int.zero_add])<;>first|rfl|done))|((with_reducible apply gw1 (m1));iterate 4 focus ((with_reducible refine gE ?_);(try simp (disch:=omega) only [go_sem,decide_eq_true,decide_eq_false,if_pos,if_neg,Int.reduceAdd,Int.reduceSub,Int.reduceToNat,Int.zero_add])<;>first|rfl|done))|(with_reducible refine Zbf ?_;intro _)|((with_reducible refine gE ?_);(try simp (disch:=omega) only [go_sem,decide_eq_true,decide_eq_false,if_pos,if_neg,Int.reduceAdd,Int.reduceSub,Int.reduceToNat,Int.zero_add])<;>first|rfl|omega)|with_reducible refine Zaf (by decide) ?_|((with_reducible apply gy1);iterate 3 focus rfl)|((with_reducible apply gy2);iterate 3 focus rfl)|((with_reducible apply gy3);iterate 2 focus rfl)|((with_reducible apply gy4);iterate 1 focus rfl)|((with_reducible apply gy5);iterate 4 focus rfl)|((with_reducible apply gy5c);iterate 4 focus rfl)|((with_reducible apply gy6);iterate 4 focus rfl)|((with_reducible apply Zc0);iterate 3 focus rfl)|((with_reducible apply Zcz);iterate 1 focus rfl)|((with_reducible apply gy7);iterate 1 focus rfl)|((with_reducible apply gy9);(focus ((with_reducible refine gE ?_);(try simp (disch:=omega) only [go_sem,decide_eq_true,decide_eq_false,if_pos,if_neg,Int.reduceAdd,Int.reduceSub,Int.reduceToNat,Int.zero_add])<;>rfl)))|((with_reducible apply gz1);(focus first|rfl|(simp (disch:=omega) only [go_sem,decide_eq_true,decide_eq_false,if_pos,if_neg,Int.reduceAdd,Int.reduceSub,Int.reduceToNat,Int.zero_add];done)))|((with_reducible apply Za2 (id:=99) (Zcg []) [] []);(focus kernel_rfl);(focus rfl);(focus kernel_rfl);(focus (simp only [List.length_cons,List.length_nil,Nat.reduceAdd];rfl)))|((with_reducible first|apply Zbm|apply Zbw|apply Zbn);all_goals (intro hc;(try simp only [bool_to_prop] at hc);try (exfalso;omega)))))
 (focus (refine wkld w_t (w_4 s5 q1 q2 q3) w_t (w_1 (w_d 4 [(16,.v (.bool true)),(23,.v (.bool true)),(36,poA g),(37,.v (.bool true))] [] [])) ?_;(repeat' first|exact w_t|apply w_l);all_goals intros))
def degP (p:Po):Int:=p.foldl (λn t=>max n (dgI t.2)) (-1)
theorem Zmf (d:Int):∀(p:Po) (n:Int),p.foldl (λn t=>max n (dgI t.2)) n≤d↔n≤d∧∀t∈p,dgI t.2≤d
 | [],n=>by simp
 | t :: p,n=>by
   rw [List.foldl_cons,Zmf d p];constructor
   ·rintro ⟨h1,h2⟩
    refine⟨by omega,λu hu=>?_⟩;rcases List.mem_cons.1 hu with rfl | hu
    ·omega
    ·exact h2 u hu
   ·rintro ⟨h1,h2⟩
    exact⟨by have:=h2 t (.head _);omega,λu hu=>h2 u (.tail _ hu)⟩
theorem rpDeg (p:Po) (hl:p.length≤1000000) (hm:∀u∈p,Sm u.2):Pure Tryz.prog 21 [poA p] (iv (degP p)):=by
 have hst:∀i (hi:i < p.length),(p.take (i+1)).foldl (λn (t:Tm)=>max n (dgI t.2)) (-1)=max ((p.take i).foldl (λn (t:Tm)=>max n (dgI t.2)) (-1)) (dgI p[i].2):=λi hi=>by
  rw [List.take_succ_eq_append_getElem hi,List.foldl_append];rfl
 refine Zaa (tok:=0) Tryz.func21 rfl Tryz.ntmps21 Tryz.results21 Tryz.call21 (by rfl) (by simp) ?_;(focus (refine wkap w_t w_t (w_r 0) ?_;(repeat' first|exact w_t|apply w_l);all_goals intros));refine Zag (ι:=Nat) (λi e m=>i≤p.length∧e 0=poA p∧e 3=iv ((p.take i).foldl (λn (t:Tm)=>max n (dgI t.2)) (-1))∧e 4=iv i) (λi=>p.length - i) 0 (by rfl) ?_ ?_
 ·rintro i e m ⟨hi,e0,e3,e4⟩
  by_cases hlt:i < p.length
  ·have hg:=Zbb tmA hlt;have c:Pure Tryz.prog 54 [ivs p[i].2] (iv (dgI p[i].2)):=Zi8 p[i].2 (hm _ (List.getElem_mem hlt));have hs:=hst i hlt;generalize (p.take i).foldl (λn (t:Tm)=>max n (dgI t.2)) (-1)=x at *;generalize dgI p[i].2=y at *;generalize p[i]=t at *;obtain⟨q,m2⟩:=t;(focus (refine wkap (w_5 e0 e3 e4 hg @Za4) (w_1 c) (w_r 0) ?_;(repeat' first|exact w_t|apply w_l);all_goals intros));exact⟨i+1,⟨by omega,by exact gW e0,by rw [hs];exact gC,by exact gS⟩,by omega⟩
  ·have hi2:i=p.length:=by omega
   subst hi2;rw [List.take_length] at e3;rw [show p.foldl (λn (t:Tm)=>max n (dgI t.2)) (-1)=degP p from rfl] at e3;generalize degP p=x at *;(focus (refine wklp (w_4 e0 e3 e4 @Za4) w_t w_t (w_r 0) ?_;(repeat' first|exact w_t|apply w_l);all_goals intros))
 ·exact⟨Nat.zero_le _,by exact gC,by(simp (disch:=omega) only [go_sem,List.take_zero,List.foldl_nil]<;>repeat' first|rfl|refine⟨?_,?_⟩),by exact gC⟩
def tmLb (t:RT):Bool:=decide (t.r.l.length≤1) && decide (t.r.d.length≤1)
def fewP (terms:Nat) (l:List RT):Bool:=Zeg l terms 3 4 && ((decide (degP (l.map RT.tm)≤2) || (decide (4 < terms) && decide (degP (l.map RT.tm)≤4))) && l.all tmLb)
def fewL (L:List (List RT)) (most terms:Nat):Bool:=decide (L.length≤most) && L.all (fewP terms)
abbrev rpA (l:List RT):AV:=.sl 4 (l.map RT.av)
theorem few_at {L:List (List RT)} {a b i:Nat} (hi:i < L.length) (h:fewP b L[i]=false):fewL L a b=false:=by
 unfold fewL;rw [show L.all (fewP b)=false from List.all_eq_false.2 ⟨L[i],List.getElem_mem hi,by rw [h];decide⟩,Bool.and_false]
theorem few_end {L:List (List RT)} {a b:Nat} (hl:L.length≤a) (h:∀j (hj:j < L.length),fewP b L[j]=true):fewL L a b=true:=by
 unfold fewL;rw [decide_eq_true hl,show L.all (fewP b)=true from List.all_eq_true.2 λt ht=>by obtain⟨j,hj,rfl⟩:=List.mem_iff_getElem.1 ht;exact h j hj];rfl
theorem few_big {L:List (List RT)} {a b:Nat} (h:a < L.length):fewL L a b=false:=by
 unfold fewL;rw [decide_eq_false (by omega),Bool.false_and]
theorem lbs_no {l:List RT} {k:Nat} (hk:k < l.length) (h:tmLb l[k]=false):l.all tmLb=false:=List.all_eq_false.2 ⟨l[k],List.getElem_mem hk,by rw [h];decide⟩
theorem lwFew (L:List (List RT)) (a b:Nat) (ha:a≤1000) (hb:b≤1000) (hs:∀l∈L,∀t∈l,Lm t.r.l∧Lm t.r.d) (hN:∀l∈L,∀t∈l,t.r.lm maxLen):Pure Tryz.prog 6 [.sl 1 (L.map rpA),iv a,iv b] (.v (.bool (fewL L a b))):=by
 have hlen:(L.map rpA).length=L.length:=List.length_map ..;have hgl:∀i (h:i < L.length),(L.map rpA).getD i .u=rpA L[i]:=λi h=>Zbb rpA h;by_cases hl:a < L.length
 ·rw [few_big hl];generalize L.map rpA=M at *;refine Zaa (tok:=0) Tryz.func6 rfl Tryz.ntmps6 Tryz.results6 Tryz.call6 (by rfl) (by simp) ?_;(focus (refine wkld (w_1 hlen) w_t w_t w_t ?_;(repeat' first|exact w_t|apply w_l);all_goals intros))
 have hE:=few_end (L:=L) (a:=a) (b:=b) (by omega);have hA:∀i (hi:i < L.length),fewP b L[i]=false→fewL L a b=false:=λi hi h=>few_at hi h;generalize fewL L a b=R at *;generalize L.map rpA=M at *;refine Zaa (tok:=0) Tryz.func6 rfl Tryz.ntmps6 Tryz.results6 Tryz.call6 (by rfl) (by simp) ?_;(focus (refine wkad (w_1 hlen) w_t w_t ?_;(repeat' first|exact w_t|apply w_l);all_goals intros));refine Zag (ι:=Nat) (λi e m=>i≤L.length∧e 0=.sl 1 M∧e 2=iv b∧e 7=iv i∧∀j (hj:j < L.length),j < i→fewP b L[j]=true) (λi=>L.length - i) 0 (by rfl) ?_ ?_
 ·rintro i e m ⟨hi,e0,e2,e7,hj⟩
  by_cases hi2:i < L.length
  ·have hg:M.getD i .u=.sl 4 (L[i].map RT.av):=hgl i hi2;have hno:=hA i hi2;have hnx:fewP b L[i]=true→∀j (hj:j < L.length),j < i+1→fewP b L[j]=true:=λh j hj2 hlt=>by
    by_cases e:j=i
    ·subst e;exact h
    ·exact hj j hj2 (by omega)
   have hlm:=hs _ (List.getElem_mem hi2);have hnm:=hN _ (List.getElem_mem hi2);clear hj hA hE;generalize L[i]=l at *;have c1:Pure Tryz.prog 12 [.sl 4 (l.map RT.av),iv b,iv 3,iv 4] (.v (.bool (Zeg l b 3 4))):=rpSmall l b 3 4 hb (by omega) hlm;by_cases h1:Zeg l b 3 4=true
   ·obtain⟨eq,pb,-⟩:=sm_in h1 hnm;have c2:=rpDeg (l.map RT.tm) (by have:=pb.l;omega) λu hu=>pb.k.sm (by omega) hu;rw [←eq] at c2;rw [h1] at c1;have hfp:fewP b l=((decide (degP (l.map RT.tm)≤2) || (decide (4 < b) && decide (degP (l.map RT.tm)≤4))) && l.all tmLb):=by unfold fewP;rw [h1,Bool.true_and]
    have hll:l.length≤b:=by have:=pb.l;rwa [List.length_map] at this
    have hln:(l.map RT.av).length=l.length:=List.length_map ..;have hgk:∀k (hk:k < l.length),(l.map RT.av).getD k .u=l[k].av:=λk hk=>Zbb RT.av hk;by_cases h2:degP (l.map RT.tm)≤2∨(4 < b∧degP (l.map RT.tm)≤4)
    ·have hd:(decide (degP (l.map RT.tm)≤2) || (decide (4 < b) && decide (degP (l.map RT.tm)≤4)))=true:=by simpa using h2
     rw [hd,Bool.true_and] at hfp;generalize degP (l.map RT.tm)=d at *;clear eq pb h1 hd;generalize l.map RT.av=A at *;(focus (refine wkad (w_5 e0 e2 e7 hg hlen) (w_2 c1 c2) w_t ?_;(repeat' first|exact w_t|apply w_l);all_goals intros));all_goals
      refine Zag (ι:=Nat) (λk e m=>k≤l.length∧e 0=.sl 1 M∧e 2=iv b∧e 7=iv i∧e 8=iv k∧∀j (hj:j < l.length),j < k→tmLb l[j]=true) (λk=>l.length - k) 0 (by rfl) ?_ ?_
      ·rintro k e m ⟨hk,f0,f2,f7,f8,hjk⟩
       by_cases hk2:k < l.length
       ·have hgg:=hgk k hk2;have hlb:=lbs_no hk2;have hnk:tmLb l[k]=true→∀j (hj:j < l.length),j < k+1→tmLb l[j]=true:=λh j hj2 hlt=>by
         by_cases e:j=k
         ·subst e;exact h
         ·exact hjk j hj2 (by omega)
        clear hjk hgk;generalize l[k]=t at *;obtain⟨⟨s,li,dd⟩,m1⟩:=t;by_cases hc:li.length≤1∧dd.length≤1
        ·have hx:=hnk (by unfold tmLb;simpa using hc);(focus (refine wkad (w_8 f0 f2 f7 f8 hg hgg hln hlen) w_t w_t ?_;(repeat' first|exact w_t|apply w_l);all_goals intros));exact⟨k+1,⟨by omega,by exact gW f0,by exact gW f2,by exact gW f7,by exact gS,hx⟩,by omega⟩
        ·rw [hlb (by unfold tmLb;simp only [←Bool.not_eq_true,Bool.and_eq_true,decide_eq_true_eq];exact hc)] at hfp;obtain rfl:=hno hfp;(focus (refine wkld (w_8 f0 f2 f7 f8 hg hgg hln hlen) w_t w_t w_t ?_;(repeat' first|exact w_t|apply w_l);all_goals intros))
       ·have hx:=hnx (by rw [hfp];exact List.all_eq_true.2 λt ht=>by obtain⟨j,hj,rfl⟩:=List.mem_iff_getElem.1 ht;exact hjk j hj (by omega));(focus (refine wkad (w_7 f0 f2 f7 f8 hg hln hlen) w_t w_t ?_;(repeat' first|exact w_t|apply w_l);all_goals intros));exact⟨i+1,⟨by omega,by exact gW f0,by exact gW f2,by exact gS,hx⟩,by omega⟩
      ·exact⟨Nat.zero_le _,by exact gW e0,by exact gW e2,by exact gW e7,by exact gC,λj hj h=>absurd h (by omega)⟩
    ·have hd:(decide (degP (l.map RT.tm)≤2) || (decide (4 < b) && decide (degP (l.map RT.tm)≤4)))=false:=by
      simp only [←Bool.not_eq_true,Bool.or_eq_true,Bool.and_eq_true,decide_eq_true_eq];exact h2
     rw [hd,Bool.false_and] at hfp;obtain rfl:=hno hfp;generalize degP (l.map RT.tm)=d at *;clear eq pb h1 hd;generalize l.map RT.av=A at *;(focus (refine wkld (w_5 e0 e2 e7 hg hlen) (w_2 c1 c2) w_t w_t ?_;(repeat' first|exact w_t|apply w_l);all_goals intros))
   ·rw [Bool.not_eq_true] at h1;obtain rfl:=hno (by unfold fewP;rw [h1,Bool.false_and]);rw [h1] at c1;generalize l.map RT.av=A at *;(focus (refine wkld (w_5 e0 e2 e7 hg hlen) (w_1 c1) w_t w_t ?_;(repeat' first|exact w_t|apply w_l);all_goals intros))
  ·obtain rfl:=hE λj hj2=>hj j hj2 (by omega);(focus (refine wkld (w_4 e0 e2 e7 hlen) w_t w_t w_t ?_;(repeat' first|exact w_t|apply w_l);all_goals intros))
 ·exact⟨Nat.zero_le _,by exact gC,by exact gC,by exact gC,λj hj h=>absurd h (by omega)⟩
theorem Zpe:Pure Tryz.prog 7 [] (.v (.bool true)):=by
 have lx:Zfp 4 xP=true:=by decide +kernel
 have ly:Zfp 4 yP=true:=by decide +kernel
 have v0:Pure Tryz.prog 22 [iv 0] (poA xP):=rpVar 0 (by omega);have v1:Pure Tryz.prog 22 [iv 1] (poA yP):=rpVar 1 (by omega);exact lwAliveV xP yP d0P d1P [(1,[2])] [(1,[0,2])] dfP dxP d1P v0 v1 (lSub _ ly lx (by decide +kernel)).2 (lAdd _ ly lx (by decide +kernel)).2 red2 (lMul _ lx lx (by decide +kernel)).2 (lMul _ ly ly (by decide +kernel)).2 (lSub _ (by decide +kernel) (by decide +kernel) (by decide +kernel)).2 (lSub _ lx ly (by decide +kernel)).2 mem1 (lAdd _ lx ly (by decide +kernel)).2 (lEq lx rfl) (lEq ly rfl) (lEq (by decide +kernel) rfl)
theorem eqPo {p:Po} {n j e:Nat} (h:PB p n j e) (hn:n≤1000000) (hj:j≤2000000) (he:e≤1000):Pure Tryz.prog 11 [poA p,poA p] (.v (.bool true)):=by
 have l:=h.l;have:=Zsg p p h.k h.k h.s.dom h.s.dom (by omega) (by omega) hj hj (by omega) (by omega)
 rwa [decide_eq_true rfl] at this
section
variable {N n:Nat} {cs:List AV}
theorem agI64:Zf0 Tryz.prog 3=false:=by kernel_rfl
theorem csI64:Tryz.prog.cellsOf 3=1:=by kernel_rfl
theorem agPol:Zf0 Tryz.prog 23=false:=by kernel_rfl
theorem shMo (h:Zc1 Tryz.prog N n 46 cs):∃l:List Int,cs=[ivs l]∧l.length≤N:=by
 obtain⟨bs,rfl,hl,_⟩:=Zd4 (g:=λk:Int=>[iv k]) (Q:=λ_=>True) Tryz.underlying46 h λm x hx=>by
  obtain⟨i,rfl,_⟩:=Zhk Tryz.underlying3 hx;exact⟨i,rfl,trivial⟩
 refine⟨bs,?_,hl⟩;rw [csI64];have:(bs.map λb:Int=>Zdf Tryz.prog 3 [iv b])=bs.map iv:=List.map_congr_left λb _=>Zda agI64 _;rw [this]
theorem shTe (h:Zc1 Tryz.prog N n 48 cs):∃t:RT,cs=[.v (.bool t.r.s),lim t.r.l,lim t.r.d,ivs t.m]∧t.r.lm N:=by
 obtain⟨m,rfl,hs⟩:=Zf2 Tryz.underlying48 (by kernel_rfl) h;obtain⟨x,y,rfl,h1,hs⟩:=hs.inv;obtain⟨x2,y,rfl,h2,hs⟩:=hs.inv;obtain rfl:=hs.inv0;obtain⟨r,rfl,hr⟩:=shRat h1;obtain⟨l,rfl,_⟩:=shMo h2;exact⟨⟨r,l⟩,rfl,hr⟩
theorem shPo (h:Zc1 Tryz.prog N n 23 cs):∃l:List RT,cs=[rpA l]∧∀t∈l,t.r.lm N:=by
 obtain⟨bs,rfl,hl,hq⟩:=Zd4 (g:=λt:RT=>[.v (.bool t.r.s),lim t.r.l,lim t.r.d,ivs t.m]) (Q:=λt=>t.r.lm N) Tryz.underlying23 h λm x hx=>shTe hx;refine⟨bs,?_,hq⟩;rw [show Tryz.prog.cellsOf 48=4 from by kernel_rfl];have:(bs.map λt:RT=>Zdf Tryz.prog 48 [.v (.bool t.r.s),lim t.r.l,lim t.r.d,ivs t.m])=bs.map RT.av:=List.map_congr_left λb _=>Zr0 Tryz.underlying48 _;rw [this]
theorem shPos (h:Zc1 Tryz.prog N n 24 cs):∃L:List (List RT),cs=[.sl 1 (L.map rpA)]∧∀l∈L,∀t∈l,t.r.lm N:=by
 obtain⟨bs,rfl,hl,hq⟩:=Zd4 (g:=λl:List RT=>[rpA l]) (Q:=λl=>∀t∈l,t.r.lm N) Tryz.underlying24 h λm x hx=>shPo hx;refine⟨bs,?_,hq⟩;rw [show Tryz.prog.cellsOf 23=1 from by kernel_rfl];have:(bs.map λl:List RT=>Zdf Tryz.prog 23 [rpA l])=bs.map rpA:=List.map_congr_left λb _=>Zda agPol _;rw [this]
end
end Go.Proofs.YtimmnimikmnljaaGreat
