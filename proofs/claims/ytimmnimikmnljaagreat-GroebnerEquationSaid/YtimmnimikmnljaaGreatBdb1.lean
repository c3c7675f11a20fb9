/- Contracts of the functions that the law reaches, and the rules by which they are walked. They say what a call hands back for every input within the bounds that each names; no other condition. -/
import Derived.Test.YtimmnimikmnljaaGreatBd14
set_option linter.unusedSimpArgs false
set_option linter.unusedVariables false
set_option maxRecDepth 20000
set_option maxHeartbeats 16000000
namespace Go.Proofs.YtimmnimikmnljaaGreat
open Go Go.RowKit Go.Pg
attribute [-bool_to_prop] Bool.and_eq_decide Bool.or_eq_decide Bool.decide_beq_decide decide_eq_decide
section
attribute [local go_sem] Tryz.underlying3 Tryz.underlying4 Tryz.underlying5 Tryz.underlying9 sz3 by3 z3 szStr byStr zStr
end
end Go.Proofs.YtimmnimikmnljaaGreat
namespace Go.Proofs.YtimmnimikmnljaaGreat
open Go Go.RowKit Go.Pg Go.Pol
attribute [-bool_to_prop] Bool.and_eq_decide Bool.or_eq_decide Bool.decide_beq_decide decide_eq_decide
attribute [local go_sem] Tryz.underlying3 Tryz.underlying4 Tryz.underlying104 Tryz.underlying9 Tryz.underlying45 Tryz.underlying27 Tryz.underlying44 Tryz.underlying42 Tryz.underlying40 sz3 by3 z3 szB zB szL byL zL szErr zErr szStr byStr zStr Zcd zRat Zcf zInt Zce zNat szSlI zSlI
theorem irRaw (s:Bool) (l:List Nat) (hl:Lm l) (hs:l.length≤100000000):Pure Tryz.prog 85 [.agg [.v (.bool s),lim l]] (.v (.bool (RQ.zok s l))):=by
 unfold RQ.zok valL;by_cases h:l.length=0
 ·rw [decide_eq_true h,Bool.true_or,Bool.true_and,Bool.and_true];cases s
  ·refine Zaa (tok:=0) Tryz.func85 rfl Tryz.ntmps85 Tryz.results85 Tryz.call85 (by rfl) (by simp) ?_;(focus (refine wklp (w_1 @Zci) w_t w_t (w_r 0) ?_;(repeat' first|exact w_t|apply w_l);all_goals intros))
  ·refine Zaa (tok:=0) Tryz.func85 rfl Tryz.ntmps85 Tryz.results85 Tryz.call85 (by rfl) (by simp) ?_;(focus (refine wklp (w_1 @Zci) w_t w_t (w_r 0) ?_;(repeat' first|exact w_t|apply w_l);all_goals intros))
 ·rw [decide_eq_false h,Bool.false_or,Bool.and_false,Bool.not_false,Bool.and_true];have ei:(l.length:Int) - 1=((l.length - 1:Nat):Int):=by omega
  have hlm:=Zbz hl (l.length - 1);by_cases hg:gN l (l.length - 1)=0
  ·rw [decide_eq_true hg];cases s
   ·refine Zaa (tok:=0) Tryz.func85 rfl Tryz.ntmps85 Tryz.results85 Tryz.call85 (by rfl) (by simp) ?_;(focus (refine wklp (w_2 ei @Zci) w_t (w_1 @Bool.not_true) (w_r 0) ?_;(repeat' first|exact w_t|apply w_l);all_goals intros))
   ·refine Zaa (tok:=0) Tryz.func85 rfl Tryz.ntmps85 Tryz.results85 Tryz.call85 (by rfl) (by simp) ?_;(focus (refine wklp (w_2 ei @Zci) w_t (w_1 @Bool.not_true) (w_r 0) ?_;(repeat' first|exact w_t|apply w_l);all_goals intros))
  ·rw [decide_eq_false hg];cases s
   ·refine Zaa (tok:=0) Tryz.func85 rfl Tryz.ntmps85 Tryz.results85 Tryz.call85 (by rfl) (by simp) ?_;(focus (refine wklp (w_2 ei @Zci) w_t (w_1 @Bool.not_false) (w_r 0) ?_;(repeat' first|exact w_t|apply w_l);all_goals intros))
   ·refine Zaa (tok:=0) Tryz.func85 rfl Tryz.ntmps85 Tryz.results85 Tryz.call85 (by rfl) (by simp) ?_;(focus (refine wklp (w_2 ei @Zci) w_t (w_1 @Bool.not_false) (w_r 0) ?_;(repeat' first|exact w_t|apply w_l);all_goals intros))
theorem rtRight (r:RQ) (h:r.lm 100000000):Pure Tryz.prog 41 [r.av] (.v (.bool r.ok)):=by
 obtain⟨s,l,d⟩:=r;obtain⟨h1,h2,h3,h4⟩:=h;simp only at h1 h2 h3 h4;have c1:=irRaw s l h1 h3;unfold RQ.ok;simp only;generalize RQ.zok s l=z at *;by_cases hd:d.length=0
 ·have:decide (0 < d.length)=false:=decide_eq_false (by omega);rw [this,Bool.and_false];cases z
  ·refine Zaa (tok:=0) Tryz.func41 rfl Tryz.ntmps41 Tryz.results41 Tryz.call41 (by rfl) (by simp) ?_;(focus (refine wklp (w_1 @Zci) (w_1 c1) w_t (w_r 0) ?_;(repeat' first|exact w_t|apply w_l);all_goals intros))
  ·refine Zaa (tok:=0) Tryz.func41 rfl Tryz.ntmps41 Tryz.results41 Tryz.call41 (by rfl) (by simp) ?_;(focus (refine wklp (w_1 @Zci) (w_1 c1) w_t (w_r 0) ?_;(repeat' first|exact w_t|apply w_l);all_goals intros))
 ·have:decide (0 < d.length)=true:=decide_eq_true (by omega);rw [this,Bool.and_true];have ei:(d.length:Int) - 1=((d.length - 1:Nat):Int):=by omega
  have hlm:=Zbz h2 (d.length - 1)
  cases z with
  | false =>
    rw [Bool.false_and,Bool.false_and];refine Zaa (tok:=0) Tryz.func41 rfl Tryz.ntmps41 Tryz.results41 Tryz.call41 (by rfl) (by simp) ?_;(focus (refine wklp (w_1 @Zci) (w_1 c1) w_t (w_r 0) ?_;(repeat' first|exact w_t|apply w_l);all_goals intros))
  | true =>
    rw [Bool.true_and];by_cases hg:gN d (d.length - 1)=0
    ·have:valL d=false:=by unfold valL;rw [decide_eq_false hd,decide_eq_true hg];rfl
     rw [this,Bool.false_and];refine Zaa (tok:=0) Tryz.func41 rfl Tryz.ntmps41 Tryz.results41 Tryz.call41 (by rfl) (by simp) ?_;(focus (refine wklp (w_2 ei @Zci) (w_1 c1) w_t (w_r 0) ?_;(repeat' first|exact w_t|apply w_l);all_goals intros))
    ·have hv:valL d=true:=by unfold valL;rw [decide_eq_false hd,decide_eq_false hg];rfl
     rw [hv,Bool.true_and];have hdt:=(Ziq h2).1 hv;have l4:(toL (nv d)).length≤100000000:=by rw [←hdt];exact h4
     have c2:=Zkp (nv d) l4;have c3:=natGcd l d (by omega) (by omega) h1 h2
     have n0:nv d≠0:=by
      intro h0;rw [h0,Za3] at hdt;rw [hdt] at hd;exact hd rfl
     have gl:(toL (Nat.gcd (nv l) (nv d))).length≤100000000:=Nat.le_trans (Zdl (Nat.gcd_le_right _ (by omega))) l4;have c4:=Zkp (Nat.gcd (nv l) (nv d)) gl;rw [←hdt] at c2;have hb:(Nat.gcd (nv l) (nv d) == 1)=decide (Nat.gcd (nv l) (nv d)=1):=by rw [Bool.eq_iff_iff,beq_iff_eq,decide_eq_true_eq]
     rw [hb];by_cases h1d:nv d=1
     ·rw [decide_eq_true h1d] at c2;rw [decide_eq_true (show Nat.gcd (nv l) (nv d)=1 by rw [h1d,Nat.gcd_one_right])];clear c3 c4 hdt;refine Zaa (tok:=0) Tryz.func41 rfl Tryz.ntmps41 Tryz.results41 Tryz.call41 (by rfl) (by simp) ?_;(focus (refine wklp (w_2 ei @Zci) (w_2 c1 c2) (w_1 @decide_true) (w_r 0) ?_;(repeat' first|exact w_t|apply w_l);all_goals intros))
     ·rw [decide_eq_false h1d] at c2;clear hdt hb gl;generalize decide (Nat.gcd (nv l) (nv d)=1)=v at *;generalize toL (Nat.gcd (nv l) (nv d))=lg' at *;refine Zaa (tok:=0) Tryz.func41 rfl Tryz.ntmps41 Tryz.results41 Tryz.call41 (by rfl) (by simp) ?_;(focus (refine wklp (w_2 ei @Zci) (w_4 c1 c2 c3 c4) w_t (w_r 0) ?_;(repeat' first|exact w_t|apply w_l);all_goals intros))
attribute [local go_sem] Tryz.underlying48 Tryz.underlying22 Tryz.underlying46 Tryz.underlying23 Tryz.underlying24 Zbq Zbt Zcs Zbs Zbv Zcu Zbr Zbu Zct
theorem rtRightQ (q:Rat) {k:Nat} (h:Sz q k) (hk:k≤2000000):Pure Tryz.prog 41 [ratQ q] (.v (.bool true)):=by
 have c:=rtRight ⟨decide (q.num < 0),toL q.num.natAbs,toL q.den⟩ ⟨Zau _,Zau _,by have:=h.1;simp only;omega,by have:=h.2;simp only;omega⟩;rw [rq_ok] at c;exact c
theorem poRight (p:Po) {j e:Nat} (hp:PK p j e) (sp:SrtM p) (lp:p.length≤1000000) (hj:j≤2000000) (he:e≤1048576) (hl:∀t∈p,t.2.length≤64) :
 Pure Tryz.prog 15 [poA p] (.v (.bool true)):=by
 refine Zaa (tok:=0) Tryz.func15 rfl Tryz.ntmps15 Tryz.results15 Tryz.call15 (by rfl) (by simp) ?_;(focus (refine wkad (w_1 @Za4) w_t w_t ?_;(repeat' first|exact w_t|apply w_l);all_goals intros));refine Zag (ι:=Nat) (λi e m=>i≤p.length∧e 0=poA p∧e 5=poA p∧e 6=iv p.length∧e 7=iv i) (λi=>p.length - i) 0 (by rfl) ?_ ?_
 ·rintro i e m ⟨hi,e0,e5,e6,e7⟩
  by_cases hi2:i < p.length
  ·have hg:=Zbb tmA hi2;have hm:=hp _ (List.getElem_mem hi2);have hsm:=hp.sm (by omega) (List.getElem_mem hi2);have n1:=(sp.1 _ (List.getElem_mem hi2)).1;have d1:=(sp.1 _ (List.getElem_mem hi2)).2;have cr:=rtRightQ p[i].1 hm.1 (by omega);have cs:=Zf3 p[i].1 hm.1 (by omega);have hz:¬p[i].1.num.sign=0:=by rw [Zev];exact n1
   have cm:Pure Tryz.prog 43 [ivs p[i].2] (.v (.bool (Zb8 p[i].2))):=Zly p[i].2;rw [Zsi d1 (hl _ (List.getElem_mem hi2)) (λk=>by have:=(hm.2.2 k).2;omega)] at cm;rcases Nat.eq_zero_or_pos i with h0 | h0
   ·subst h0;generalize p[0]=s at *;obtain⟨s1,s2⟩:=s;simp only at *;generalize s1.num.sign=z at *;(focus (refine wkad (w_6 e0 e5 e6 e7 hg @Za4) (w_3 cr cs cm) (w_1 (w_d 4 [(2,AV.v (.bool true)),(7,iv z),(13,AV.v (.bool true))] [] [])) ?_;(repeat' first|exact w_t|apply w_l);all_goals intros));exact⟨1,⟨by omega,by exact gW e0,by exact gW e5,by exact gW e6,by exact gC⟩,by omega⟩
   ·obtain⟨l,rfl⟩:∃l,i=l+1:=⟨i - 1,by omega⟩;have hh:=Zbb tmA (show l < p.length by omega);have hlt:ltM p[l+1].2 p[l].2:=List.pairwise_iff_getElem.1 sp.2 l (l+1) (by omega) hi2 (by omega);have cl:=poLex p[l] p[l+1] (hp.sm (by omega) (List.getElem_mem _)) hsm
    have hx:lexC p[l].2 p[l+1].2 (max p[l].2.length p[l+1].2.length)=1:=by
     rw [Zgq,Nat.max_comm];have:lexC p[l+1].2 p[l].2 (max p[l+1].2.length p[l].2.length)=-1:=hlt;rw [this];rfl
    rw [hx] at cl;have hi1:((l+1:Nat):Int) - 1=(l:Int):=by omega
    clear hlt hx hm hsm;generalize p[l+1]=s at *;generalize p[l]=t at *;obtain⟨s1,s2⟩:=s;obtain⟨t1,t2⟩:=t;simp only at *;generalize s1.num.sign=z at *;(focus (refine wkad (w_8 e0 e5 e6 e7 hg hh hi1 @Za4) (w_4 cr cs cm cl) (w_1 (w_d 4 [(2,AV.v (.bool true)),(7,iv z),(13,AV.v (.bool true)),(26,iv 1)] [] [])) ?_;(repeat' first|exact w_t|apply w_l);all_goals intros));exact⟨l+1+1,⟨by omega,by exact gW e0,by exact gW e5,by exact gW e6,by exact gS⟩,by omega⟩
  ·have hi3:i=p.length:=by omega
   subst hi3;(focus (refine wkld (w_5 e0 e5 e6 e7 @Za4) w_t w_t w_t ?_;(repeat' first|exact w_t|apply w_l);all_goals intros))
 ·exact⟨Nat.zero_le _,by exact gC,by exact gC,by(simp (disch:=omega) only [go_sem,List.length_map]<;>repeat' first|rfl|refine⟨?_,?_⟩),by exact gC⟩
theorem poCmp1 (s:Tm) {k:Nat} (h:Sz s.1 k) (hk:k≤2000000) (hs:Sm s.2):Pure Tryz.prog 94 [tmA s,tmA s] (iv 0):=by
 have c1:=poLex s s hs hs;rw [Zjr _ λj _=>rfl] at c1;have c2:=ratCmp s.1 s.1 h h hk hk;rw [Zn5] at c2;obtain⟨s1,s2⟩:=s;simp only at *;refine Zaa (tok:=0) Tryz.func94 rfl Tryz.ntmps94 Tryz.results94 Tryz.call94 (by rfl) (by simp) ?_;(focus (refine wkld w_t (w_2 c1 c2) w_t w_t ?_;(repeat' first|exact w_t|apply w_l);all_goals intros))
theorem slCmp (p:Po) {j e:Nat} (hp:PK p j e) (lp:p.length≤1000000) (hj:j≤2000000) (he:e≤16777216):Pure Tryz.prog 96 [poA p,poA p,.fn 94 []] (iv 0):=by
 refine Zaa (tok:=0) Tryz.func96 rfl Tryz.ntmps96 Tryz.results96 Tryz.call96 (by rfl) (by simp) ?_;(focus (refine wkad (w_1 @Za4) w_t w_t ?_;(repeat' first|exact w_t|apply w_l);all_goals intros));refine Zag (ι:=Nat) (λi e m=>i≤p.length∧e 0=poA p∧e 1=poA p∧e 2=.fn 94 []∧e 11=poA p∧e 12=iv p.length∧e 13=iv i) (λi=>p.length - i) 0 (by rfl) ?_ ?_
 ·rintro i e m ⟨hi,e0,e1,e2,e11,e12,e13⟩
  by_cases hi2:i < p.length
  ·have hg:=Zbb tmA hi2;have c:=poCmp1 p[i] (hp _ (List.getElem_mem hi2)).1 hj (hp.sm he (List.getElem_mem hi2));generalize p[i]=s at *;obtain⟨s1,s2⟩:=s;(focus (refine wkad (w_8 e0 e1 e2 e11 e12 e13 hg @Za4) (w_1 c) w_t ?_;(repeat' first|exact w_t|apply w_l);all_goals intros));exact⟨i+1,⟨by omega,by exact gW e0,by exact gW e1,by exact gW e2,by exact gW e11,by exact gW e12,by exact gS⟩,by omega⟩
  ·have hi3:i=p.length:=by omega
   subst hi3;(focus (refine wkld (w_7 e0 e1 e2 e11 e12 e13 @Za4) w_t w_t w_t ?_;(repeat' first|exact w_t|apply w_l);all_goals intros))
 ·exact⟨Nat.zero_le _,by exact gC,by exact gC,by exact gC,by exact gC,by(simp (disch:=omega) only [go_sem,List.length_map]<;>repeat' first|rfl|refine⟨?_,?_⟩),by exact gC⟩
theorem poCmpS (p:Po) {j e:Nat} (hp:PK p j e) (lp:p.length≤1000000) (hj:j≤2000000) (he:e≤16777216):Pure Tryz.prog 53 [poA p,poA p] (iv 0):=by
 have c:=slCmp p hp lp hj he;refine Zaa (tok:=0) Tryz.func53 rfl Tryz.ntmps53 Tryz.results53 Tryz.call53 (by rfl) (by simp) ?_;(focus (refine wkld w_t (w_1 c) w_t w_t ?_;(repeat' first|exact w_t|apply w_l);all_goals intros))
theorem poEqS (p:Po) {j e:Nat} (hp:PK p j e) (lp:p.length≤1000000) (hj:j≤2000000) (he:e≤16777216):Pure Tryz.prog 20 [poA p,poA p] (.v (.bool true)):=by
 have c:=poCmpS p hp lp hj he;refine Zaa (tok:=0) Tryz.func20 rfl Tryz.ntmps20 Tryz.results20 Tryz.call20 (by rfl) (by simp) ?_;(focus (refine wkld w_t (w_1 c) w_t w_t ?_;(repeat' first|exact w_t|apply w_l);all_goals intros))
attribute [local go_sem] Zee Zep Zg4 Zg9 zSlE Zed Zg3 Zef Zeq Zg5 Tryz.underlying87 Tryz.underlying83 Tryz.underlying120 Tryz.underlying117 Tryz.underlying126 Zfa Zh3 zArr Ze9 Zh2 zMap
theorem Zf9 (l M:List AV) (o n:Int) (hn:n=3∨n=4) (b1 b2:Bool)
 (c1:Pure Tryz.prog 6 [.sl 1 [.sl 4 l],iv 1,iv 8] (.v (.bool b1))) (c2:Pure Tryz.prog 6 [.sl 1 M,iv 4,iv 4] (.v (.bool b2)))
 (c3:b1=true→b2=true→Pure Tryz.prog 8 [.sl 4 l,.sl 1 M,.v (.int .i64 o)] (.tup [.v (.slice none 0 0),.v (.slice none 0 0),iv n])) :
 Pure Tryz.prog 5 [.sl 4 l,.sl 1 M,.v (.int .i64 o)] (.v (.bool true)):=by
 have al:=Zpe;cases b1
 ·refine Zaa (tok:=0) Tryz.func5 rfl Tryz.ntmps5 Tryz.results5 Tryz.call5 (by rfl) (by simp) ?_;(focus (refine wkax w_t (w_1 al) w_t w_t (w_1 c1) w_t (w_r 0) ?_;(repeat' first|exact w_t|apply w_l);all_goals intros))
  (all_goals (try simp (disch:=omega) only [go_sem,decide_eq_true,decide_eq_false,if_pos,if_neg,Int.reduceAdd,Int.reduceSub,Int.reduceToNat,Int.zero_add]));(all_goals first|done|rfl|(congr 2;first|done|omega|(rw [Bool.eq_iff_iff];simp only [bool_to_prop,Bool.false_eq_true,iff_true,true_iff,iff_false,false_iff];omega))|skip)
 ·cases b2
  ·refine Zaa (tok:=0) Tryz.func5 rfl Tryz.ntmps5 Tryz.results5 Tryz.call5 (by rfl) (by simp) ?_;(focus (refine wkax w_t (w_1 al) w_t w_t (w_2 c1 c2) w_t (w_r 0) ?_;(repeat' first|exact w_t|apply w_l);all_goals intros))
   (all_goals (try simp (disch:=omega) only [go_sem,decide_eq_true,decide_eq_false,if_pos,if_neg,Int.reduceAdd,Int.reduceSub,Int.reduceToNat,Int.zero_add]));(all_goals first|done|rfl|(congr 2;first|done|omega|(rw [Bool.eq_iff_iff];simp only [bool_to_prop,Bool.false_eq_true,iff_true,true_iff,iff_false,false_iff];omega))|skip)
  ·have p1:=c3 rfl rfl;rcases hn with rfl | rfl
   all_goals
    refine Zaa (tok:=0) Tryz.func5 rfl Tryz.ntmps5 Tryz.results5 Tryz.call5 (by rfl) (by simp) ?_;(focus (refine wkax w_t (w_2 p1 al) w_t w_t (w_2 c1 c2) w_t (w_r 0) ?_;(repeat' first|exact w_t|apply w_l);all_goals intros))
    (all_goals (try simp (disch:=omega) only [go_sem,decide_eq_true,decide_eq_false,if_pos,if_neg,Int.reduceAdd,Int.reduceSub,Int.reduceToNat,Int.zero_add]));(all_goals first|done|rfl|(congr 2;first|done|omega|(rw [Bool.eq_iff_iff];simp only [bool_to_prop,Bool.false_eq_true,iff_true,true_iff,iff_false,false_iff];omega))|skip)
theorem eq_con {o:Int} {bs:List Po} {k:Nat} {s:DS} (hb:∀b∈bs,BO b) (hl:bs.length≤4) (h:DI o bs k s) (hk:k≤20809) (i:Nat) (hi:i < bs.length) :
 Pure Tryz.prog 17 [poA (s.q.getD i []),poA (bs.getD i [])] (poA (mlM (s.q.getD i []) (bs.getD i [])))∧Pure Tryz.prog 16 [poA (smE s.q bs s.r i),poA (mlM (s.q.getD i []) (bs.getD i []))] (poA (smE s.q bs s.r (i+1)))∧Pure Tryz.prog 18 [poA (bs.getD i []),.v (.int .i64 o)] (.tup [tmA (ldO o (bs.getD i [])),.v (.bool true)])∧(ldO o (bs.getD i [])).2.length≤1000:=by
 obtain⟨⟨j,s1⟩,s2,s3⟩:=smE_ok hb hl h hk (K:=170000) (by omega) i (by omega);obtain⟨q1,q2,⟨j2,q3⟩,q4⟩:=s3 hi;have hbi:=hb _ (Zgc hi);have hbb:=hbi.pb;have l1:=q1.l;have l2:=hbb.l;have l3:=s1.l;have l4:=q3.l;have:i*(k*4)≤4*(20809*4):=Nat.mul_le_mul (by omega) (by omega);exact⟨poMul _ _ q1.k hbb.k q1.s hbb.s (by omega) (by omega) (by omega) (by omega) (by omega) (by omega) q2 (by omega) (by omega),poAdd _ _ s2 q4 s1.s q3.s (by omega) (by omega) (by omega) (by omega) (by omega),Zjb _ o hbi.n (λu hu=>hbb.k.sm (by omega) hu) (by omega),by
  have m:=Zez (o:=o) hbi.s hbi.n;have:=(hbi.x _ m).1;omega⟩
theorem Znt (P:Po) (bs:List Po) (o:Int) (s:DS) (k:Nat) (hb:∀b∈bs,BO b) (hl:bs.length≤4) (h:DI o bs k s) (hk:k≤20809) (hP:PB P 8 10 16) (h0:s.p=[]) (ht:∀x,totO bs s x=cof P x)
 (c1:Pure Tryz.prog 6 [.sl 1 [poA P],iv 1,iv 8] (.v (.bool true))) (c2:Pure Tryz.prog 6 [.sl 1 (bs.map poA),iv 4,iv 4] (.v (.bool true)))
 (c3:Pure Tryz.prog 8 [poA P,.sl 1 (bs.map poA),.v (.int .i64 o)] (.tup [.sl 1 (s.q.map poA),poA s.r,iv 0])) :
 Pure Tryz.prog 5 [poA P,.sl 1 (bs.map poA),.v (.int .i64 o)] (.v (.bool true)):=by
 have al:=Zpe
 have cr:Pure Tryz.prog 15 [poA s.r] (.v (.bool true)):=by
  obtain⟨r1,r2,r3⟩:=h.pr;obtain⟨D,-,-,-,-,h5⟩:=h.c;exact poRight s.r r2 r1 (by omega) (by omega) (by omega) λt ht=>by have:=(h5.x t ht).1;omega
 have hrl:s.r.length≤20809:=Nat.le_trans h.pr.2.2 hk;have ce:=poEqS P hP.k (by have:=hP.l;omega) (by omega) (by omega);have hsum:=smE_all hb h hP.s h0 ht;have hcon:=eq_con hb hl h hk;have hd:=h.hd;have hql:=h.lq;have hBg:∀i,i < bs.length→(bs.map poA).getD i .u=poA (bs.getD i []):=λi hi=>by
  rw [List.getD_eq_getElem?_getD,List.getElem?_map,List.getElem?_eq_getElem hi,List.getD_eq_getElem?_getD,List.getElem?_eq_getElem hi];rfl
 have hQg:∀i,i < bs.length→(s.q.map poA).getD i .u=poA (s.q.getD i []):=λi hi=>by
  rw [List.getD_eq_getElem?_getD,List.getElem?_map,List.getElem?_eq_getElem (by omega),List.getD_eq_getElem?_getD,List.getElem?_eq_getElem (by omega)];rfl
 have hBl:(bs.map poA).length=bs.length:=List.length_map ..;have hQl:(s.q.map poA).length=bs.length:=by rw [List.length_map];exact hql
 have hmem:∀i,i < bs.length→bs.getD i []∈bs:=λi hi=>Zgc hi;have hs0:smE s.q bs s.r 0=s.r:=rfl;clear h h0 ht hP hql;generalize smE s.q bs s.r=S at *;generalize bs.map poA=Bm at *;generalize s.q.map poA=Qm at *;generalize s.r=r at *;have G:=Hid.mk (And.intro hBg (And.intro hQg (And.intro hcon (And.intro hd hmem))));clear hBg hQg hcon hd hmem;refine Zaa (tok:=0) Tryz.func5 rfl Tryz.ntmps5 Tryz.results5 Tryz.call5 (by rfl) (by simp) ?_;(focus (refine wkax (w_2 hBl hQl) (w_2 c3 cr) w_t w_t (w_2 c1 c2) w_t (w_r 0) ?_;(repeat' first|exact w_t|apply w_l);all_goals intros));refine Zag (ι:=Nat) (λi e m=>i≤bs.length∧e 0=poA P∧e 1=.sl 1 Bm∧e 2=.v (.int .i64 o)∧e 7=.sl 1 Qm∧e 8=poA r∧e 10=poA (S i)∧e 11=iv i) (λi=>bs.length - i) 0 (by rfl) ?_ ?_
 ·rintro i e m ⟨hi,e0,e1,e2,e7,e8,e10,e11⟩
  by_cases hlt:i < bs.length
  ·obtain⟨hBg,hQg,hcon,hd,hmem⟩:=G.1;have g1:=hBg i hlt;have g2:=hQg i hlt;obtain⟨a1,a2,a3,a4⟩:=hcon i hlt;have hd2:=fun(t:Tm) (ht:t∈r)=>hd t ht _ (hmem i hlt);clear hBg hQg hcon hmem hd c1 c2 c3 cr;generalize hS2:S (i+1)=S2 at *;generalize mlM (s.q.getD i []) (bs.getD i [])=mq at *;generalize ldO o (bs.getD i [])=t at *;generalize bs.getD i []=b at *;generalize s.q.getD i []=q at *;generalize S i=S1 at *;obtain⟨t1,t2⟩:=t;simp only at a4 hd2;have D:=Hid.mk hd2;clear hd2;(focus (refine wkad (w_12 e0 e1 e2 e7 e8 e10 e11 g1 g2 hBl hQl @Za4) (w_3 a1 a2 a3) (w_1 (w_d 12 [(9,poA mq),(10,poA S2)] [] [])) ?_;(repeat' first|exact w_t|apply w_l);all_goals intros))
   rename_i g;have hd:=D.1;refine Zag (ι:=Nat) (λl e m=>l≤r.length∧e 0=poA P∧e 1=.sl 1 Bm∧e 2=.v (.int .i64 o)∧e 7=.sl 1 Qm∧e 8=poA r∧e 10=poA S2∧e 11=iv i∧e 12=.pbox 12 g 0∧m 12=some (.box g 48 [.v (.bool (decide (t1.num < 0))),lim (toL t1.num.natAbs),lim (toL t1.den),ivs t2] false)∧e 14=iv l) (λl=>r.length - l) 0 (by rfl) ?_ ?_
   ·rintro l e m ⟨hl,e0,e1,e2,e7,e8,e10,e11,e12,m12,e14⟩
    by_cases hll:l < r.length
    ·have gr:=Zbb tmA hll
     have cd:Pure Tryz.prog 19 [ivs t2,ivs r[l].2] (.v (.bool false)):=by
      have:=Zko t2 r[l].2 a4
      rwa [hd _ (List.getElem_mem hll)] at this
     clear hd;generalize r[l]=u at *;obtain⟨u1,u2⟩:=u;simp only at cd;(focus (refine wkad (w_12 e0 e1 e2 e7 e8 e10 e11 e12 m12 e14 gr @Za4) (w_1 cd) (w_1 (w_d 17 [(7,AV.v (.bool false))] [] [])) ?_;(repeat' first|exact w_t|apply w_l);all_goals intros));exact⟨l+1,⟨by omega,by exact gW e0,by exact gW e1,by exact gW e2,by exact gW e7,by exact gW e8,by exact gW e10,by exact gW e11,by exact gW e12,by exact gW m12,by exact gS⟩,by omega⟩
    ·have hl3:l=r.length:=by omega
     subst hl3;clear hd;(focus (refine wkad (w_11 e0 e1 e2 e7 e8 e10 e11 e12 m12 e14 @Za4) w_t w_t ?_;(repeat' first|exact w_t|apply w_l);all_goals intros));exact⟨i+1,⟨by omega,by exact gW e0,by exact gW e1,by exact gW e2,by exact gW e7,by exact gW e8,by rw [hS2];exact gW e10,by exact gS⟩,by omega⟩
   ·exact⟨Nat.zero_le _,by exact gW e0,by exact gW e1,by exact gW e2,by exact gW e7,by exact gW e8,by exact gC,by exact gW e11,by exact gC,by exact gC,by exact gC⟩
  ·have hi3:i=bs.length:=by omega
   subst hi3;rw [hsum] at e10;clear G;(focus (refine wkld (w_8 e0 e1 e2 e7 e8 e10 e11 hBl) (w_2 ce al) w_t w_t ?_;(repeat' first|exact w_t|apply w_l);all_goals intros))
 ·exact⟨Nat.zero_le _,by exact gC,by exact gC,by exact gC,by exact gC,by exact gC,by rw [hs0];exact gC,by exact gC⟩
theorem Zr7 (bs:List Po) (p:Po) (x:List Int):totO bs ⟨p,List.replicate bs.length [],[]⟩ x=cof p x:=by
 unfold totO;show cof p x+cofS x bs (List.replicate bs.length [])+0=_;rw [Zqv,Rat.add_zero,Rat.add_zero]
theorem Zpg (l:List RT) (L:List (List RT)) (o:Int) (h1:∀t∈l,t.r.lm maxLen) (h2:∀l∈L,∀t∈l,t.r.lm maxLen):Pure Tryz.prog 5 [rpA l,.sl 1 (L.map rpA),.v (.int .i64 o)] (.v (.bool true)):=by
 have h1':∀m∈[l],∀t∈m,t.r.lm maxLen:=by simpa using h1
 have c1:Pure Tryz.prog 6 [.sl 1 [rpA l],iv 1,iv 8] (.v (.bool (fewL [l] 1 8))):=lwFew [l] 1 8 (by omega) (by omega) (λm hm t ht=>⟨(h1' m hm t ht).1,(h1' m hm t ht).2.1⟩) h1';have c2:=lwFew L 4 4 (by omega) (by omega) (λm hm t ht=>⟨(h2 m hm t ht).1,(h2 m hm t ht).2.1⟩) h2;by_cases hs:fewL [l] 1 8=true∧fewL L 4 4=true
 ·obtain⟨e1,p1,p2,p3,p4⟩:=one_in hs.1 h1;obtain⟨e2,k1,k2⟩:=Ztw hs.2 h2;rw [hs.1,e1] at c1;rw [hs.2,e2] at c2;rw [e1,e2];have hb:=few_bo (by omega) k2;have hn:(L.map λl=>l.map RT.tm).length≤4:=by rwa [List.length_map]
  have p4:∀t∈l.map RT.tm,t.2.length≤3∧dgI t.2≤4:=λt ht=>⟨(p4 t ht).1,by rcases (p4 t ht).2 with g | g<;>omega⟩;generalize l.map RT.tm=p at *;generalize (L.map λl=>l.map RT.tm)=bs at *;rcases Zry hb with hb | ⟨z,z1,z2,z3⟩
  ·have ds:=Zmb (o:=o) (bs:=bs) p1 p2 p3 p4;have pb:PB p 8 10 16:=⟨p1,ds.1.pk,p2⟩;have g1:=Zl6 o bs p hb (by omega) pb ds
   cases hr:(if bigP p=true then none else Zdn o bs ⟨p,List.replicate bs.length [],[]⟩) with
   | none =>
     rw [hr] at g1;exact Zf9 _ _ o 4 (.inr rfl) true true c1 c2 λ_ _=>g1
   | some s =>
     rw [hr] at g1
     have hr':Zdn o bs ⟨p,List.replicate bs.length [],[]⟩=some s:=by
      by_cases hbig:bigP p=true
      ·rw [if_pos hbig] at hr;cases hr
      ·rwa [if_neg hbig] at hr
     obtain⟨j,hj,hD,hI,hz⟩:=Zmc hb (λs=>∀x,totO bs s x=cof p x) (λk s s' hD hI h0 e x=>by rw [tot_step hb hD h0 e x];exact hI x) _ 0 _ s (Nat.le_refl _) ds.1 (Zr7 bs p) ds.2 hr';exact Znt p bs o s j hb hn hD hj pb hz hI c1 c2 g1
  ·exact Zf9 _ _ o 3 (.inl rfl) true true c1 c2 λ_ _=>Znv p bs o z z1 z2 z3 (by omega)
 ·exact Zf9 _ _ o 3 (.inl rfl) _ _ c1 c2 λg1 g2=>absurd ⟨g1,g2⟩ hs
theorem saidEquation (xs:List AV) (h:ShapeL Tryz.prog maxLen 9 [23,24,3] xs):Pure Tryz.prog 5 xs (.v (.bool true)):=by
 obtain⟨x,bs,rfl,h1,h⟩:=h.inv;obtain⟨y,bs,rfl,h2,h⟩:=h.inv;obtain⟨z,bs,rfl,h3,h⟩:=h.inv;obtain rfl:=h.inv0;obtain⟨l1,rfl,k1⟩:=shPo h1;obtain⟨l2,rfl,k2⟩:=shPos h2;obtain⟨o,rfl,-⟩:=Zhk Tryz.underlying3 h3;rw [Zda agPol,Zda (by kernel_rfl),Zda agI64];exact Zpg l1 l2 o k1 k2
end Go.Proofs.YtimmnimikmnljaaGreat
