/- Contracts of the functions that the law reaches, and the rules by which they are walked. They say what a call hands back for every input within the bounds that each names; no other condition. -/
import Derived.Test.YtimmnimikmnljaaGreatBp3
import Derived.Laws.RangeString
import Derived.Lib.OthersKept
import Derived.Laws.Strings
set_option linter.unusedSimpArgs false
set_option linter.unusedVariables false
set_option maxRecDepth 20000
set_option maxHeartbeats 16000000
namespace Go.Proofs.YtimmnimikmnljaaGreat
open Go Go.RowKit Go.Pg
attribute [-bool_to_prop] Bool.and_eq_decide Bool.or_eq_decide Bool.decide_beq_decide decide_eq_decide
attribute [local go_sem] Tryz.underlying40 Tryz.underlying3 Tryz.underlying104 Tryz.underlying115 Tryz.underlying4 Tryz.underlying42 Tryz.underlying44 Tryz.underlying27 sz3 by3 z3 szL byL zL szB zB Zcp zNat Zcq zInt Zco zRat Tryz.underlying166
theorem ratOf (n:Nat) (hn:n < 9223372036854775808):Pure Tryz.prog 75 [.v (.int .i64 (n:Int))] (ratQ (n:Rat)):=by
 refine Zaa (tok:=0) Tryz.func75 rfl Tryz.ntmps75 Tryz.results75 Tryz.call75 (by rfl) (by simp) ?_;have hd:decide ((n:Rat).num < 0)=false:=decide_eq_false (by show ¬((n:Int) < 0);omega);have hn':(n:Rat).num.natAbs=n:=Int.natAbs_natCast n;unfold ratQ;rw [hd,hn',Rat.den_natCast];(focus (refine wkvp w_t (w_2 (intOf n hn) Zn0) ?_;(repeat' first|exact w_t|apply w_l);all_goals intros));simp (disch:=omega) only [go_sem]
theorem ratMul (a b:Rat) {j k:Nat} (ha:Sz a j) (hb:Sz b k) (hj:j≤2000000) (hk:k≤2000000):Pure Tryz.prog 90 [ratQ a,ratQ b] (ratQ (a*b)):=by
 obtain⟨a1,a2⟩:=id ha;obtain⟨b1,b2⟩:=id hb;have l1:(toL (a.num*b.num).natAbs).length≤j+k:=by rw [Int.natAbs_mul];exact Nat.le_trans (Zez _ _) (by omega)
 have l2:(toL (a.den*b.den)).length≤j+k:=Nat.le_trans (Zez _ _) (by omega);have c:=Zgd (decide (a.num*b.num < 0)) (a.num*b.num).natAbs (a.den*b.den) (by omega) (by omega) (Nat.mul_ne_zero a.den_nz b.den_nz);rw [Zcf,←Rat.mul_def'] at c;refine Zaa (tok:=0) Tryz.func90 rfl Tryz.ntmps90 Tryz.results90 Tryz.call90 (by rfl) (by simp) ?_;(focus (refine wkvp w_t (w_5 (Zhb a ha (by omega)) (Zhb b hb (by omega)) (iMul a.num b.num (by omega) (by omega)) (nMul a.den b.den (by omega) (by omega)) c) ?_;(repeat' first|exact w_t|apply w_l);all_goals intros));simp (disch:=omega) only [go_sem]
theorem ratAddA (s t:Bool) (n d m c:Nat) {j k:Nat} (a1:(toL n).length≤j) (a2:(toL d).length≤j) (b1:(toL m).length≤k) (b2:(toL c).length≤k) (hd0:d≠0) (hc0:c≠0) (hj:j≤2000000) (hk:k≤2000000) :
 Pure Tryz.prog 74 [ratA s n d,ratA t m c] (ratQ (mkRat (zI s n) d+mkRat (zI t m) c)):=by
 have oa:=Zpj d (by omega);have ob:=Zpj c (by omega);have l2:(toL (d*c)).length≤j+k:=Nat.le_trans (Zez _ _) (by omega);have z1:=Zdm s n;have w1:=Zdm t m;have pa:=Zi3 s n d (by omega) hd0;have pb:=Zi3 t m c (by omega) hc0;have eq:mkRat (zI s n) d+mkRat (zI t m) c=mkRat (zI s n*c+zI t m*d) (d*c):=Rat.mkRat_add_mkRat _ _ hd0 hc0;have cs0:=Zrz s t n m (by omega) (by omega);have cm1:Pure Tryz.prog 123 [intA s n,intA false c] (intZ (zI s n*c)):=Zp2 s false n c (by omega) (by omega);have cm2:Pure Tryz.prog 123 [intA t m,intA false d] (intZ (zI t m*d)):=Zp2 t false m d (by omega) (by omega)
 rw [eq]
 have x1:(toL (zI s n*c).natAbs).length≤j+k:=by
  rw [Int.natAbs_mul,Int.natAbs_natCast,z1];exact Nat.le_trans (Zez _ _) (by omega)
 have x2:(toL (zI t m*d).natAbs).length≤j+k:=by
  rw [Int.natAbs_mul,Int.natAbs_natCast,w1];exact Nat.le_trans (Zez _ _) (by omega)
 by_cases h1:d=1∧c=1
 ·obtain⟨h1,h2⟩:=h1
  have l1:(toL (zI s n+zI t m).natAbs).length≤j+k+1:=by
   have h3:=Zdv (Zd0 (zI s n) (zI t m));have h4:=Zm3 (zI s n).natAbs (zI t m).natAbs;rw [z1,w1] at h3 h4;omega
  have c:=Zgd (decide (zI s n+zI t m < 0)) (zI s n+zI t m).natAbs 1 (by omega) (by rw [Zfl];omega) (by omega);rw [Zcf] at c;subst h1;subst h2;rw [decide_eq_true rfl] at oa ob;have e1:zI s n*((1:Nat):Int)+zI t m*((1:Nat):Int)=zI s n+zI t m:=by omega
  rw [e1,Nat.mul_one];refine Zaa (tok:=0) Tryz.func74 rfl Tryz.ntmps74 Tryz.results74 Tryz.call74 (by rfl) (by simp) ?_;(focus (refine wkax w_t (w_5 pa pb oa ob c) w_t (w_1 cs0) w_t w_t (w_r 0) ?_;(repeat' first|exact w_t|apply w_l);all_goals intros));simp (disch:=omega) only [go_sem]
 ·have l1:(toL (zI s n*c+zI t m*d).natAbs).length≤j+k+1:=by
   have h3:=Zdv (Zd0 (zI s n*c) (zI t m*d));have h4:=Zm3 (zI s n*c).natAbs (zI t m*d).natAbs;omega
  have cr:=Zgd (decide (zI s n*c+zI t m*d < 0)) (zI s n*c+zI t m*d).natAbs (d*c) (by omega) (by omega) (Nat.mul_ne_zero hd0 hc0);rw [Zcf] at cr;have cs:=ratSum (zI s n*c) (zI t m*d) (by omega) (by omega);have cw1:=Zik c;have cw2:=Zik d;have cm:=nMul d c (by omega) (by omega);generalize zI s n*(c:Int)=y1 at *;generalize zI t m*(d:Int)=y2 at *;by_cases h2:d=1
  ·have h3:c≠1:=λh=>h1 ⟨h2,h⟩;rw [decide_eq_true h2] at oa;rw [decide_eq_false h3] at ob;refine Zaa (tok:=0) Tryz.func74 rfl Tryz.ntmps74 Tryz.results74 Tryz.call74 (by rfl) (by simp) ?_;(focus (refine wkax w_t (w_11 pa pb oa ob cw1 cm1 cw2 cm2 cs cm cr) (w_1 (w_d 5 [(2,intA false c),(3,intZ y1),(6,intA false d),(7,intZ y2),(8,.sl 2 [intZ y1,intZ y2]),(9,intZ (y1+y2)),(12,lim (toL (d*c))),(13,ratQ (mkRat (y1+y2) (d*c)))] [] [4])) w_t w_t w_t (w_r 0) ?_;(repeat' first|exact w_t|apply w_l);all_goals intros));simp (disch:=omega) only [go_sem]
  ·rw [decide_eq_false h2] at oa;refine Zaa (tok:=0) Tryz.func74 rfl Tryz.ntmps74 Tryz.results74 Tryz.call74 (by rfl) (by simp) ?_;(focus (refine wkax w_t (w_10 pa pb oa cw1 cm1 cw2 cm2 cs cm cr) (w_1 (w_d 5 [(2,intA false c),(3,intZ y1),(6,intA false d),(7,intZ y2),(8,.sl 2 [intZ y1,intZ y2]),(9,intZ (y1+y2)),(12,lim (toL (d*c))),(13,ratQ (mkRat (y1+y2) (d*c)))] [] [4])) w_t w_t w_t (w_r 0) ?_;(repeat' first|exact w_t|apply w_l);all_goals intros));simp (disch:=omega) only [go_sem]
theorem Zr0 (a b:Rat) {j k:Nat} (ha:Sz a j) (hb:Sz b k) (hj:j≤2000000) (hk:k≤2000000):Pure Tryz.prog 74 [ratQ a,ratQ b] (ratQ (a+b)):=by
 have:=ratAddA (decide (a.num < 0)) (decide (b.num < 0)) a.num.natAbs a.den b.num.natAbs b.den ha.1 ha.2 hb.1 hb.2 a.den_nz b.den_nz hj hk
 rwa [Zcf,Zcf,Rat.mkRat_self,Rat.mkRat_self] at this
theorem ratDiv (a b:Rat) {j k:Nat} (ha:Sz a j) (hb:Sz b k) (hj:j≤2000000) (hk:k≤2000000) (h0:b≠0):Pure Tryz.prog 71 [ratQ a,ratQ b] (.tup [ratQ (a/b),.v (.int .i64 0)]):=by
 obtain⟨a1,a2⟩:=id ha;obtain⟨b1,b2⟩:=id hb;have pa:=Zhb a ha (by omega);have pb:=Zhb b hb (by omega);have cm1:=iMulN a.num b.den (by omega) (by omega);have cm2:=iMulN b.num a.den (by omega) (by omega);have x1:(toL (a.num*b.den).natAbs).length≤j+k:=Zdl a b ha hb;have x2:(toL (b.num*a.den).natAbs).length≤k+j:=Zdl b a hb ha;have hb0:b.num≠0:=λe=>h0 (Rat.num_eq_zero.1 e);have hd0:(a.den:Int)≠0:=by have:=a.den_nz;omega
 have hw0:b.num*(a.den:Int)≠0:=Int.mul_ne_zero hb0 hd0;have cM:=ratMake (a.num*b.den) (b.num*a.den) (by omega) (by omega) hw0
 have e:Rat.divInt (a.num*b.den) (b.num*a.den)=a/b:=by
  rw [Rat.div_def,Rat.inv_def];have h1:a=Rat.divInt a.num a.den:=(Rat.num_divInt_den a).symm;rw [show a*Rat.divInt (b.den:Int) b.num=Rat.divInt a.num a.den*Rat.divInt (b.den:Int) b.num by rw [←h1],Rat.divInt_mul_divInt,Int.mul_comm b.num]
 rw [e] at cM;have cw1:=Zik b.den;have cw2:=Zik a.den;generalize a/b=q at *;generalize a.num*(b.den:Int)=y1 at *;generalize b.num*(a.den:Int)=y2 at *;refine Zaa (tok:=0) Tryz.func71 rfl Tryz.ntmps71 Tryz.results71 Tryz.call71 (by rfl) (by simp) ?_
 (repeat' (first|(with_reducible first|refine stp ?_|apply gx1|apply gx2|apply gx3|apply gx4|apply gx5|apply gx6|apply gx7|apply gy8|apply gz2|apply gz3|refine gw0 (pa) ?_ ?_|refine gw3 (pa) ?_ ?_ ?_|refine gw0 (pb) ?_ ?_|refine gw3 (pb) ?_ ?_ ?_|refine gw0 (cw1) ?_ ?_|refine gw3 (cw1) ?_ ?_ ?_|refine gw0 (cm1) ?_ ?_|refine gw3 (cm1) ?_ ?_ ?_|refine gw0 (cw2) ?_ ?_|refine gw3 (cw2) ?_ ?_ ?_|refine gw0 (cm2) ?_ ?_|refine gw3 (cm2) ?_ ?_ ?_|refine gw0 (cM) ?_ ?_|refine gw3 (cM) ?_ ?_ ?_)|(with_reducible refine Zbi ?_;intro _)|((with_reducible refine gE ?_);(try simp (disch:=omega) only [go_sem])<;>first|rfl|omega)|with_reducible refine Zaf (by decide) ?_|((with_reducible apply gy1);iterate 3 focus rfl)|((with_reducible apply gy2);iterate 3 focus rfl)|((with_reducible apply gy3);iterate 2 focus rfl)|((with_reducible apply gy4);iterate 1 focus rfl)|((with_reducible apply gy5);iterate 4 focus rfl)|((with_reducible apply gy5c);iterate 4 focus rfl)|((with_reducible apply gy6);iterate 4 focus rfl)|((with_reducible apply Zc0);iterate 3 focus rfl)|((with_reducible apply Zcx);iterate 1 focus rfl)|((with_reducible apply gy7);iterate 1 focus rfl)|((with_reducible apply gy9);(focus ((with_reducible refine gE ?_);(try simp (disch:=omega) only [go_sem])<;>rfl)))|((with_reducible apply gz1);(focus first|rfl|(simp (disch:=omega) only [go_sem];done)))|((with_reducible apply Za2 (Zce [(2,intA false b.den),(3,intZ y1),(6,intA false a.den),(7,intZ y2),(8,.tup [ratQ q,.v (.int .i64 0)])]) [] [4]);(focus kernel_rfl);(focus rfl);(focus kernel_rfl);(focus (simp only [List.length_cons,List.length_nil,Nat.reduceAdd];rfl)))))
 simp (disch:=omega) only [go_sem]
theorem Zgj {z:Int} (h:z < 0):intZ z=intA true z.natAbs:=by unfold intZ;rw [decide_eq_true h]
theorem Zff {z:Int} (h:¬z < 0):intZ z=intA false z.natAbs:=by unfold intZ;rw [decide_eq_false h]
theorem zOf' (s:Bool) (n:Nat) (hn:(toL n).length≤100000000):Pure Tryz.prog 151 [.v (.bool s),lim (toL n)] (intZ (zI s n)):=by
 rw [Zhz];have hp:=@Zbx n;cases s
 ·refine Zaa (tok:=0) Tryz.func151 rfl Tryz.ntmps151 Tryz.results151 Tryz.call151 (by rfl) (by simp) ?_;(focus (refine wkvp w_t (w_1 (rNorm n hn)) ?_;(repeat' first|exact w_t|apply w_l);all_goals intros));simp (disch:=omega) only [go_sem,Bool.false_and]
 ·by_cases h:0 < n
  ·have h2:=hp.2 h;refine Zaa (tok:=0) Tryz.func151 rfl Tryz.ntmps151 Tryz.results151 Tryz.call151 (by rfl) (by simp) ?_;(focus (refine wkvp w_t (w_1 (rNorm n hn)) ?_;(repeat' first|exact w_t|apply w_l);all_goals intros));simp (disch:=omega) only [go_sem,decide_eq_true h]
  ·have h2:¬0 < (toL n).length:=λh3=>h (hp.1 h3);refine Zaa (tok:=0) Tryz.func151 rfl Tryz.ntmps151 Tryz.results151 Tryz.call151 (by rfl) (by simp) ?_;(focus (refine wkvp w_t (w_1 (rNorm n hn)) ?_;(repeat' first|exact w_t|apply w_l);all_goals intros));simp (disch:=omega) only [go_sem,decide_eq_false h]
theorem zNorm (s:Bool) (n:Nat) (hn:(toL n).length≤100000000):Pure Tryz.prog 150 [intA s n] (intZ (zI s n)):=by
 refine Zaa (tok:=0) Tryz.func150 rfl Tryz.ntmps150 Tryz.results150 Tryz.call150 (by rfl) (by simp) ?_;(focus (refine wkvp w_t (w_1 (zOf' s n hn)) ?_;(repeat' first|exact w_t|apply w_l);all_goals intros));simp (disch:=omega) only [go_sem]
theorem Zrb (z:Int) (hz:(toL z.natAbs).length≤100000000):Pure Tryz.prog 150 [intZ z] (intZ z):=by
 have:=zNorm (decide (z < 0)) z.natAbs hz
 rwa [Zcf] at this
theorem zOf (n:Nat) (hn:n < 9223372036854775808):Pure Tryz.prog 99 [.v (.int .i64 (n:Int))] (intA false n):=by
 have l4:(toL n).length≤4:=Zah.2 (by omega);have hm:=zOf' false n (by omega);rw [Zhz,Bool.false_and] at hm;refine Zaa (tok:=0) Tryz.func99 rfl Tryz.ntmps99 Tryz.results99 Tryz.call99 (by rfl) (by simp) ?_;(focus (refine wkvp w_t (w_2 (Zid n (by omega)) hm) ?_;(repeat' first|exact w_t|apply w_l);all_goals intros));simp (disch:=omega) only [go_sem]
theorem zNeg (s:Bool) (n:Nat) (hn:(toL n).length≤100000000):Pure Tryz.prog 171 [intA s n] (intZ (-zI s n)):=by
 have e:-zI s n=zI (!s) n:=by cases s<;>simp [zI]
 rw [e];refine Zaa (tok:=0) Tryz.func171 rfl Tryz.ntmps171 Tryz.results171 Tryz.call171 (by rfl) (by simp) ?_;(focus (refine wkvp w_t (w_1 (zOf' (!s) n hn)) ?_;(repeat' first|exact w_t|apply w_l);all_goals intros));simp (disch:=omega) only [go_sem]
theorem zSign (z:Int) (hz:(toL z.natAbs).length≤100000000):Pure Tryz.prog 114 [intZ z] (.v (.int .i64 z.sign)):=by
 have cn:=Zrb z hz;have hp:=@Zbx z.natAbs;rcases Int.lt_trichotomy z 0 with h | h | h
 ·rw [Int.sign_eq_neg_one_of_neg h];have h2:=hp.2 (by omega);rw [Zgj h] at cn ⊢;refine Zaa (tok:=0) Tryz.func114 rfl Tryz.ntmps114 Tryz.results114 Tryz.call114 (by rfl) (by simp) ?_;(focus (refine wkvp w_t (w_1 cn) ?_;(repeat' first|exact w_t|apply w_l);all_goals intros));simp (disch:=omega) only [go_sem]
 ·have h2:¬0 < (toL z.natAbs).length:=λh3=>by have:=hp.1 h3;omega
  have hs:z.sign=0:=by rw [h];rfl
  rw [hs];rw [Zff (by omega)] at cn ⊢;refine Zaa (tok:=0) Tryz.func114 rfl Tryz.ntmps114 Tryz.results114 Tryz.call114 (by rfl) (by simp) ?_;(focus (refine wkvp w_t (w_1 cn) ?_;(repeat' first|exact w_t|apply w_l);all_goals intros));simp (disch:=omega) only [go_sem]
 ·rw [Int.sign_eq_one_of_pos h];have h2:=hp.2 (by omega);rw [Zff (by omega)] at cn ⊢;refine Zaa (tok:=0) Tryz.func114 rfl Tryz.ntmps114 Tryz.results114 Tryz.call114 (by rfl) (by simp) ?_;(focus (refine wkvp w_t (w_1 cn) ?_;(repeat' first|exact w_t|apply w_l);all_goals intros));simp (disch:=omega) only [go_sem]
theorem zCmp (z w:Int) (hz:(toL z.natAbs).length≤100000000) (hw:(toL w.natAbs).length≤100000000):Pure Tryz.prog 135 [intZ z,intZ w] (.v (.int .i64 (cmpZ z w))):=by
 have c1:=Zrb z hz;have c2:=Zrb w hw;have ca:=rCmp z.natAbs w.natAbs hz hw;have cb:=rCmp w.natAbs z.natAbs hw hz;by_cases h1:z < 0
 ·by_cases h2:w < 0
  ·have hc:cmpZ z w=cmpN w.natAbs z.natAbs:=by
    unfold cmpZ cmpN;have e1:(z < w)↔(w.natAbs < z.natAbs):=by omega
    have e2:(w < z)↔(z.natAbs < w.natAbs):=by omega
    simp only [e1,e2]
   rw [hc];rw [Zgj h1] at c1 ⊢;rw [Zgj h2] at c2 ⊢;refine Zaa (tok:=0) Tryz.func135 rfl Tryz.ntmps135 Tryz.results135 Tryz.call135 (by rfl) (by simp) ?_;(focus (refine wkvd w_t (w_3 c1 c2 cb) (w_1 (w_d 1 [(1,.agg [.v (.bool true),lim (toL z.natAbs)]),(3,.agg [.v (.bool true),lim (toL w.natAbs)])] [4,5] [])) ?_;(repeat' first|exact w_t|apply w_l);all_goals intros));simp (disch:=omega) only [go_sem]
  ·have hc:cmpZ z w=-1:=if_pos (by omega);rw [hc];rw [Zgj h1] at c1 ⊢;rw [Zff h2] at c2 ⊢;refine Zaa (tok:=0) Tryz.func135 rfl Tryz.ntmps135 Tryz.results135 Tryz.call135 (by rfl) (by simp) ?_;(focus (refine wkvd w_t (w_2 c1 c2) (w_1 (w_d 1 [(1,.agg [.v (.bool true),lim (toL z.natAbs)]),(3,.agg [.v (.bool false),lim (toL w.natAbs)])] [4,5] [])) ?_;(repeat' first|exact w_t|apply w_l);all_goals intros));simp (disch:=omega) only [go_sem]
 ·by_cases h2:w < 0
  ·have hc:cmpZ z w=1:=by unfold cmpZ;rw [if_neg (by omega),if_pos (by omega)]
   rw [hc];rw [Zff h1] at c1 ⊢;rw [Zgj h2] at c2 ⊢;refine Zaa (tok:=0) Tryz.func135 rfl Tryz.ntmps135 Tryz.results135 Tryz.call135 (by rfl) (by simp) ?_;(focus (refine wkvd w_t (w_2 c1 c2) (w_1 (w_d 1 [(1,.agg [.v (.bool false),lim (toL z.natAbs)]),(3,.agg [.v (.bool true),lim (toL w.natAbs)])] [4,5] [])) ?_;(repeat' first|exact w_t|apply w_l);all_goals intros));simp (disch:=omega) only [go_sem]
  ·have hc:cmpZ z w=cmpN z.natAbs w.natAbs:=by
    unfold cmpZ cmpN;have e1:(z < w)↔(z.natAbs < w.natAbs):=by omega
    have e2:(w < z)↔(w.natAbs < z.natAbs):=by omega
    simp only [e1,e2]
   rw [hc];rw [Zff h1] at c1 ⊢;rw [Zff h2] at c2 ⊢;refine Zaa (tok:=0) Tryz.func135 rfl Tryz.ntmps135 Tryz.results135 Tryz.call135 (by rfl) (by simp) ?_;(focus (refine wkvd w_t (w_3 c1 c2 ca) (w_1 (w_d 1 [(1,.agg [.v (.bool false),lim (toL z.natAbs)]),(3,.agg [.v (.bool false),lim (toL w.natAbs)])] [4,5] [])) ?_;(repeat' first|exact w_t|apply w_l);all_goals intros));simp (disch:=omega) only [go_sem]
theorem zMul (s t:Bool) (n m:Nat) (hn:(toL n).length≤40000000) (hm:(toL m).length≤40000000):Pure Tryz.prog 111 [intA s n,intA t m] (intZ (zI s n*zI t m)):=by
 have e:zI s n*zI t m=zI (s != t) (n*m):=by cases s<;>cases t<;>simp [zI,Int.mul_neg,Int.neg_mul]
 have lm:=Zez n m;have hne:(!(s == t))=(s != t):=rfl;rw [e];refine Zaa (tok:=0) Tryz.func111 rfl Tryz.ntmps111 Tryz.results111 Tryz.call111 (by rfl) (by simp) ?_;(focus (refine wkvd (w_1 hne) (w_2 (rMul n m (by omega) (by omega)) (zOf' (s != t) (n*m) (by omega))) (w_1 (w_d 1 [(9,lim (toL (n*m))),(10,intZ (zI (s != t) (n*m)))] [11] [])) ?_;(repeat' first|exact w_t|apply w_l);all_goals intros));simp (disch:=omega) only [go_sem]
theorem zAdd (s t:Bool) (n m:Nat) (hn:(toL n).length≤40000000) (hm:(toL m).length≤40000000):Pure Tryz.prog 110 [intA s n,intA t m] (intZ (zI s n+zI t m)):=by
 by_cases hst:s=t
 ·subst hst;have e:zI s n+zI s m=zI s (n+m):=by cases s<;>simp [zI]<;>omega
  have la:=Zm3 n m;rw [e];have hb:(s == s)=true:=by cases s<;>rfl
  refine Zaa (tok:=0) Tryz.func110 rfl Tryz.ntmps110 Tryz.results110 Tryz.call110 (by rfl) (by simp) ?_;(focus (refine wkvd (w_1 hb) (w_2 (rAdd n m (by omega) (by omega)) (zOf' s (n+m) (by omega))) (w_1 (w_d 2 [(6,lim (toL (n+m))),(7,intZ (zI s (n+m)))] [8] [])) ?_;(repeat' first|exact w_t|apply w_l);all_goals intros));simp (disch:=omega) only [go_sem]
 ·have hb:(s == t)=false:=by cases s<;>cases t<;>first|rfl|exact absurd rfl hst
  have ht:t=!s:=by cases s<;>cases t<;>first|rfl|exact absurd rfl hst
  have c1:=rSub n m (by omega) (by omega);have c2:=rSub m n (by omega) (by omega);by_cases hlt:n < m
  ·have e:zI s n+zI t m=zI t (m - n):=by rw [ht];cases s<;>simp [zI]<;>omega
   have ls:(toL (m - n)).length≤100000000:=Nat.le_trans (Zdv (Nat.sub_le _ _)) (by omega);rw [if_pos hlt,if_pos hlt] at c1;rw [if_neg (by omega),if_neg (by omega)] at c2;rw [e];refine Zaa (tok:=0) Tryz.func110 rfl Tryz.ntmps110 Tryz.results110 Tryz.call110 (by rfl) (by simp) ?_;(focus (refine wkvd (w_1 hb) (w_3 c1 c2 (zOf' t (m - n) ls)) w_t ?_;(repeat' first|exact w_t|apply w_l);all_goals intros));simp (disch:=omega) only [go_sem]
  ·have e:zI s n+zI t m=zI s (n - m):=by rw [ht];cases s<;>simp [zI]<;>omega
   have ls:(toL (n - m)).length≤100000000:=Nat.le_trans (Zdv (Nat.sub_le _ _)) (by omega);rw [if_neg hlt,if_neg hlt] at c1;rw [e];refine Zaa (tok:=0) Tryz.func110 rfl Tryz.ntmps110 Tryz.results110 Tryz.call110 (by rfl) (by simp) ?_;(focus (refine wkvd (w_1 hb) (w_2 c1 (zOf' s (n - m) ls)) w_t ?_;(repeat' first|exact w_t|apply w_l);all_goals intros));simp (disch:=omega) only [go_sem]
theorem gcd_le_l (n m:Nat) (h:m≠0):Nat.gcd n m≠0:=Nat.ne_of_gt (Nat.gcd_pos_of_pos_right _ (Nat.pos_of_ne_zero h))
theorem intZ_div (s:Bool) (n g:Nat) (hg:g ∣ n) (h0:g≠0):intZ (zI s (n/g))=.agg [.v (.bool (decide (zI s n < 0))),lim (toL (n/g))]:=by
 rw [Zhz,zI_lt]
 have:(0 < n/g)↔(0 < n):=by
  obtain⟨k,rfl⟩:=hg;rw [Nat.mul_div_cancel_left _ (Nat.pos_of_ne_zero h0)];constructor
  ·intro h;exact Nat.mul_pos (Nat.pos_of_ne_zero h0) h
  ·intro h;exact Nat.pos_of_ne_zero λe=>by rw [e] at h;simp at h
 simp only [this]
theorem Zn3 (s:Bool) (n m:Nat) (hn:(toL n).length≤10000000) (hm:(toL m).length≤10000000) (h0:m≠0):Pure Tryz.prog 98 [intA s n,lim (toL m)] (ratQ (mkRat (zI s n) m)):=by
 rw [Zn1 _ _ h0,Zdm];have g0:=gcd_le_l n m h0;have hgd:=Nat.gcd_dvd_left n m;have hmp:=Zbx.2 (Nat.pos_of_ne_zero h0);have hg:(toL (Nat.gcd n m)).length≤10000000:=Nat.le_trans (Zdv (Nat.le_of_dvd (by omega) (Nat.gcd_dvd_right _ _))) hm;have hq:(toL (n/Nat.gcd n m)).length≤10000000:=Nat.le_trans (Zdv (Nat.div_le_self _ _)) hn;have cg:=rGcd n m (by omega) (by omega);have c1:=Zr3 n (Nat.gcd n m) (by omega) (by omega) g0;have c2:=Zr3 m (Nat.gcd n m) (by omega) (by omega) g0;have cn:=zNorm s (n/Nat.gcd n m) (by omega);rw [intZ_div s n _ hgd g0] at cn;refine Zaa (tok:=0) Tryz.func98 rfl Tryz.ntmps98 Tryz.results98 Tryz.call98 (by rfl) (by simp) ?_
 (focus (refine wkvp w_t (w_5 (rNorm m (by omega)) cg c1 c2 cn) ?_;(repeat' first|exact w_t|apply w_l);all_goals intros));simp (disch:=omega) only [go_sem]
theorem Zmg (q:Rat) {k:Nat} (h:Sz q k) (hk:k≤10000000):Pure Tryz.prog 97 [ratQ q] (ratQ q):=by
 have c:=Zn3 (decide (q.num < 0)) q.num.natAbs q.den (Nat.le_trans h.1 hk) (Nat.le_trans h.2 hk) q.den_nz;rw [Zcf,Rat.mkRat_self] at c;refine Zaa (tok:=0) Tryz.func97 rfl Tryz.ntmps97 Tryz.results97 Tryz.call97 (by rfl) (by simp) ?_;(focus (refine wkvp w_t (w_1 c) ?_;(repeat' first|exact w_t|apply w_l);all_goals intros));simp (disch:=omega) only [go_sem]
theorem Zkc (n:Nat):Pure Tryz.prog 112 [lim (toL n)] (intA false n):=by
 refine Zaa (tok:=0) Tryz.func112 rfl Tryz.ntmps112 Tryz.results112 Tryz.call112 (by rfl) (by simp) ?_;(focus (refine wkvp w_t w_t ?_;(repeat' first|exact w_t|apply w_l);all_goals intros));simp (disch:=omega) only [go_sem]
theorem qMake (z w:Int) (hz:(toL z.natAbs).length≤10000000) (hw:(toL w.natAbs).length≤10000000) (h0:w≠0):Pure Tryz.prog 132 [intZ z,intZ w] (.tup [ratQ (Rat.divInt z w),.v (.int .i64 0)]):=by
 have cs:=zSign w (by omega);have hs:w.sign≠0:=λh=>h0 (Int.sign_eq_zero_iff_zero.1 h);rcases (by omega:w < 0∨0 < w) with h | h
 ·have e:Rat.divInt z w=mkRat (-z) w.natAbs:=by
   have hw1:w=-((w.natAbs:Nat):Int):=by omega
   rw [show Rat.divInt z w=Rat.divInt z (-((w.natAbs:Nat):Int)) by rw [←hw1],Rat.divInt_neg',Rat.divInt_ofNat]
  have cn:=zNeg (decide (z < 0)) z.natAbs (by omega);have c:=Zn3 (decide (-z < 0)) (-z).natAbs w.natAbs (by rw [Int.natAbs_neg];omega) hw (by omega);rw [Zcf] at c cn;rw [←e] at c;generalize -z=y at *;generalize Rat.divInt z w=q at *;rw [Zgj h] at cs ⊢;refine Zaa (tok:=0) Tryz.func132 rfl Tryz.ntmps132 Tryz.results132 Tryz.call132 (by rfl) (by simp) ?_;(focus (refine wkvp w_t (w_3 cs cn c) ?_;(repeat' first|exact w_t|apply w_l);all_goals intros));simp (disch:=omega) only [go_sem]
 ·have e:Rat.divInt z w=mkRat z w.natAbs:=by
   have hw1:w=((w.natAbs:Nat):Int):=by omega
   rw [show Rat.divInt z w=Rat.divInt z ((w.natAbs:Nat):Int) by rw [←hw1],Rat.divInt_ofNat]
  have c:=Zn3 (decide (z < 0)) z.natAbs w.natAbs hz hw (by omega);rw [Zcf,←e] at c;generalize Rat.divInt z w=q at *;rw [Zff (by omega:¬w < 0)] at cs ⊢;refine Zaa (tok:=0) Tryz.func132 rfl Tryz.ntmps132 Tryz.results132 Tryz.call132 (by rfl) (by simp) ?_;(focus (refine wkvp w_t (w_2 cs c) ?_;(repeat' first|exact w_t|apply w_l);all_goals intros));simp (disch:=omega) only [go_sem]
theorem qOf (n:Nat) (hn:n < 9223372036854775808):Pure Tryz.prog 56 [.v (.int .i64 (n:Int))] (ratQ (n:Rat)):=by
 have l4:(toL n).length≤4:=Zah.2 (by omega);have c:=Zn3 false n 1 (by omega) (by rw [Zfl];omega) (by omega)
 have e:mkRat (zI false n) 1=(n:Rat):=by
  have:=Rat.mkRat_self (n:Rat);exact this
 rw [e] at c;refine Zaa (tok:=0) Tryz.func56 rfl Tryz.ntmps56 Tryz.results56 Tryz.call56 (by rfl) (by simp) ?_;(focus (refine wkvp w_t (w_3 (zOf n hn) (Zid 1 (by omega)) c) ?_;(repeat' first|exact w_t|apply w_l);all_goals intros));simp (disch:=omega) only [go_sem]
theorem qMul (a b:Rat) {j k:Nat} (ha:Sz a j) (hb:Sz b k) (hj:j≤2000000) (hk:k≤2000000):Pure Tryz.prog 115 [ratQ a,ratQ b] (ratQ (a*b)):=by
 obtain⟨a1,a2⟩:=id ha;obtain⟨b1,b2⟩:=id hb;have l1:(toL (a.num*b.num).natAbs).length≤j+k:=by rw [Int.natAbs_mul];exact Nat.le_trans (Zez _ _) (by omega)
 have l2:(toL (a.den*b.den)).length≤j+k:=Nat.le_trans (Zez _ _) (by omega);have c:=Zn3 (decide (a.num*b.num < 0)) (a.num*b.num).natAbs (a.den*b.den) (by omega) (by omega) (Nat.mul_ne_zero a.den_nz b.den_nz);rw [Zcf,←Rat.mul_def'] at c;have cz:=zMul (decide (a.num < 0)) (decide (b.num < 0)) a.num.natAbs b.num.natAbs (by omega) (by omega);rw [Zcf,Zcf] at cz;have cd:=rMul a.den b.den (by omega) (by omega);generalize a*b=q at *;generalize a.num*b.num=y at *;refine Zaa (tok:=0) Tryz.func115 rfl Tryz.ntmps115 Tryz.results115 Tryz.call115 (by rfl) (by simp) ?_;(focus (refine wkvd w_t (w_3 cz cd c) (w_1 (w_d 1 [(4,intZ y),(9,lim (toL (a.den*b.den))),(10,ratQ q)] [11] [])) ?_;(repeat' first|exact w_t|apply w_l);all_goals intros))
 simp (disch:=omega) only [go_sem]
theorem qAdd (a b:Rat) {j k:Nat} (ha:Sz a j) (hb:Sz b k) (hj:j≤2000000) (hk:k≤2000000):Pure Tryz.prog 63 [ratQ a,ratQ b] (ratQ (a+b)):=by
 obtain⟨a1,a2⟩:=id ha;obtain⟨b1,b2⟩:=id hb;have na:=Zmg a ha (by omega);have nb:=Zmg b hb (by omega);have cm1:=zMul (decide (a.num < 0)) false a.num.natAbs b.den (by omega) (by omega);have cm2:=zMul (decide (b.num < 0)) false b.num.natAbs a.den (by omega) (by omega);rw [Zcf] at cm1 cm2;have cm1:Pure Tryz.prog 111 [intZ a.num,intA false b.den] (intZ (a.num*b.den)):=cm1;have cm2:Pure Tryz.prog 111 [intZ b.num,intA false a.den] (intZ (b.num*a.den)):=cm2;have x1:(toL (a.num*b.den).natAbs).length≤j+k:=Zdl a b ha hb;have x2:(toL (b.num*a.den).natAbs).length≤k+j:=Zdl b a hb ha
 have l1:(toL (a.num*b.den+b.num*a.den).natAbs).length≤j+k+1:=by
  have h3:=Zdv (Zd0 (a.num*b.den) (b.num*a.den));have h4:=Zm3 (a.num*b.den).natAbs (b.num*a.den).natAbs;omega
 have l2:(toL (a.den*b.den)).length≤j+k:=Nat.le_trans (Zez _ _) (by omega);have ca:=zAdd (decide (a.num*b.den < 0)) (decide (b.num*a.den < 0)) (a.num*b.den).natAbs (b.num*a.den).natAbs (by omega) (by omega);rw [Zcf,Zcf] at ca;have c:=Zn3 (decide (a.num*b.den+b.num*a.den < 0)) (a.num*b.den+b.num*a.den).natAbs (a.den*b.den) (by omega) (by omega) (Nat.mul_ne_zero a.den_nz b.den_nz);rw [Zcf,←Rat.add_def'] at c;have cw1:=Zkc b.den;have cw2:=Zkc a.den;have cd:=rMul a.den b.den (by omega) (by omega);generalize a+b=q at *;generalize a.num*(b.den:Int)=y1 at *;generalize b.num*(a.den:Int)=y2 at *
 refine Zaa (tok:=0) Tryz.func63 rfl Tryz.ntmps63 Tryz.results63 Tryz.call63 (by rfl) (by simp) ?_;(focus (refine wkvp w_t w_t ?_;(repeat' first|exact w_t|apply w_l);all_goals intros));apply Za2 (Zce [(1,ratQ a),(3,ratQ b)]) [4,5] [] (by kernel_rfl) (by rfl) (by kernel_rfl);(focus (simp only [List.length_cons,List.length_nil,Nat.reduceAdd];rfl));(focus (refine wkud w_t (w_2 na nb) ?_;(repeat' first|exact w_t|apply w_l);all_goals intros));apply Za2 (Zce [(4,intA false b.den),(5,intZ y1),(10,intA false a.den),(11,intZ y2),(12,intZ (y1+y2)),(17,lim (toL (a.den*b.den))),(18,ratQ q)]) [19] [] (by kernel_rfl) (by rfl) (by kernel_rfl);(focus (simp only [List.length_cons,List.length_nil,Nat.reduceAdd];rfl))
 (focus (refine wkud w_t (w_7 cw1 cm1 cw2 cm2 ca cd c) ?_;(repeat' first|exact w_t|apply w_l);all_goals intros));simp (disch:=omega) only [go_sem]
theorem qCmp (a b:Rat) {j k:Nat} (ha:Sz a j) (hb:Sz b k) (hj:j≤2000000) (hk:k≤2000000):Pure Tryz.prog 80 [ratQ a,ratQ b] (.v (.int .i64 (cmpQ a b))):=by
 obtain⟨a1,a2⟩:=id ha;obtain⟨b1,b2⟩:=id hb;have na:=Zmg a ha (by omega);have nb:=Zmg b hb (by omega);have cm1:=zMul (decide (a.num < 0)) false a.num.natAbs b.den (by omega) (by omega);have cm2:=zMul (decide (b.num < 0)) false b.num.natAbs a.den (by omega) (by omega);rw [Zcf] at cm1 cm2;have cm1:Pure Tryz.prog 111 [intZ a.num,intA false b.den] (intZ (a.num*b.den)):=cm1;have cm2:Pure Tryz.prog 111 [intZ b.num,intA false a.den] (intZ (b.num*a.den)):=cm2;have x1:(toL (a.num*b.den).natAbs).length≤j+k:=Zdl a b ha hb;have x2:(toL (b.num*a.den).natAbs).length≤k+j:=Zdl b a hb ha;have cc:=zCmp (a.num*b.den) (b.num*a.den) (by omega) (by omega)
 rw [cmpQ_z];have cw1:=Zkc b.den;have cw2:=Zkc a.den;generalize a.num*(b.den:Int)=y1 at *;generalize b.num*(a.den:Int)=y2 at *;refine Zaa (tok:=0) Tryz.func80 rfl Tryz.ntmps80 Tryz.results80 Tryz.call80 (by rfl) (by simp) ?_;(focus (refine wkvp w_t w_t ?_;(repeat' first|exact w_t|apply w_l);all_goals intros));apply Za2 (Zce [(1,ratQ a),(3,ratQ b)]) [4,5] [] (by kernel_rfl) (by rfl) (by kernel_rfl);(focus (simp only [List.length_cons,List.length_nil,Nat.reduceAdd];rfl));(focus (refine wkud w_t (w_2 na nb) ?_;(repeat' first|exact w_t|apply w_l);all_goals intros));apply Za2 (Zce [(4,intA false b.den),(5,intZ y1),(10,intA false a.den),(11,intZ y2),(12,.v (.int .i64 (cmpZ y1 y2)))]) [] [] (by kernel_rfl) (by rfl) (by kernel_rfl);(focus (simp only [List.length_cons,List.length_nil,Nat.reduceAdd];rfl))
 (focus (refine wkud w_t (w_5 cw1 cm1 cw2 cm2 cc) ?_;(repeat' first|exact w_t|apply w_l);all_goals intros));simp (disch:=omega) only [go_sem]
theorem qDiv (a b:Rat) {j k:Nat} (ha:Sz a j) (hb:Sz b k) (hj:j≤2000000) (hk:k≤2000000) (h0:b≠0):Pure Tryz.prog 78 [ratQ a,ratQ b] (.tup [ratQ (a/b),.v (.int .i64 0)]):=by
 obtain⟨a1,a2⟩:=id ha;obtain⟨b1,b2⟩:=id hb;have na:=Zmg a ha (by omega);have nb:=Zmg b hb (by omega);have cm1:=zMul (decide (a.num < 0)) false a.num.natAbs b.den (by omega) (by omega);have cm2:=zMul (decide (b.num < 0)) false b.num.natAbs a.den (by omega) (by omega);rw [Zcf] at cm1 cm2;have cm1:Pure Tryz.prog 111 [intZ a.num,intA false b.den] (intZ (a.num*b.den)):=cm1;have cm2:Pure Tryz.prog 111 [intZ b.num,intA false a.den] (intZ (b.num*a.den)):=cm2;have x1:(toL (a.num*b.den).natAbs).length≤j+k:=Zdl a b ha hb;have x2:(toL (b.num*a.den).natAbs).length≤k+j:=Zdl b a hb ha;have hb0:b.num≠0:=λe=>h0 (Rat.num_eq_zero.1 e)
 have hd0:(a.den:Int)≠0:=by have:=a.den_nz;omega
 have hw0:b.num*(a.den:Int)≠0:=Int.mul_ne_zero hb0 hd0;have cM:=qMake (a.num*b.den) (b.num*a.den) (by omega) (by omega) hw0
 have e:Rat.divInt (a.num*b.den) (b.num*a.den)=a/b:=by
  rw [Rat.div_def,Rat.inv_def];have h1:a=Rat.divInt a.num a.den:=(Rat.num_divInt_den a).symm;rw [show a*Rat.divInt (b.den:Int) b.num=Rat.divInt a.num a.den*Rat.divInt (b.den:Int) b.num by rw [←h1],Rat.divInt_mul_divInt,Int.mul_comm b.num]
 rw [e] at cM;have cw1:=Zkc b.den;have cw2:=Zkc a.den;generalize a/b=q at *;generalize a.num*(b.den:Int)=y1 at *;generalize b.num*(a.den:Int)=y2 at *;refine Zaa (tok:=0) Tryz.func78 rfl Tryz.ntmps78 Tryz.results78 Tryz.call78 (by rfl) (by simp) ?_;(focus (refine wkvp w_t w_t ?_;(repeat' first|exact w_t|apply w_l);all_goals intros));apply Za2 (Zce [(1,ratQ a),(3,ratQ b)]) [4,5] [] (by kernel_rfl) (by rfl) (by kernel_rfl);(focus (simp only [List.length_cons,List.length_nil,Nat.reduceAdd];rfl));(focus (refine wkud w_t (w_2 na nb) ?_;(repeat' first|exact w_t|apply w_l);all_goals intros))
 apply Za2 (Zce [(4,intA false b.den),(5,intZ y1),(10,intA false a.den),(11,intZ y2),(12,.tup [ratQ q,.v (.int .i64 0)])]) [15] [] (by kernel_rfl) (by rfl) (by kernel_rfl);(focus (simp only [List.length_cons,List.length_nil,Nat.reduceAdd];rfl));(focus (refine wkud w_t (w_5 cw1 cm1 cw2 cm2 cM) ?_;(repeat' first|exact w_t|apply w_l);all_goals intros));simp (disch:=omega) only [go_sem]
structure RQ where
 s:Bool
 l:List Nat
 d:List Nat
def RQ.lm (r:RQ) (k:Nat):Prop:=Lm r.l∧Lm r.d∧r.l.length≤k∧r.d.length≤k
abbrev RQ.av (r:RQ):AV:=.agg [.v (.bool r.s),lim r.l,lim r.d]
def RQ.zok (s:Bool) (l:List Nat):Bool:=valL l && !(s && decide (l.length=0))
def RQ.ok (r:RQ):Bool:=RQ.zok r.s r.l && valL r.d && (Nat.gcd (nv r.l) (nv r.d) == 1) && decide (0 < r.d.length)
def RQ.q (r:RQ):Rat:=mkRat (zI r.s (nv r.l)) (nv r.d)
theorem RQ.ok_av {r:RQ} {k:Nat} (hl:r.lm k) (h:r.ok=true):r.av=ratQ r.q∧Sz r.q k:=by
 obtain⟨s,l,d⟩:=r;obtain⟨h1,h2,h3,h4⟩:=hl;simp only [RQ.ok,RQ.zok,Bool.and_eq_true,decide_eq_true_eq,Bool.not_eq_true',beq_iff_eq] at h;obtain⟨⟨⟨⟨v1,v2⟩,v3⟩,v4⟩,v5⟩:=h;have e1:=(Zoz h1).1 v1;have e2:=(Zoz h2).1 v3;simp only [RQ.av,RQ.q] at *;generalize nv l=n at *;generalize nv d=m at *;subst e1;subst e2;have hm:m≠0:=by have:=Zbx.1 v5;omega
 have hs:decide (zI s n < 0)=s:=by
  rw [zI_lt];cases s
  ·rfl
  ·have:(toL n).length≠0:=by simpa using v2
   rw [decide_eq_true (Zbx.1 (by omega))];rfl
 refine⟨?_,Sz.mk (by rw [Zdm];exact h3) h4 (by omega)⟩;rw [Zn1 _ _ hm,Zdm,v4,Nat.div_one,Nat.div_one,hs]
theorem Znm {a b:Nat}:toL a=toL b↔a=b:=⟨λh=>by rw [←Zas a,h,Zas],λh=>by rw [h]⟩
theorem zRight (s:Bool) (l:List Nat) (hs:l.length≤100000000) (hl:Lm l):Pure Tryz.prog 136 [.agg [.v (.bool s),lim l]] (.v (.bool (RQ.zok s l))):=by
 have cv:=Zpg l (by omega) hl;unfold RQ.zok;generalize valL l=v at *;cases v
 ·refine Zaa (tok:=0) Tryz.func136 rfl Tryz.ntmps136 Tryz.results136 Tryz.call136 (by rfl) (by simp) ?_;(focus (refine wkvp (w_1 @Bool.false_and) (w_1 cv) ?_;(repeat' first|exact w_t|apply w_l);all_goals intros));simp (disch:=omega) only [go_sem,Bool.false_and]
 ·cases s
  ·refine Zaa (tok:=0) Tryz.func136 rfl Tryz.ntmps136 Tryz.results136 Tryz.call136 (by rfl) (by simp) ?_;(focus (refine wkvp (w_1 @Bool.false_and) (w_1 cv) ?_;(repeat' first|exact w_t|apply w_l);all_goals intros));simp (disch:=omega) only [go_sem,Bool.false_and]
  ·by_cases h0:l.length=0
   ·refine Zaa (tok:=0) Tryz.func136 rfl Tryz.ntmps136 Tryz.results136 Tryz.call136 (by rfl) (by simp) ?_;(focus (refine wkvp (w_2 h0 @Int.natCast_zero) (w_1 cv) ?_;(repeat' first|exact w_t|apply w_l);all_goals intros));simp (disch:=omega) only [go_sem,h0]
   ·refine Zaa (tok:=0) Tryz.func136 rfl Tryz.ntmps136 Tryz.results136 Tryz.call136 (by rfl) (by simp) ?_;(focus (refine wkvp w_t (w_1 cv) ?_;(repeat' first|exact w_t|apply w_l);all_goals intros));simp (disch:=omega) only [go_sem,h0,decide_eq_false h0]
theorem qRight (s:Bool) (l d:List Nat) (h1:Lm l) (h2:Lm d) (h3:l.length≤100000000) (h4:d.length≤100000000):Pure Tryz.prog 81 [.agg [.v (.bool s),lim l,lim d]] (.v (.bool (RQ.ok ⟨s,l,d⟩))):=by
 have cz:=zRight s l h3 h1;have cv:=Zpg d (by omega) h2;have cg:=refGcd l d (by omega) (by omega) h1 h2
 have hgl:(toL (Nat.gcd (nv l) (nv d))).length≤100000000:=by
  have l1:=Zax h1;have l2:=Zax h2;by_cases hd:nv d=0
  ·rw [hd,Nat.gcd_zero_right];omega
  ·exact Nat.le_trans (Zdv (Nat.gcd_le_right _ (by omega))) (by omega)
 have cs:=refSameN (toL (Nat.gcd (nv l) (nv d))) (toL 1) (by omega) (by rw [Zfl];omega) (Zav _) (Zav _);rw [show decide (toL (Nat.gcd (nv l) (nv d))=toL 1)=(Nat.gcd (nv l) (nv d) == 1) from by rw [Bool.eq_iff_iff,decide_eq_true_eq,beq_iff_eq];exact Znm] at cs;unfold RQ.ok;generalize RQ.zok s l=v at *;simp only;generalize Nat.gcd (nv l) (nv d)=g at *;cases v
 ·refine Zaa (tok:=0) Tryz.func81 rfl Tryz.ntmps81 Tryz.results81 Tryz.call81 (by rfl) (by simp) ?_;(focus (refine wkvp (w_1 @Bool.false_and) (w_1 cz) ?_;(repeat' first|exact w_t|apply w_l);all_goals intros));simp (disch:=omega) only [go_sem,Bool.false_and]
 ·generalize valL d=v at *;cases v
  ·refine Zaa (tok:=0) Tryz.func81 rfl Tryz.ntmps81 Tryz.results81 Tryz.call81 (by rfl) (by simp) ?_;(focus (refine wkvp (w_1 @Bool.false_and) (w_2 cz cv) ?_;(repeat' first|exact w_t|apply w_l);all_goals intros));simp (disch:=omega) only [go_sem,Bool.false_and]
  ·by_cases hg:g=1
   ·have hgb:(g == 1)=true:=by rw [beq_iff_eq];exact hg
    rw [hgb] at cs ⊢;by_cases hd:0 < d.length
    ·rw [decide_eq_true hd];refine Zaa (tok:=0) Tryz.func81 rfl Tryz.ntmps81 Tryz.results81 Tryz.call81 (by rfl) (by simp) ?_;(focus (refine wkvp w_t (w_5 cz cv cg (Zid 1 (by omega)) cs) ?_;(repeat' first|exact w_t|apply w_l);all_goals intros));simp (disch:=omega) only [go_sem]
    ·rw [decide_eq_false hd];refine Zaa (tok:=0) Tryz.func81 rfl Tryz.ntmps81 Tryz.results81 Tryz.call81 (by rfl) (by simp) ?_;(focus (refine wkvp w_t (w_5 cz cv cg (Zid 1 (by omega)) cs) ?_;(repeat' first|exact w_t|apply w_l);all_goals intros));simp (disch:=omega) only [go_sem,Bool.and_false]
   ·have hgb:(g == 1)=false:=by rw [beq_eq_false_iff_ne];exact hg
    rw [hgb] at cs ⊢;refine Zaa (tok:=0) Tryz.func81 rfl Tryz.ntmps81 Tryz.results81 Tryz.call81 (by rfl) (by simp) ?_;(focus (refine wkvp (w_2 @Bool.and_false @Bool.false_and) (w_5 cz cv cg (Zid 1 (by omega)) cs) ?_;(repeat' first|exact w_t|apply w_l);all_goals intros));simp (disch:=omega) only [go_sem,Bool.and_false,Bool.false_and]
section
variable {N n:Nat} {cs:List AV}
theorem agN16:Zfs Tryz.prog 104=false:=by kernel_rfl
theorem cs16:Tryz.prog.cellsOf 104=1:=by kernel_rfl
theorem shNat (h:Zc2 Tryz.prog N n 40 cs):∃l:List Nat,cs=[lim l]∧Lm l∧l.length≤N:=by
 obtain⟨bs,rfl,hl,hq⟩:=Zfa (g:=λk:Nat=>[AV.v (.int .u16 (k:Int))]) (Q:=λk=>k < 65536) Tryz.underlying40 h λm x hx=>by
  obtain⟨i,rfl,hw⟩:=Ziy Tryz.underlying104 hx;have:=wf_u16 hw;exact⟨i.toNat,by rw [Int.toNat_of_nonneg this.1],by omega⟩
 refine⟨bs,?_,hq,hl⟩;rw [cs16];have:(bs.map λb:Nat=>Zdf Tryz.prog 104 [AV.v (.int .u16 (b:Int))])=u16s bs:=List.map_congr_left λb _=>Zft agN16 _;rw [this]
theorem shInt (h:Zc2 Tryz.prog N n 42 cs):∃(s:Bool) (l:List Nat),cs=[.v (.bool s),lim l]∧Lm l∧l.length≤N:=by
 obtain⟨m,rfl,hs⟩:=Zfx Tryz.underlying42 (by kernel_rfl) h;obtain⟨x,y,rfl,h1,hs⟩:=hs.inv;obtain⟨z,y,rfl,h2,hs⟩:=hs.inv;obtain rfl:=hs.inv0;obtain⟨s,rfl⟩:=Zqj Tryz.underlying4 h1;obtain⟨l,rfl,h3,h4⟩:=shNat h2;exact⟨s,l,rfl,h3,h4⟩
theorem shRat (h:Zc2 Tryz.prog N n 44 cs):∃r:RQ,cs=[.v (.bool r.s),lim r.l,lim r.d]∧r.lm N:=by
 obtain⟨m,rfl,hs⟩:=Zfx Tryz.underlying44 (by kernel_rfl) h;obtain⟨x,y,rfl,h1,hs⟩:=hs.inv;obtain⟨z,y,rfl,h2,hs⟩:=hs.inv;obtain rfl:=hs.inv0;obtain⟨s,l,rfl,h3,h4⟩:=shInt h1;obtain⟨d,rfl,h5,h6⟩:=shNat h2;exact⟨⟨s,l,d⟩,rfl,h3,h5,h4,h6⟩
structure RP where
 x:RQ
 y:RQ
abbrev RP.av (p:RP):AV:=.agg [.v (.bool p.x.s),lim p.x.l,lim p.x.d,.v (.bool p.y.s),lim p.y.l,lim p.y.d]
def RP.lm (p:RP) (k:Nat):Prop:=p.x.lm k∧p.y.lm k
end
abbrev iv (n:Int):AV:=.v (.int .i64 n)
abbrev strA (s:ByteArray):AV:=.v (.string s)
abbrev ivs (l:List Int):AV:=.sl 1 (l.map iv)
abbrev Vt:=Int × Int × Int
abbrev Vt.av (v:Vt):AV:=.agg [iv v.1,iv v.2.1,iv v.2.2]
theorem getD_mem {α:Type} {l:List α} {j:Nat} {d:α} (h:j < l.length):l.getD j d∈l:=by
 rw [List.getD_eq_getElem?_getD,List.getElem?_eq_getElem h];exact List.getElem_mem h
theorem Zbu {α:Type} (f:α→AV) {l:List α} {k:Nat} (h:k < l.length):(l.map f).getD k .u=f l[k]:=by
 rw [List.getD_eq_getElem?_getD,List.getElem?_map,List.getElem?_eq_getElem h];rfl
theorem szStr:szOf Tryz.prog 9=some 1:=by kernel_rfl
theorem byStr:Zif Tryz.prog 9=some 16:=by kernel_rfl
theorem zStr:Zb1 Tryz.prog 9=some (.string ByteArray.empty):=by kernel_rfl
theorem Zb3:szOf Tryz.prog 48=some 4:=by kernel_rfl
theorem Zb8:Zif Tryz.prog 48=some 80:=by kernel_rfl
theorem Zc5:Zb1 Tryz.prog 48=some (.agg #[.bool false,.slice none 0 0,.slice none 0 0,.slice none 0 0]):=by kernel_rfl
theorem Zb4:szOf Tryz.prog 23=some 1:=by kernel_rfl
theorem Zb9:Zif Tryz.prog 23=some 24:=by kernel_rfl
theorem Zc6:Zb1 Tryz.prog 23=some (.slice none 0 0):=by kernel_rfl
theorem Zb5:szOf Tryz.prog 46=some 1:=by kernel_rfl
theorem Zca:Zif Tryz.prog 46=some 24:=by kernel_rfl
theorem Zc7:Zb1 Tryz.prog 46=some (.slice none 0 0):=by kernel_rfl
end Go.Proofs.YtimmnimikmnljaaGreat
namespace Go.Proofs.YtimmnimikmnljaaGreat
open Go Go.RowKit Go.Pg Go.Pol
attribute [-bool_to_prop] Bool.and_eq_decide Bool.or_eq_decide Bool.decide_beq_decide decide_eq_decide
abbrev Tm:=Rat × List Int
abbrev Po:=List Tm
abbrev tmA (t:Tm):AV:=.agg [.v (.bool (decide (t.1.num < 0))),lim (toL t.1.num.natAbs),lim (toL t.1.den),ivs t.2]
abbrev poA (p:Po):AV:=.sl 4 (p.map tmA)
abbrev SrtM (p:Po):Prop:=Srt Can ltM p
abbrev addM (p q:Po):Po:=addP ltM p q
abbrev subM (p q:Po):Po:=subP ltM p q
abbrev mlM (p q:Po):Po:=mulR ltM mulM p q
def sclM (a:Rat) (p:Po):Po:=if a=0 then [] else Zbe a p
def PK (p:Po) (k e:Nat):Prop:=∀t∈p,Sz t.1 k∧t.2.length≤1000∧∀j,0≤gI t.2 j∧gI t.2 j≤(e:Int)
theorem PK.mono {p:Po} {k j e f:Nat} (h:PK p k e) (hk:k≤j) (he:e≤f):PK p j f:=λt ht=>⟨(h t ht).1.mono hk,(h t ht).2.1,λi=>by have:=(h t ht).2.2 i;omega⟩
theorem PK.sm {p:Po} {k e:Nat} (h:PK p k e) (he:e≤16777216) {t:Tm} (ht:t∈p):Sm t.2:=⟨(h t ht).2.1,λi=>by have:=(h t ht).2.2 i;omega⟩
theorem PK.nil {k e:Nat}:PK [] k e:=λt ht=>by simp at ht
theorem PK.tail {t:Tm} {p:Po} {k e:Nat} (h:PK (t :: p) k e):PK p k e:=λu hu=>h u (.tail _ hu)
theorem PK.drop {p:Po} {k e:Nat} (h:PK p k e) (i:Nat):PK (p.drop i) k e:=λu hu=>h u (List.mem_of_mem_drop hu)
theorem PK.add {p q:Po} {j k e:Nat} (hp:PK p j e) (hq:PK q k e):PK (addM p q) (j+k+1) e:=λt ht=>by
 rcases Zhh ht with h | h | ⟨s,hs,u,hu,rfl⟩
 ·exact⟨(hp t h).1.mono (by omega),(hp t h).2⟩
 ·exact⟨(hq t h).1.mono (by omega),(hq t h).2⟩
 ·exact⟨(hp s hs).1.add (hq u hu).1,(hp s hs).2⟩
theorem PK.times {p:Po} {t:Tm} {j k e f:Nat} (hp:PK p j e) (ht:PK [t] k f):PK (Zat mulM p t) (j+k) (e+f):=λu hu=>by
 obtain⟨s,hs,rfl⟩:=List.mem_map.1 hu;have h1:=hp s hs;have h2:=ht t (.head _);refine⟨h1.1.mul h2.1,by rw [Zd1];have:=h1.2.1;have:=h2.2.1;omega,λi=>?_⟩;show 0≤gI (mulM s.2 t.2) i∧gI (mulM s.2 t.2) i≤_;rw [Zde _ rfl];have:=h1.2.2 i;have:=h2.2.2 i;omega
theorem Zhy {a b:List Int} (ha:Can a) (hb:Can b):(ltM a b∧lexC a b (max a.length b.length)=-1)∨(¬ltM a b∧¬ltM b a∧a=b∧lexC a b (max a.length b.length)=0)∨(ltM b a∧¬ltM a b∧lexC a b (max a.length b.length)=1):=by
 rcases @Ze0 a b (max a.length b.length) with⟨h,h2⟩ | h | h
 ·have e:a=b:=Zly ha hb λj=>by
   by_cases hj:j < max a.length b.length
   ·exact h2 j hj
   ·rw [Zbg (by omega),Zbg (by omega)]
  refine .inr (.inl ⟨?_,?_,e,h⟩)
  ·unfold ltM;rw [h];decide
  ·subst e;unfold ltM;rw [h];decide
 ·exact .inl ⟨h,h⟩
 ·have h3:ltM b a:=by unfold ltM;rw [Nat.max_comm,Zhk,h]
  refine .inr (.inr ⟨h3,?_,h⟩);unfold ltM;rw [h];decide
theorem Zii {l:List Int} (h:Can l):Zct l=l:=by
 unfold Zct;rcases h.2 with h0 | h0
 ·have:l=[]:=List.length_eq_zero_iff.1 h0;subst this;rfl
 ·rcases Nat.eq_zero_or_pos l.length with h1 | h1
  ·have:l=[]:=List.length_eq_zero_iff.1 h1;subst this;rfl
  ·rw [Zht h1 h0,List.take_length]
theorem can_nil:Can []:=⟨λj=>by rw [Zbg (Nat.zero_le _)];omega,.inl rfl⟩
theorem mulM_nil (a:List Int):mulM a []=a:=by
 refine List.ext_getElem (by rw [Zd1];simp) λj h1 h2=>?_;have:=Zde (·+·) rfl a [] j;rw [Zfp h1,Zfp h2,Zbg (Nat.zero_le _),Int.add_zero] at this;exact this
theorem Zqf (p:Po) (a:Rat):Zat mulM p (a,[])=Zbe a p:=by
 unfold Zat Zbe;exact List.map_congr_left λs _=>by rw [mulM_nil]
def Zgo (v:Nat):List Int:=List.replicate v 0++[1]
theorem Zfu (v:Nat):(Zgo v).length=v+1:=by simp [Zgo]
theorem Zlr (v j:Nat):gI (Zgo v) j=if j=v then 1 else 0:=by
 by_cases h:j < v+1
 ·rw [Zfp (by rw [Zfu];exact h)];unfold Zgo;rw [List.getElem_append];by_cases hj:j < v
  ·rw [dif_pos (by simpa using hj),List.getElem_replicate,if_neg (by omega)]
  ·rw [dif_neg (by simpa using hj),if_pos (by omega)];simp
 ·rw [Zbg (by rw [Zfu];omega),if_neg (by omega)]
theorem can_unit (v:Nat):Can (Zgo v):=by
 refine⟨λj=>by rw [Zlr];split<;>omega,.inr ?_⟩;rw [Zfu,Zlr,if_pos (by omega)];omega
def varM (v:Nat):Po:=if v < 64 then [(1,Zgo v)] else []
theorem Zoy (v:Nat):SrtM (varM v):=by
 unfold varM;split
 ·exact Srt.nil.cons (by show(1:Rat)≠0;decide) (can_unit v) (by simp)
 ·exact .nil
end Go.Proofs.YtimmnimikmnljaaGreat
namespace Go.Proofs.YtimmnimikmnljaaGreat
open Go Go.RowKit Go.Pg Go.Pol
def dgI (a:List Int):Int:=sumT a a.length
theorem Zkz (a:List Int):∀k,sumT a (a.length+k)=dgI a
 | 0=>rfl
 | k+1=>by show sumT a (a.length+k)+gI a (a.length+k)=_;rw [Zkz a k,Zbg (by omega),Int.add_zero]
theorem Zo5 (a b:List Int):∀n,sumT (zipI (·+·) a b) n=sumT a n+sumT b n
 | 0=>rfl
 | n+1=>by
   show sumT (zipI (·+·) a b) n+gI (zipI (·+·) a b) n=(sumT a n+gI a n)+(sumT b n+gI b n);rw [Zo5 a b n,Zde _ rfl];omega
theorem Zs9 (a b:List Int):dgI (mulM a b)=dgI a+dgI b:=by
 show sumT (mulM a b) (mulM a b).length=_;rw [Zd1,Zo5];rcases Nat.le_total a.length b.length with h | h
 ·rw [Nat.max_eq_right h];have:=Zkz a (b.length - a.length);rw [show a.length+(b.length - a.length)=b.length by omega] at this;rw [this];rfl
 ·rw [Nat.max_eq_left h];have:=Zkz b (a.length - b.length);rw [show b.length+(a.length - b.length)=a.length by omega] at this;rw [this];rfl
def ltO (o:Int) (a b:List Int):Prop:=cmpI a b o=-1
instance (o:Int):DecidableRel (ltO o):=λa b=>inferInstanceAs (Decidable (cmpI a b o=-1))
theorem Zf0 {o:Int} {a b:List Int}:ltO o a b↔(o=1∧dgI a < dgI b)∨((o=1→dgI a=dgI b)∧ltM a b):=by
 show cmpI a b o=-1↔_;unfold cmpI;by_cases h:o=1∧sumT a a.length≠sumT b b.length
 ·rw [if_pos h];unfold lt1;constructor
  ·intro g;refine .inl ⟨h.1,?_⟩;by_cases h2:sumT a a.length < sumT b b.length
   ·exact h2
   ·rw [if_neg h2] at g;exact absurd g (by decide)
  ·rintro (⟨_,g⟩ | ⟨g,_⟩)
   ·exact if_pos g
   ·exact absurd (g h.1) h.2
 ·rw [if_neg h];constructor
  ·intro g;exact .inr ⟨λho=>Classical.byContradiction λhn=>h ⟨ho,hn⟩,g⟩
  ·rintro (⟨ho,g⟩ | ⟨_,g⟩)
   ·exact absurd ⟨ho,by unfold dgI at g;omega⟩ h
   ·exact g
theorem Zth {o:Int} {a b:List Int}:0 < cmpI a b o↔ltO o b a:=by
 show _↔cmpI b a o=-1;unfold cmpI;by_cases h:o=1∧sumT a a.length≠sumT b b.length
 ·rw [if_pos h,if_pos ⟨h.1,h.2.symm⟩];unfold lt1;have:=h.2;split<;>split<;>omega
 ·rw [if_neg h,if_neg (λg=>h ⟨g.1,g.2.symm⟩),Nat.max_comm b.length,Zhk (b:=b)];rcases @Ze0 a b (max a.length b.length) with⟨g,_⟩ | g | g<;>rw [g]<;>decide
theorem ordO (o:Int):KO Can (ltO o) where
 irr x h:=by
  rcases Zf0.1 h with⟨_,h⟩ | ⟨_,h⟩
  ·omega
  ·exact ordM.irr x h
 tr x y z h g:=by
  rw [Zf0] at *;rcases h with⟨h1,h2⟩ | ⟨h1,h2⟩<;>rcases g with⟨g1,g2⟩ | ⟨g1,g2⟩
  ·exact .inl ⟨h1,by omega⟩
  ·exact .inl ⟨h1,by have:=g1 h1;omega⟩
  ·exact .inl ⟨g1,by have:=h1 g1;omega⟩
  ·exact .inr ⟨λho=>by have:=h1 ho;have:=g1 ho;omega,ordM.tr x y z h2 g2⟩
 tri x y hx hy:=by
  rw [Zf0,Zf0];by_cases ho:o=1
  ·rcases Int.lt_trichotomy (dgI x) (dgI y) with h | h | h
   ·exact .inl (.inl ⟨ho,h⟩)
   ·rcases ordM.tri x y hx hy with g | g | g
    ·exact .inl (.inr ⟨λ_=>h,g⟩)
    ·exact .inr (.inl g)
    ·exact .inr (.inr (.inr ⟨λ_=>h.symm,g⟩))
   ·exact .inr (.inr (.inl ⟨ho,h⟩))
  ·rcases ordM.tri x y hx hy with g | g | g
   ·exact .inl (.inr ⟨λh=>absurd h ho,g⟩)
   ·exact .inr (.inl g)
   ·exact .inr (.inr (.inr ⟨λh=>absurd h ho,g⟩))
theorem ltO_mul {o:Int} {x y:List Int} (z:List Int) (hx:Can x) (hy:Can y) (hz:Can z) (h:ltO o x y):ltO o (mulM x z) (mulM y z):=by
 rw [Zf0] at *;rw [Zs9,Zs9];rcases h with⟨h1,h2⟩ | ⟨h1,h2⟩
 ·exact .inl ⟨h1,by omega⟩
 ·exact .inr ⟨λho=>by have:=h1 ho;omega,mulK.mono x y z hx hy hz h2⟩
theorem Zg2 {p:Po} (h:SrtM p) {t:Tm} (ht:t∈p):cof p t.2=t.1:=by
 induction p with
 | nil=>cases ht
 | cons s p ih =>
   rcases List.mem_cons.1 ht with rfl | ht
   ·exact Zfi ordM h
   ·show(if s.2=t.2 then s.1 else 0)+cof p t.2=t.1;have hl:=h.head_lt t ht;rw [if_neg (λe=>by rw [e] at hl;exact ordM.irr _ hl),Rat.zero_add];exact ih h.tail ht
theorem Zjh {p:Po} {x:List Int} (h:cof p x≠0):∃t∈p,t.2=x:=by
 induction p with
 | nil=>exact absurd rfl h
 | cons s p ih =>
   by_cases e:s.2=x
   ·exact⟨s,.head _,e⟩
   ·obtain⟨t,ht,e2⟩:=ih (λg=>h (by show(if s.2=x then s.1 else 0)+cof p x=0;rw [if_neg e,g,Rat.zero_add]));exact⟨t,.tail _ ht,e2⟩
def ldF (o:Int) (m u:Tm):Tm:=if 0 < cmpI u.2 m.2 o then u else m
def ldO (o:Int):Po→Tm
 | []=>(0,[])
 | t :: p=>p.foldl (ldF o) t
theorem Zln (o:Int):∀(p:Po) (t:Tm),Can t.2→(∀u∈p,Can u.2)→(p.foldl (ldF o) t=t∨p.foldl (ldF o) t∈p)∧(∀u,u=t∨u∈p→u.2=(p.foldl (ldF o) t).2∨ltO o u.2 (p.foldl (ldF o) t).2)
 | [],t,_,_=>⟨.inl rfl,λu hu=>by rcases hu with rfl | hu;exact .inl rfl;cases hu⟩
 | s :: p,t,h1,h2=>by
   have hs:=h2 s (.head _)
   have key:Can (ldF o t s).2∧(ldF o t s=t∨ldF o t s=s)∧(t.2=(ldF o t s).2∨ltO o t.2 (ldF o t s).2)∧(s.2=(ldF o t s).2∨ltO o s.2 (ldF o t s).2):=by
    unfold ldF;by_cases h:0 < cmpI s.2 t.2 o
    ·rw [if_pos h];exact⟨hs,.inr rfl,.inr (Zth.1 h),.inl rfl⟩
    ·rw [if_neg h];refine⟨h1,.inl rfl,.inl rfl,?_⟩;rcases (ordO o).tri s.2 t.2 hs h1 with g | g | g
     ·exact .inr g
     ·exact .inl g
     ·exact absurd (Zth.2 g) h
   obtain⟨k1,k2,k3,k4⟩:=key;obtain⟨i1,i2⟩:=Zln o p (ldF o t s) k1 λu hu=>h2 u (.tail _ hu);show(p.foldl (ldF o) (ldF o t s)=t∨p.foldl (ldF o) (ldF o t s)∈s :: p)∧_
   have up:∀u:Tm,(u.2=(ldF o t s).2∨ltO o u.2 (ldF o t s).2)→u.2=(p.foldl (ldF o) (ldF o t s)).2∨ltO o u.2 (p.foldl (ldF o) (ldF o t s)).2:=by
    intro u hu;have hm:=i2 (ldF o t s) (.inl rfl);rcases hu with hu | hu
    ·rw [hu];exact hm
    ·rcases hm with hm | hm
     ·rw [←hm];exact .inr hu
     ·exact .inr ((ordO o).tr _ _ _ hu hm)
   refine⟨?_,λu hu=>?_⟩
   ·rcases i1 with i1 | i1
    ·rw [i1];rcases k2 with k2 | k2
     ·exact .inl k2
     ·rw [k2];exact .inr (.head _)
    ·exact .inr (.tail _ i1)
   ·rcases hu with rfl | hu
    ·exact up _ k3
    ·rcases List.mem_cons.1 hu with rfl | hu
     ·exact up _ k4
     ·exact i2 u (.inr hu)
theorem Zfm {o:Int} {p:Po} (h:SrtM p) (h0:p≠[]):ldO o p∈p:=by
 cases p with
 | nil=>exact absurd rfl h0
 | cons t p =>
   rcases (Zln o p t (h.1 t (.head _)).2 λu hu=>(h.1 u (.tail _ hu)).2).1 with g | g
   ·show p.foldl (ldF o) t∈_;rw [g];exact .head _
   ·exact .tail _ g
theorem Zsr {o:Int} {p:Po} (h:SrtM p) {u:Tm} (hu:u∈p):u.2=(ldO o p).2∨ltO o u.2 (ldO o p).2:=by
 cases p with
 | nil=>cases hu
 | cons t p=>exact(Zln o p t (h.1 t (.head _)).2 λu hu=>(h.1 u (.tail _ hu)).2).2 u (List.mem_cons.1 hu)
theorem Zo7 {o:Int} {p q:Po} (hp:SrtM p) (hq:SrtM q) (h0:p≠[]) (hm:∀u∈q,u.2=(ldO o p).2∨ltO o u.2 (ldO o p).2) (hc:cof q (ldO o p).2=(ldO o p).1):∀v∈subM p q,ltO o v.2 (ldO o p).2:=by
 intro v hv;have hs:=Znp ordM hp hq;have c1:=Zg2 hs hv;have c2:=Zrk ordM hp hq v.2;have hv0:=(hs.1 v hv).1;have ht:=Zfm (o:=o) hp h0;have ct:=Zg2 hp ht;have hne:v.2≠(ldO o p).2:=λe=>by
  rw [e,ct,hc,Rat.sub_self] at c2;rw [e,c2] at c1;exact hv0 c1.symm
 by_cases g:cof p v.2=0
 ·have:cof q v.2≠0:=λg2=>by rw [g,g2,Rat.sub_self] at c2;rw [c2] at c1;exact hv0 c1.symm
  obtain⟨u,hu,e⟩:=Zjh this;rw [←e] at hne ⊢;exact(hm u hu).resolve_left hne
 ·obtain⟨u,hu,e⟩:=Zjh g;rw [←e] at hne ⊢;exact(Zsr hp hu).resolve_left hne
theorem Zgx (l:List Int):∀n,Zdg l n≤n∧(∀j,Zdg l n≤j→j < n→gI l j=0)∧(Zdg l n=0∨gI l (Zdg l n - 1)≠0)
 | 0=>⟨Nat.le_refl _,λj _ h=>absurd h (by omega),.inl rfl⟩
 | n+1=>by
   obtain⟨h1,h2,h3⟩:=Zgx l n;simp only [Zdg];by_cases h:gI l n=0
   ·rw [if_pos h];refine⟨by omega,λj a b=>?_,h3⟩;by_cases e:j=n
    ·rw [e];exact h
    ·exact h2 j a (by omega)
   ·rw [if_neg h];exact⟨Nat.le_refl _,λj a b=>absurd a (by omega),.inr h⟩
theorem gI_tk (l:List Int) {n j:Nat} (h:j < n):gI (l.take n) j=gI l j:=by
 unfold gI;simp only [List.getD_eq_getElem?_getD];rw [List.getElem?_take_of_lt h]
theorem Znl (l:List Int) (j:Nat):gI (Zct l) j=gI l j:=by
 obtain⟨h1,h2,_⟩:=Zgx l l.length;unfold Zct;by_cases h:j < Zdg l l.length
 ·exact gI_tk l h
 ·rw [Zbg (by rw [List.length_take];omega)];by_cases g:j < l.length
  ·rw [h2 j (by omega) g]
  ·rw [Zbg (by omega)]
theorem trim_Can {l:List Int} (h:∀j,0≤gI l j):Can (Zct l):=by
 refine⟨λj=>by rw [Znl];exact h j,?_⟩;obtain⟨h1,_,h3⟩:=Zgx l l.length;have e:(Zct l).length=Zdg l l.length:=by unfold Zct;rw [List.length_take];omega
 rw [e,Znl];exact h3
theorem Zlv {a b:List Int} (ha:Can a) (hb:Can b):divI b a=true↔∀j,gI b j≤gI a j:=by
 unfold divI;rw [List.all_eq_true];constructor
 ·intro h j;by_cases g:j < b.length
  ·simpa using h j (List.mem_range.2 g)
  ·rw [Zbg (l:=b) (by omega)];exact ha.1 j
 ·intro h j _;simpa using h j
theorem Zpn {a b:List Int} (h:divI b a=true) (j:Nat):gI (quoI a b) j=gI a j - gI b j:=by
 unfold quoI;rw [if_pos h,Znl,Zde _ rfl]
theorem Zn2 {a b:List Int} (ha:Can a) (hb:Can b) (h:divI b a=true):Can (quoI a b):=by
 unfold quoI;rw [if_pos h];refine trim_Can λj=>?_;rw [Zde _ rfl];have:=(Zlv ha hb).1 h j;omega
theorem Zpm {a b:List Int} (ha:Can a) (hb:Can b) (h:divI b a=true):mulM b (quoI a b)=a :=
 Zly (mulK.dom _ _ hb (Zn2 ha hb h)) ha λj=>by rw [Zde _ rfl,Zpn h];omega
theorem quoR_quo {a b:List Int} (ha:Can a) (hb:Can b):quoR a b=quoI a b:=by
 by_cases h:divI b a=true
 ·have hl:b.length≤a.length:=by
   rcases hb.2 with g | g
   ·omega
   ·refine Classical.byContradiction λn=>g ?_;have h1:=(Zlv ha hb).1 h (b.length - 1);rw [Zbg (l:=a) (by omega)] at h1;have h2:=hb.1 (b.length - 1);omega
  unfold quoR quoI;rw [if_pos h,if_pos h];show Zct _=Zct ((List.range (max a.length b.length)).map λi=>gI a i - gI b i);rw [Nat.max_eq_left hl]
 ·unfold quoR quoI;rw [if_neg h,if_neg h]
theorem BQ.szk {D B k:Nat} {q:Rat} (h:BQ D B q) (h0:0 < D) (hD:D < 65536 ^ k) (hB:B*D < 65536 ^ k):Sz q k:=by
 have h1:=Nat.le_of_dvd h0 h.1;have h2:B*q.den≤B*D:=Nat.mul_le_mul_left _ h1;have h3:=h.2;exact⟨Zah.2 (by omega),Zah.2 (by omega)⟩
theorem sz_bq {q:Rat} {k:Nat} (h:Sz q k):q.den < 65536 ^ k∧BQ q.den (65536 ^ k) q:=by
 have h1:=Zah.1 h.1;have h2:=Zah.1 h.2;refine⟨h2,Nat.dvd_refl _,?_⟩;have:=Nat.mul_le_mul_left (65536 ^ k) (Rat.den_pos q);omega
theorem Zov {k:Nat}:∀(p:Po),(∀t∈p,Sz t.1 k)→∃D,0 < D∧D≤65536 ^ (k*p.length)∧∀t∈p,BQ D (65536 ^ k) t.1
 | [],_=>⟨1,by omega,Nat.pow_pos (by omega),λt h=>absurd h (by simp)⟩
 | t :: p,h=>by
   obtain⟨D,h1,h2,h3⟩:=Zov p λu hu=>h u (.tail _ hu);obtain⟨g1,g2⟩:=sz_bq (h t (.head _));refine⟨t.1.den*D,Nat.mul_pos (Rat.den_pos _) h1,?_,λu hu=>?_⟩
   ·rw [List.length_cons,Nat.mul_succ,Nat.pow_add,Nat.mul_comm];exact Nat.mul_le_mul h2 (Nat.le_of_lt g1)
   ·rcases List.mem_cons.1 hu with rfl | hu
    ·exact g2.mono (Nat.dvd_mul_right _ _) (Nat.le_refl _)
    ·exact(h3 u hu).mono (Nat.dvd_mul_left _ _) (Nat.le_refl _)
theorem inv_bq {q:Rat} {k:Nat} (h:Sz q k) (h0:q≠0):∃E,0 < E∧E≤65536 ^ k∧BQ E (65536 ^ k) q⁻¹:=by
 obtain⟨g1,g2⟩:=sz_bq h.inv;exact⟨q⁻¹.den,Rat.den_pos _,Nat.le_of_lt g1,g2⟩
theorem den_div {p:Po} {k n:Nat} (h:∀t∈p,Sz t.1 k) (hn:p.length≤n) {q:Rat} (hq:Sz q k) (h0:q≠0):∃D,0 < D∧D≤65536 ^ (k*n+k)∧(∀t∈p,BQ D (65536 ^ (2*k)) (t.1/q))∧BQ D (65536 ^ (2*k)) q⁻¹:=by
 obtain⟨D,a1,a2,a3⟩:=Zov p h;obtain⟨E,b1,b2,b3⟩:=inv_bq hq h0;refine⟨D*E,Nat.mul_pos a1 b1,?_,λt ht=>?_,b3.mono (Nat.dvd_mul_left _ _) (Nat.pow_le_pow_right (by omega) (by omega))⟩
 ·rw [Nat.pow_add];exact Nat.mul_le_mul (Nat.le_trans a2 (Nat.pow_le_pow_right (by omega) (Nat.mul_le_mul_left _ hn))) b2
 ·rw [Rat.div_def];exact((a3 t ht).mul b3).mono (Nat.dvd_refl _) (by rw [←Nat.pow_add];exact Nat.pow_le_pow_right (by omega) (by omega))
def CQ (p:Po) (D B:Nat):Prop:=∀t∈p,BQ D B t.1
theorem CQ.sub {p q:Po} {D B C:Nat} (h:CQ p D B) (g:CQ q D C):CQ (subM p q) D (B+C):=by
 intro t ht;rcases Zhh ht with h1 | h1 | ⟨s,hs,u,hu,rfl⟩
 ·exact(h t h1).mono (Nat.dvd_refl _) (by omega)
 ·obtain⟨u,hu,rfl⟩:=List.mem_map.1 h1;show BQ _ _ (u.1*-1);rw [Rat.mul_neg,Rat.mul_one];exact(g u hu).neg.mono (Nat.dvd_refl _) (by omega)
 ·obtain⟨v,hv,rfl⟩:=List.mem_map.1 hu;show BQ _ _ (s.1+v.1*-1);rw [Rat.mul_neg,Rat.mul_one];exact(h s hs).add (g v hv).neg
theorem CQ.step {p b:Po} {D B E F:Nat} {t f:Tm} {L:Rat} (h:CQ p D B) (ht:t∈p) (hb:∀s∈b,BQ E F (s.1/L)) (hf:f.1=t.1/L):CQ (subM p (Zat mulM b f)) (D*E) (B+B*F):=by
 refine CQ.sub (λu hu=>(h u hu).mono (Nat.dvd_mul_right _ _) (Nat.le_refl _)) λu hu=>?_;obtain⟨s,hs,rfl⟩:=List.mem_map.1 hu;show BQ _ _ (s.1*f.1);have e:s.1*f.1=t.1*(s.1/L):=by rw [hf,Rat.div_def,Rat.div_def,←Rat.mul_assoc,Rat.mul_comm s.1,Rat.mul_assoc]
 rw [e];exact(h t ht).mul (hb s hs)
theorem dg3 {m:List Int} (h:m.length≤3):dgI m=gI m 0+gI m 1+gI m 2:=by
 have:=Zkz m (3 - m.length);rw [show m.length+(3 - m.length)=3 by omega] at this;rw [←this];show((0+gI m 0)+gI m 1)+gI m 2=_;omega
def wtO (m:List Int):Int:=gI m 0+2*gI m 1+4*gI m 2
theorem wt_mul (a b:List Int):wtO (mulM a b)=wtO a+wtO b:=by
 unfold wtO;rw [Zde _ rfl,Zde _ rfl,Zde _ rfl];omega
def Bx (o:Int) (m:List Int):Prop:=m.length≤3∧(o=1→dgI m≤4)∧(o≠1→wtO m≤16)
theorem Bx.e {o:Int} {m:List Int} (h:Bx o m) (c:Can m) (j:Nat):gI m j≤16:=by
 obtain⟨h1,h2,h3⟩:=h;rw [dg3 h1] at h2;unfold wtO at h3;have c0:=c.1 0;have c1:=c.1 1;have c2:=c.1 2
 have key:gI m 0≤16∧gI m 1≤16∧gI m 2≤16:=by
  by_cases ho:o=1
  ·have:=h2 ho;omega
  ·have:=h3 ho;omega
 match j with
 | 0=>exact key.1
 | 1=>exact key.2.1
 | 2=>exact key.2.2
 | j+3=>rw [Zbg (by omega)];omega
theorem bx_start {o:Int} {m:List Int} (hl:m.length≤3) (c:Can m) (h:dgI m≤4):Bx o m:=by
 refine⟨hl,λ_=>h,λ_=>?_⟩;rw [dg3 hl] at h;unfold wtO;have c0:=c.1 0;have c1:=c.1 1;have c2:=c.1 2;omega
theorem bx_step {o:Int} {s l m:List Int} (hs:s.length≤3) (hl:l.length≤3) (cs:Can s) (cl:Can l) (ds:dgI s≤2) (dl:dgI l≤2) (h:s=l∨ltO o s l) (g:Bx o (mulM l m)):Bx o (mulM s m):=by
 obtain⟨g1,g2,g3⟩:=g;rw [Zd1] at g1;refine⟨by rw [Zd1];omega,λho=>?_,λho=>?_⟩
 ·have:=g2 ho;rw [Zs9] at *;rcases h with rfl | h
  ·exact this
  ·rcases Zf0.1 h with⟨_,h⟩ | ⟨h,_⟩
   ·omega
   ·have:=h ho;omega
 ·have:=g3 ho;rw [wt_mul] at *;rcases h with rfl | h
  ·exact this
  ·rcases Zf0.1 h with⟨h,_⟩ | ⟨_,h⟩
   ·exact absurd h ho
   ·obtain⟨k,h1,h2⟩:=Zf1.1 h;rw [dg3 hs] at ds;rw [dg3 hl] at dl;unfold wtO at *;have a0:=cs.1 0;have a1:=cs.1 1;have a2:=cs.1 2;have b0:=cl.1 0;have b1:=cl.1 1;have b2:=cl.1 2
    match k with
    | 0=>have:=h2 1 (by omega);have:=h2 2 (by omega);omega
    | 1=>have:=h2 2 (by omega);omega
    | 2=>omega
    | k+3=>rw [Zbg (l:=s) (by omega),Zbg (l:=l) (by omega)] at h1;omega
def enO (o:Int) (m:List Int):Nat:=((if o=1 then dgI m*4913 else 0)+gI m 0+17*gI m 1+289*gI m 2).toNat
theorem en_le {o:Int} {m:List Int} (h:Bx o m) (c:Can m):enO o m≤20808:=by
 obtain⟨h1,h2,h3⟩:=h;have d:=dg3 h1;unfold wtO at h3;unfold enO;have c0:=c.1 0;have c1:=c.1 1;have c2:=c.1 2;by_cases ho:o=1
 ·rw [if_pos ho];have:=h2 ho;omega
 ·rw [if_neg ho];have:=h3 ho;omega
theorem en_lt {o:Int} {a b:List Int} (ha:Bx o a) (hb:Bx o b) (ca:Can a) (cb:Can b) (h:ltO o a b):enO o a < enO o b:=by
 have x0:=ha.e ca 0;have x1:=ha.e ca 1;have x2:=ha.e ca 2;have y0:=hb.e cb 0;have y1:=hb.e cb 1;have y2:=hb.e cb 2;have a0:=ca.1 0;have a1:=ca.1 1;have a2:=ca.1 2;have b0:=cb.1 0;have b1:=cb.1 1;have b2:=cb.1 2;have da:=dg3 ha.1;have db:=dg3 hb.1;have lex:ltM a b→gI a 0+17*gI a 1+289*gI a 2 < gI b 0+17*gI b 1+289*gI b 2:=λh=>by
  obtain⟨k,h1,h2⟩:=Zf1.1 h
  match k with
  | 0=>have:=h2 1 (by omega);have:=h2 2 (by omega);omega
  | 1=>have:=h2 2 (by omega);omega
  | 2=>omega
  | k+3=>rw [Zbg (l:=a) (by have:=ha.1;omega),Zbg (l:=b) (by have:=hb.1;omega)] at h1;omega
 unfold enO;rcases Zf0.1 h with⟨ho,h⟩ | ⟨ho,h⟩
 ·rw [if_pos ho,if_pos ho];omega
 ·have:=lex h;by_cases o1:o=1
  ·rw [if_pos o1,if_pos o1];have:=ho o1;omega
  ·rw [if_neg o1,if_neg o1];omega
def Zfg (o:Int) (t:Tm) (b:Po):Option Tm:=if divI (ldO o b).2 t.2=true then some (t.1/(ldO o b).1,quoI t.2 (ldO o b).2) else none
def fstO (o:Int) (t:Tm):List Po→Option (Nat × Tm)
 | []=>none
 | b :: bs=>match Zfg o t b with
   | some f=>some (0,f)
   | none=>(fstO o t bs).map λr=>(r.1+1,r.2)
theorem Zp6 {o:Int} {t:Tm}:∀{bs:List Po},(∀b∈bs,Zfg o t b=none)→fstO o t bs=none
 | [],_=>rfl
 | b :: bs,h=>by
   simp only [fstO,h b (.head _),Zp6 λc hc=>h c (.tail _ hc),Option.map_none]
theorem fst_at {o:Int} {t f:Tm}:∀{bs:List Po} {i:Nat},(∀j,j < i→Zfg o t (bs.getD j [])=none)→i < bs.length→Zfg o t (bs.getD i [])=some f→fstO o t bs=some (i,f)
 | [],i,_,h,_=>absurd h (by simp)
 | b :: bs,0,_,_,h=>by
   have h':Zfg o t b=some f:=h;simp only [fstO,h']
 | b :: bs,i+1,h1,h2,h3=>by
   have h':Zfg o t b=none:=h1 0 (by omega);have h4:=fst_at (bs:=bs) (i:=i) (λj hj=>h1 (j+1) (by omega)) (by simpa using h2) h3;simp only [fstO,h',h4,Option.map_some]
theorem Zp5 {o:Int} {t f:Tm}:∀{bs:List Po} {i:Nat},fstO o t bs=some (i,f)→i < bs.length∧Zfg o t (bs.getD i [])=some f
 | [],i,h=>by simp [fstO] at h
 | b :: bs,i,h=>by
   simp only [fstO] at h
   cases e:Zfg o t b with
   | some g =>
     rw [e] at h;simp only [Option.some.injEq,Prod.mk.injEq] at h;obtain⟨h1,h2⟩:=h;subst h1 h2;exact⟨by simp,e⟩
   | none =>
     rw [e] at h;simp only at h
     cases e2:fstO o t bs with
     | none=>rw [e2] at h;simp at h
     | some r =>
       rw [e2] at h;obtain⟨k,g⟩:=r;simp only [Option.map_some,Option.some.injEq,Prod.mk.injEq] at h;obtain⟨h1,h2⟩:=h;subst h1 h2;obtain⟨h3,h4⟩:=Zp5 e2;exact⟨by simpa using h3,h4⟩
theorem fst_no {o:Int} {t:Tm}:∀{bs:List Po},fstO o t bs=none→∀b∈bs,Zfg o t b=none
 | [],_,b,hb=>by cases hb
 | b :: bs,h,c,hc=>by
   simp only [fstO] at h
   cases e:Zfg o t b with
   | some g=>rw [e] at h;simp at h
   | none =>
     rw [e] at h;simp only [Option.map_eq_none_iff] at h;rcases List.mem_cons.1 hc with rfl | hc
     ·exact e
     ·exact fst_no h c hc
def bigP (p:Po):Bool:=decide (4000 < p.length) || p.any λt=>t.2.any λx=>decide (1048576 < x)
structure DS where
 p:Po
 q:List Po
 r:Po
def Zgu (o:Int) (bs:List Po) (s:DS):Option DS :=
 match fstO o (ldO o s.p) bs with
 | some (i,f)=>if bigP (subM s.p (mlM [f] (bs.getD i []))) || bigP (addM (s.q.getD i []) [f]) then none else some ⟨subM s.p (mlM [f] (bs.getD i [])),s.q.set i (addM (s.q.getD i []) [f]),s.r⟩
 | none=>if bigP (addM s.r [ldO o s.p]) then none else some ⟨subM s.p [ldO o s.p],s.q,addM s.r [ldO o s.p]⟩
def Zj5 (o:Int) (bs:List Po):Nat→DS→Option DS
 | 0,s=>some s
 | n+1,s=>if s.p=[] then some s else (Zgu o bs s).bind (Zj5 o bs n)
def dvM (o:Int) (s:DS):Nat:=if s.p=[] then 0 else enO o (ldO o s.p).2+1
theorem mlM_one {f:Tm} {b:Po} (hb:SrtM b) (h0:f.1≠0) (hc:Can f.2):mlM [f] b=Zat mulM b f:=by
 have hs:SrtM [f]:=Srt.cons .nil h0 hc (by simp);have:=Zmx ordM mulK hs hb;show mulR ltM mulM [f] b=_;rw [this];show addM [] (Zat mulM b f)=_;simp [addP]
theorem mulM_e {a:List Int} (h:Can a):mulM a []=a:=Zly (mulK.dom _ _ h ⟨λj=>by rw [Zbg (by simp)];omega,.inl rfl⟩) h λj=>by rw [Zde _ rfl,Zbg (l:=[]) (by simp)];omega
theorem add_new {q:Po} {f:Tm} (hq:SrtM q) (hf:SrtM [f]) (hn:∀s∈q,s.2≠f.2) {t:Tm} (ht:t∈addM q [f]):t∈q∨t=f:=by
 have hs:=Zeo ordM hq hf;have c:=Zg2 hs ht;rw [show cof (addM q [f]) t.2=cof q t.2+cof [f] t.2 from Zio ordM t.2 hq.dom hf.dom] at c;have cf:cof [f] t.2=if f.2=t.2 then f.1 else 0:=by show(if f.2=t.2 then f.1 else 0)+0=_;rw [Rat.add_zero]
 rw [cf] at c;by_cases e:f.2=t.2
 ·rw [if_pos e] at c;have z:cof q t.2=0:=Classical.byContradiction λh=>by
   obtain⟨s,h1,h2⟩:=Zjh h;exact hn s h1 (by rw [h2,e])
  rw [z,Rat.zero_add] at c;exact .inr (Prod.ext c.symm e.symm)
 ·rw [if_neg e,Rat.add_zero] at c;obtain⟨s,h1,h2⟩:=Zjh (p:=q) (x:=t.2) (by rw [c];exact(hs.1 t ht).1);have:=Zg2 hq h1;rw [h2,c] at this;exact .inl (by rw [show t=s from Prod.ext this h2.symm];exact h1)
structure BO (b:Po):Prop where
 s:SrtM b
 n:b≠[]
 l:b.length≤4
 z:∀t∈b,Sz t.1 1
 x:∀t∈b,t.2.length≤3∧dgI t.2≤2
structure QO (o:Int) (p:Po) (l:List Int) (k D B:Nat) (q:Po):Prop where
 s:SrtM q
 z:CQ q D B
 x:∀t∈q,t.2.length≤3∧∀j,gI t.2 j≤16
 n:q.length≤k
 g:∀t∈q,∀u∈p,ltO o u.2 (mulM t.2 l)
structure DI (o:Int) (bs:List Po) (k:Nat) (s:DS):Prop where
 sp:SrtM s.p
 bp:∀t∈s.p,Bx o t.2
 lp:s.p.length≤8+4*k
 lq:s.q.length=bs.length
 hd:∀t∈s.r,∀b∈bs,divI (ldO o b).2 t.2=false
 c:∃D,0 < D∧D≤65536 ^ (8+5*k)∧CQ s.p D (65536 ^ (1+3*k))∧(∀i,i < bs.length→QO o s.p (ldO o (bs.getD i [])).2 k D (65536 ^ (1+3*k)) (s.q.getD i []))∧QO o s.p [] k D (65536 ^ (1+3*k)) s.r
theorem bqSz {D k:Nat} {q:Rat} (h:BQ D (65536 ^ (1+3*k)) q) (h1:0 < D) (h2:D≤65536 ^ (8+5*k)):Sz q (10+8*k):=by
 refine BQ.szk h h1 (Nat.lt_of_le_of_lt h2 (Nat.pow_lt_pow_right (by omega) (by omega))) (Nat.lt_of_le_of_lt (Nat.mul_le_mul_left _ h2) ?_);rw [←Nat.pow_add];exact Nat.pow_lt_pow_right (by omega) (by omega)
theorem DI.sz {o:Int} {bs:List Po} {k:Nat} {s:DS} (h:DI o bs k s):∀t∈s.p,Sz t.1 (10+8*k):=by
 obtain⟨D,h1,h2,h3,_⟩:=h.c;exact λt ht=>bqSz (h3 t ht) h1 h2
theorem DI.pk {o:Int} {bs:List Po} {k:Nat} {s:DS} (h:DI o bs k s):PK s.p (10+8*k) 16:=λt ht =>
 ⟨h.sz t ht,by have:=(h.bp t ht).1;omega,λj=>⟨(h.sp.dom t ht).1 j,(h.bp t ht).e (h.sp.dom t ht) j⟩⟩
theorem QO.pk {o:Int} {p:Po} {l:List Int} {k D:Nat} {q:Po} (h:QO o p l k D (65536 ^ (1+3*k)) q) (h1:0 < D) (h2:D≤65536 ^ (8+5*k)):PK q (10+8*k) 16:=λt ht =>
 ⟨bqSz (h.z t ht) h1 h2,by have:=(h.x t ht).1;omega,λj=>⟨(h.s.dom t ht).1 j,(h.x t ht).2 j⟩⟩
theorem DI.pq {o:Int} {bs:List Po} {k:Nat} {s:DS} (h:DI o bs k s) {i:Nat} (hi:i < bs.length):SrtM (s.q.getD i [])∧PK (s.q.getD i []) (10+8*k) 16∧(s.q.getD i []).length≤k:=by
 obtain⟨D,h1,h2,_,h4,_⟩:=h.c;exact⟨(h4 i hi).s,(h4 i hi).pk h1 h2,(h4 i hi).n⟩
theorem DI.pr {o:Int} {bs:List Po} {k:Nat} {s:DS} (h:DI o bs k s):SrtM s.r∧PK s.r (10+8*k) 16∧s.r.length≤k:=by
 obtain⟨D,h1,h2,_,_,h5⟩:=h.c;exact⟨h5.s,h5.pk h1 h2,h5.n⟩
theorem QO.mono {o:Int} {p p':Po} {l:List Int} {k i D B E C:Nat} {q:Po} (h:QO o p l k D B q) (hk:k≤i) (hD:D ∣ E) (hB:B≤C) {m:Tm} (hm:m∈p) (hp:∀u∈p',ltO o u.2 m.2):QO o p' l i E C q :=
 ⟨h.s,λt ht=>(h.z t ht).mono hD hB,h.x,Nat.le_trans h.n hk,λt ht u hu=>(ordO o).tr _ _ _ (hp u hu) (h.g t ht m hm)⟩
theorem QO.mem {o:Int} {p:Po} {l:List Int} {k D B:Nat} {q:Po} (h:QO o p l k D B q) {m f:Tm} (hm:m∈p) (h0:f.1≠0) (hc:Can f.2) (he:mulM f.2 l=m.2):∀t∈addM q [f],t∈q∨t=f:=λt ht =>
 add_new h.s (Srt.cons .nil h0 hc (by simp)) (λs hs e=>by
  have:=h.g s hs m hm;rw [e,he] at this;exact(ordO o).irr _ this) ht
theorem QO.add {o:Int} {p p':Po} {l:List Int} {k D B E C:Nat} {q:Po} (h:QO o p l k D B q) (hD:D ∣ E) (hB:B≤C) {m f:Tm} (hm:m∈p) (hp:∀u∈p',ltO o u.2 m.2) (h0:f.1≠0) (hc:Can f.2) (hk:BQ E C f.1) (hx:f.2.length≤3∧∀j,gI f.2 j≤16) (he:mulM f.2 l=m.2):QO o p' l (k+1) E C (addM q [f]):=by
 have hf:SrtM [f]:=Srt.cons .nil h0 hc (by simp);have mem:=h.mem hm h0 hc he;refine⟨Zeo ordM h.s hf,λt ht=>?_,λt ht=>?_,?_,λt ht u hu=>?_⟩
 ·rcases mem t ht with g | rfl
  ·exact(h.z t g).mono hD hB
  ·exact hk
 ·rcases mem t ht with g | rfl
  ·exact h.x t g
  ·exact hx
 ·have:=Ziq (lt:=ltM) q [f];have:=h.n;show(addP ltM q [f]).length≤_;simp only [List.length_singleton] at *;omega
 ·rcases mem t ht with g | rfl
  ·exact(ordO o).tr _ _ _ (hp u hu) (h.g t g m hm)
  ·rw [he];exact hp u hu
theorem getD_set {α:Type} (l:List α) (i j:Nat) (x d:α) (h:i < l.length):(l.set i x).getD j d=if j=i then x else l.getD j d:=by
 simp only [List.getD_eq_getElem?_getD,List.getElem?_set];by_cases e:i=j
 ·subst e;rw [if_pos rfl,if_pos rfl,if_pos h];rfl
 ·rw [if_neg e,if_neg (λg=>e g.symm)]
theorem dvM_lt {o:Int} {s s':DS} (hs:SrtM s.p) (hb:∀t∈s.p,Bx o t.2) (hs':SrtM s'.p) (hb':∀t∈s'.p,Bx o t.2) (h0:s.p≠[]) (h:∀u∈s'.p,ltO o u.2 (ldO o s.p).2):dvM o s' < dvM o s:=by
 unfold dvM;rw [if_neg h0];by_cases e:s'.p=[]
 ·rw [if_pos e];omega
 ·rw [if_neg e];have m:=Zfm (o:=o) hs h0;have m':=Zfm (o:=o) hs' e;have:=en_lt (hb' _ m') (hb _ m) (hs'.dom _ m') (hs.dom _ m) (h _ m');omega
theorem Zs5 {o:Int} {p b:Po} {f:Tm} {k:Nat} (hp:SrtM p) (h0:p≠[]) (hb:BO b) (hx:∀t∈p,Bx o t.2) (hz:∀t∈p,Sz t.1 (10+8*k)) (h:Zfg o (ldO o p) b=some f) :
 f.1≠0∧Can f.2∧f.2.length≤3∧(∀j,gI f.2 j≤16)∧Sz f.1 (11+8*k)∧mulM (ldO o b).2 f.2=(ldO o p).2∧f.1=(ldO o p).1/(ldO o b).1:=by
 have m:=Zfm (o:=o) hp h0;have n:=Zfm (o:=o) hb.s hb.n;have c1:=hp.dom _ m;have c2:=hb.s.dom _ n;unfold Zfg at h;by_cases d:divI (ldO o b).2 (ldO o p).2=true
 ·rw [if_pos d] at h;have h:=Option.some.inj h;subst h;have n1:=(hp.1 _ m).1;have n2:=(hb.s.1 _ n).1;have em:=Zpm c1 c2 d;refine⟨?_,Zn2 c1 c2 d,?_,λj=>?_,((hz _ m).div (hb.z _ n)).mono (by omega),em,rfl⟩
  ·show(ldO o p).1/(ldO o b).1≠0;rw [Rat.div_def];intro e;rcases Rat.mul_eq_zero.1 e with e | e
   ·exact n1 e
   ·have:=Rat.mul_inv_cancel _ n2;rw [e,Rat.mul_zero] at this;exact absurd this (by decide)
  ·have h1:=Zd1 (ldO o b).2 (quoI (ldO o p).2 (ldO o b).2);rw [em] at h1;have:=(hx _ m).1;show(quoI (ldO o p).2 (ldO o b).2).length≤3;omega
  ·show gI (quoI _ _) j≤16;rw [Zpn d];have:=(hx _ m).e c1 j;have:=c2.1 j;omega
 ·rw [if_neg d] at h;cases h
theorem Zs7 {o:Int} {bs:List Po} {k:Nat} {s s':DS} (hb:∀b∈bs,BO b) (h:DI o bs k s) (hk:k≤20808) (h0:s.p≠[]) (hs:Zgu o bs s=some s'):DI o bs (k+1) s'∧dvM o s' < dvM o s:=by
 have m:=Zfm (o:=o) h.sp h0;have cm:=h.sp.dom _ m;have nm:=(h.sp.1 _ m).1;unfold Zgu at hs
 cases e:fstO o (ldO o s.p) bs with
 | none =>
   rw [e] at hs;simp only at hs;have hs1:SrtM [ldO o s.p]:=Srt.cons .nil nm cm (by simp);have low:∀v∈subM s.p [ldO o s.p],ltO o v.2 (ldO o s.p).2:=Zo7 h.sp hs1 h0 (λu hu=>by rw [List.mem_singleton] at hu;subst hu;exact .inl rfl) (by show(if (ldO o s.p).2=(ldO o s.p).2 then (ldO o s.p).1 else 0)+0=_;rw [if_pos rfl,Rat.add_zero]);have ss:=Znp ordM h.sp hs1;have mem:∀v∈subM s.p [ldO o s.p],v∈s.p:=λv hv=>by
    have c1:=Zg2 ss hv;rw [show cof (subP ltM s.p [ldO o s.p]) v.2=cof s.p v.2 - cof [ldO o s.p] v.2 from Zrk ordM h.sp hs1 v.2] at c1
    have cf:cof [ldO o s.p] v.2=0:=by
     show(if (ldO o s.p).2=v.2 then (ldO o s.p).1 else 0)+0=_;rw [if_neg (λg=>by have:=low v hv;rw [←g] at this;exact(ordO o).irr _ this),Rat.add_zero]
    rw [cf,Rat.sub_eq_add_neg,Rat.neg_zero,Rat.add_zero] at c1;obtain⟨u,hu,e2⟩:=Zjh (p:=s.p) (x:=v.2) (by rw [c1];exact(ss.1 v hv).1);have:=Zg2 h.sp hu;rw [e2,c1] at this;rw [show v=u from Prod.ext this e2.symm];exact hu
   by_cases g:bigP (addM s.r [ldO o s.p])=true
   ·rw [if_pos g] at hs;cases hs
   ·rw [if_neg g] at hs;have hs:=Option.some.inj hs;subst hs;have hbp:∀t∈subM s.p [ldO o s.p],Bx o t.2:=λt ht=>h.bp t (mem t ht);obtain⟨D,h1,h2,h3,h4,h5⟩:=h.c;have hB:65536 ^ (1+3*k)≤65536 ^ (1+3*(k+1)):=Nat.pow_le_pow_right (by omega) (by omega);refine⟨⟨ss,hbp,?_,h.lq,λt ht b hb'=>?_,D,h1,Nat.le_trans h2 (Nat.pow_le_pow_right (by omega) (by omega)),λt ht=>(h3 t (mem t ht)).mono (Nat.dvd_refl _) hB,λi hi=>(h4 i hi).mono (by omega) (Nat.dvd_refl _) hB m low,
     h5.add (Nat.dvd_refl _) hB m low nm cm ((h3 _ m).mono (Nat.dvd_refl _) hB) ⟨(h.bp _ m).1,(h.bp _ m).e cm⟩ (mulM_e cm)⟩,dvM_lt h.sp h.bp ss hbp h0 low⟩
    ·have h1:=Ziq (lt:=ltM) s.p (Zbe (-1) [ldO o s.p]);have h2:=h.lp;show(addP ltM s.p (Zbe (-1) [ldO o s.p])).length≤_;simp only [Zbe,List.map_cons,List.map_nil,List.length_singleton] at *;omega
    ·rcases h5.mem m nm cm (mulM_e cm) t ht with g | rfl
     ·exact h.hd t g b hb'
     ·have:=fst_no e b hb';unfold Zfg at this;cases d:divI (ldO o b).2 (ldO o s.p).2
      ·rfl
      ·rw [if_pos d] at this;cases this
 | some r =>
   obtain⟨i,f⟩:=r;rw [e] at hs;simp only at hs;obtain⟨hi,hf⟩:=Zp5 e;have hbi:BO (bs.getD i []):=hb _ (by rw [List.getD_eq_getElem?_getD,List.getElem?_eq_getElem hi];exact List.getElem_mem hi);obtain⟨f0,fc,fl,fe,fz,fm,fq⟩:=Zs5 h.sp h0 hbi h.bp h.sz hf;generalize hB0:bs.getD i []=b at *;rw [mlM_one hbi.s f0 fc] at hs;have n:=Zfm (o:=o) hbi.s hbi.n;have cn:=hbi.s.dom _ n;have ts:SrtM (Zat mulM b f):=Zd6 mulK hbi.s f0 fc;have low:∀v∈subM s.p (Zat mulM b f),ltO o v.2 (ldO o s.p).2:=Zo7 h.sp ts h0 (λu hu=>by
    obtain⟨w,hw,rfl⟩:=List.mem_map.1 hu;show mulM w.2 f.2=_∨ltO o (mulM w.2 f.2) _;rw [←fm];rcases Zsr (o:=o) hbi.s hw with g | g
    ·exact .inl (by rw [g])
    ·exact .inr (ltO_mul f.2 (hbi.s.dom _ hw) cn fc g)) (by
    have hin:((ldO o b).1*f.1,mulM (ldO o b).2 f.2)∈Zat mulM b f:=List.mem_map_of_mem n;have:=Zg2 ts hin;simp only at this;rw [fm] at this;rw [this,fq,Rat.div_def,Rat.mul_comm,Rat.mul_assoc,Rat.inv_mul_cancel _ (hbi.s.1 _ n).1,Rat.mul_one])
   have ss:=Znp ordM h.sp ts;have hbp:∀t∈subM s.p (Zat mulM b f),Bx o t.2:=λt ht=>by
    have old:∀w∈b,Bx o (mulM w.2 f.2):=λw hw=>by
     have g:Bx o (mulM (ldO o b).2 f.2):=by rw [fm];exact h.bp _ m
     exact bx_step (hbi.x _ hw).1 (hbi.x _ n).1 (hbi.s.dom _ hw) cn (hbi.x _ hw).2 (hbi.x _ n).2 (Zsr hbi.s hw) g
    rcases Zil ht with⟨u,hu,e3⟩
    rw [e3];rcases List.mem_append.1 hu with hu | hu
    ·exact h.bp u hu
    ·obtain⟨w,hw,rfl⟩:=List.mem_map.1 hu;obtain⟨v,hv,rfl⟩:=List.mem_map.1 hw;exact old v hv
   by_cases g:(bigP (subM s.p (Zat mulM b f)) || bigP (addM (s.q.getD i []) [f]))=true
   ·rw [if_pos g] at hs;cases hs
   ·rw [if_neg g] at hs;have hs:=Option.some.inj hs;subst hs;obtain⟨D,h1,h2,h3,h4,h5⟩:=h.c;obtain⟨E,g1,g2,g3,g4⟩:=den_div hbi.z hbi.l (hbi.z _ n) (hbi.s.1 _ n).1
    have hB:65536 ^ (1+3*k)+65536 ^ (1+3*k)*65536 ^ (2*1)≤65536 ^ (1+3*(k+1)):=by
     rw [show 1+3*(k+1)=(1+3*k)+3 by omega,Nat.pow_add 65536 (1+3*k) 3];have:0 < 65536 ^ (1+3*k):=Nat.pow_pos (by omega);generalize 65536 ^ (1+3*k)=X at *;have e1:(65536:Nat) ^ 3=281474976710656:=by decide
     have e2:(65536:Nat) ^ (2*1)=4294967296:=by decide
     rw [e1,e2];omega
    have hB1:65536 ^ (1+3*k)≤65536 ^ (1+3*(k+1)):=by omega
    have fB:BQ (D*E) (65536 ^ (1+3*(k+1))) f.1:=by
     rw [fq,Rat.div_def];exact((h3 _ m).mul g4).mono (Nat.dvd_refl _) (by omega)
    refine⟨⟨ss,hbp,?_,by simp only [List.length_set];exact h.lq,h.hd,D*E,Nat.mul_pos h1 g1,?_,λt ht=>(CQ.step h3 m g3 fq t ht).mono (Nat.dvd_refl _) hB,λj hj=>?_,h5.mono (by omega) (Nat.dvd_mul_right _ _) hB1 m low⟩,dvM_lt h.sp h.bp ss hbp h0 low⟩
    ·have h1:=Ziq (lt:=ltM) s.p (Zbe (-1) (Zat mulM b f));have h2:=h.lp;have h3:=hbi.l;show(addP ltM s.p (Zbe (-1) (Zat mulM b f))).length≤_;simp only [Zbe,Zat,List.length_map] at *;omega
    ·rw [show 8+5*(k+1)=(8+5*k)+(1*4+1) by omega,Nat.pow_add];exact Nat.mul_le_mul h2 g2
    ·show QO o _ _ _ _ _ ((s.q.set i _).getD j []);rw [getD_set _ _ _ _ _ (by rw [h.lq];exact hi)];by_cases ej:j=i
     ·subst ej;rw [if_pos rfl,hB0];have hq:=h4 j hj;rw [hB0] at hq;exact hq.add (Nat.dvd_mul_right _ _) hB1 m low f0 fc fB ⟨fl,fe⟩ (by rw [mulK.comm,fm])
     ·rw [if_neg ej];exact(h4 j hj).mono (by omega) (Nat.dvd_mul_right _ _) hB1 m low
theorem Zlu {o:Int} {s:DS} (h:s.p≠[]):0 < dvM o s:=by unfold dvM;rw [if_neg h];omega
theorem Zj9 {o:Int} {bs:List Po} (hb:∀b∈bs,BO b):∀(d:Nat) (k:Nat) (s:DS),dvM o s≤d→DI o bs k s→k+dvM o s≤20809→∀n m,dvM o s≤n→dvM o s≤m→Zj5 o bs n s=Zj5 o bs m s
 | 0,k,s,hd,h,hk,n,m,hn,hm=>by
   have h0:s.p=[]:=Classical.byContradiction λg=>by have:=Zlu (o:=o) g;omega
   cases n<;>cases m<;>simp only [Zj5,if_pos h0]
 | d+1,k,s,hd,h,hk,n,m,hn,hm=>by
   by_cases h0:s.p=[]
   ·cases n<;>cases m<;>simp only [Zj5,if_pos h0]
   ·have:=Zlu (o:=o) h0;obtain⟨n,rfl⟩:∃i,n=i+1:=⟨n - 1,by omega⟩;obtain⟨m,rfl⟩:∃i,m=i+1:=⟨m - 1,by omega⟩;simp only [Zj5,if_neg h0]
    cases e:Zgu o bs s with
    | none=>rfl
    | some s' =>
      obtain⟨g1,g2⟩:=Zs7 hb h (by omega) h0 e;exact Zj9 hb d (k+1) s' (by omega) g1 (by omega) n m (by omega) (by omega)
def Zfr (o:Int) (bs:List Po) (s:DS):Option DS:=Zj5 o bs (dvM o s) s
theorem Zs8 {o:Int} {bs:List Po} {s:DS} (h:s.p=[]):Zfr o bs s=some s:=by
 unfold Zfr;cases dvM o s<;>simp only [Zj5,if_pos h]
theorem Zng {o:Int} {bs:List Po} {s:DS} (h0:s.p≠[]) (h:Zgu o bs s=none):Zfr o bs s=none:=by
 unfold Zfr;have:=Zlu (o:=o) h0;obtain⟨n,e⟩:∃i,dvM o s=i+1:=⟨dvM o s - 1,by omega⟩;rw [e];simp only [Zj5,if_neg h0,h,Option.bind_none]
theorem Zkp {o:Int} {bs:List Po} {k:Nat} {s s':DS} (hb:∀b∈bs,BO b) (h:DI o bs k s) (hk:k+dvM o s≤20809) (h0:s.p≠[]) (e:Zgu o bs s=some s'):Zfr o bs s=Zfr o bs s'∧DI o bs (k+1) s'∧k+1+dvM o s'≤20809∧dvM o s' < dvM o s:=by
 have:=Zlu (o:=o) h0;obtain⟨g1,g2⟩:=Zs7 hb h (by omega) h0 e;refine⟨?_,g1,by omega,g2⟩;unfold Zfr;obtain⟨n,e2⟩:∃i,dvM o s=i+1:=⟨dvM o s - 1,by omega⟩;rw [e2];simp only [Zj5,if_neg h0,e,Option.bind_some];exact Zj9 hb (dvM o s') (k+1) s' (Nat.le_refl _) g1 (by omega) _ _ (by omega) (Nat.le_refl _)
theorem rep_get {α:Type} (n i:Nat) (x:α):(List.replicate n x).getD i x=x:=by
 rw [List.getD_eq_getElem?_getD,List.getElem?_replicate];by_cases h:i < n
 ·rw [if_pos h];rfl
 ·rw [if_neg h];rfl
theorem dv_start {o:Int} {bs:List Po} {p:Po} (hp:SrtM p) (hl:p.length≤8) (hz:∀t∈p,Sz t.1 1) (hx:∀t∈p,t.2.length≤3∧dgI t.2≤4):DI o bs 0 ⟨p,List.replicate bs.length [],[]⟩∧0+dvM o ⟨p,List.replicate bs.length [],[]⟩≤20809:=by
 have nilQ:∀l D,QO o p l 0 D (65536 ^ (1+3*0)) []:=λl D=>⟨.nil,λt h=>absurd h (by simp),λt h=>absurd h (by simp),Nat.le_refl _,λt h=>absurd h (by simp)⟩;have hb:∀t∈p,Bx o t.2:=λt ht=>bx_start (hx t ht).1 (hp.dom t ht) (hx t ht).2;refine⟨⟨hp,hb,by show p.length≤_;omega,by simp,λt h=>absurd h (by simp),?_⟩,?_⟩
 ·obtain⟨D,h1,h2,h3⟩:=Zov p hz;refine⟨D,h1,Nat.le_trans h2 (Nat.pow_le_pow_right (by omega) (by omega)),h3,λi hi=>?_,nilQ _ _⟩;show QO o p _ _ _ _ ((List.replicate bs.length []).getD i []);rw [rep_get];exact nilQ _ _
 ·unfold dvM;by_cases e:p=[]
  ·simp only [e,if_true];omega
  ·simp only [if_neg e];have m:=Zfm (o:=o) hp e;have:=en_le (hb _ m) (hp.dom _ m);omega
def cofS (x:List Int):List Po→List Po→Rat
 | b :: bs,q :: qs=>cofM mulM b q x+cofS x bs qs
 | _,_=>0
def totO (bs:List Po) (s:DS) (x:List Int):Rat:=cof s.p x+cofS x bs s.q+cof s.r x
end Go.Proofs.YtimmnimikmnljaaGreat
namespace Go.Proofs.YtimmnimikmnljaaGreat
open Go Go.RowKit Go.Pg Go.Pol
attribute [-bool_to_prop] Bool.and_eq_decide Bool.or_eq_decide Bool.decide_beq_decide decide_eq_decide
structure RS where
 k:Int
 nm:ByteArray
 ar:List Int
 r:RQ
structure RG where
 k:Int
 ar:List Int
 r:RQ
abbrev RS.av (s:RS):AV:=.agg [iv s.k,strA s.nm,ivs s.ar,.v (.bool s.r.s),lim s.r.l,lim s.r.d]
abbrev RG.av (g:RG):AV:=.agg [iv g.k,ivs g.ar,.v (.bool g.r.s),lim g.r.l,lim g.r.d]
abbrev figA (ss:List RS) (gs:List RG):AV:=.agg [.sl 6 (ss.map RS.av),.sl 5 (gs.map RG.av)]
def RQ.none (r:RQ):Bool:=!r.s && (decide (r.l.length=0) && decide (r.d.length=0))
structure FS where
 cs:List (Po × Po)
 vs:List Vt
 fr:Nat
abbrev coA (c:Po × Po):AV:=.agg [poA c.1,poA c.2]
def FS.at (f:FS) (s:RS) (k:Nat):Po × Po:=f.cs.getD (gI s.ar k).toNat ([],[])
def FS.nxt (f:FS) (i:Nat) (s:RS):List Vt × (Po × Po) :=
 let v:=f.vs.length
 let a:=f.at s 0
 let b:=f.at s 1
 let c:=f.at s 2
 if s.k=1 then
  (if f.fr=0 then ([],([],[]))
   else if f.fr=1 then ([(1,(i:Int),0)],(varM v,[]))
   else ([(1,(i:Int),0),(1,(i:Int),1)],(varM v,varM (v+1))))
 else if s.k=2 then ([],(addM a.1 (sclM s.r.q (subM b.1 a.1)),addM a.2 (sclM s.r.q (subM b.2 a.2))))
 else if s.k=3 then ([],(addM a.1 (subM c.1 b.1),addM a.2 (subM c.2 b.2)))
 else if s.k=4 then ([],(addM a.1 (subM b.2 c.2),addM a.2 (subM c.1 b.1)))
 else if s.k=5 then ([(1,(i:Int),0)],(addM a.1 (mlM (subM b.1 a.1) (varM v)),addM a.2 (mlM (subM b.2 a.2) (varM v))))
 else if s.k=6 then ([(1,(i:Int),0),(2,(i:Int),1),(2,(i:Int),2)],(varM (v+1),varM (v+2)))
 else ([(2,(i:Int),0),(2,(i:Int),1)],(varM v,varM (v+1)))
def FS.push (f:FS) (i:Nat) (s:RS):FS:=⟨f.cs++[(f.nxt i s).2],f.vs++(f.nxt i s).1,if s.k=1 then f.fr+1 else f.fr⟩
def frN (ss:List RS):Nat→FS
 | 0=>⟨[],[],0⟩
 | i+1=>(frN ss i).push i (ss.getD i ⟨0,.empty,[],⟨false,[],[]⟩⟩)
def bigN (ss:List RS) (i:Nat):Bool :=
 decide (64 < (frN ss (i+1)).vs.length) || decide (4000 < ((frN ss i).nxt i (ss.getD i ⟨0,.empty,[],⟨false,[],[]⟩⟩)).2.1.length) || decide (4000 < ((frN ss i).nxt i (ss.getD i ⟨0,.empty,[],⟨false,[],[]⟩⟩)).2.2.length)
def BB (n:Nat):Nat:=65536 ^ (3*n)
theorem BB_pos (n:Nat):1≤BB n:=Nat.one_le_pow _ _ (by omega)
theorem BB_succ (n:Nat):BB (n+1)=BB n*65536 ^ 3:=by unfold BB;rw [←Nat.pow_add];rfl
def GP (n D v:Nat) (p:Po):Prop:=SrtM p∧∀t∈p,BQ D (BB n) t.1∧t.2.length≤v∧∀j,gI t.2 j≤1
theorem GP.nil {n D v:Nat}:GP n D v []:=⟨.nil,λt h=>by simp at h⟩
theorem GP.mono {n D v m E w:Nat} {p:Po} (h:GP n D v p) (hn:n≤m) (hd:D ∣ E) (hv:v≤w):GP m E w p :=
 ⟨h.1,λt ht=>⟨(h.2 t ht).1.mono hd (Nat.pow_le_pow_right (by omega) (by omega)),by have:=(h.2 t ht).2.1;omega,(h.2 t ht).2.2⟩⟩
theorem bq_sz {D B d b:Nat} {q:Rat} (h:BQ D B q) (h0:D≠0) (hd:D < 65536 ^ d) (hb:B < 65536 ^ b):Sz q (d+b):=by
 have h1:q.den≤D:=Nat.le_of_dvd (Nat.pos_of_ne_zero h0) h.1;refine⟨Zah.2 ?_,Nat.le_trans (Zah.2 (Nat.lt_of_le_of_lt h1 hd)) (by omega)⟩;have hp:0 < q.den:=q.den_pos
 calc q.num.natAbs≤B*q.den:=h.2
  _≤B*D:=Nat.mul_le_mul_left _ h1
  _ < 65536 ^ b*65536 ^ d:=Nat.mul_lt_mul_of_lt_of_lt hb hd
  _=65536 ^ (d+b):=by rw [Nat.mul_comm,←Nat.pow_add]
theorem GP.pk {n D v:Nat} {p:Po} (h:GP n D v p) (hv:v≤1000) (h0:D≠0) (hd:D < 65536 ^ (2*n+1)) (hn:n≤20):PK p 110 1:=λt ht=>by
 obtain⟨h1,h2,h3⟩:=h.2 t ht;refine⟨(bq_sz (b:=3*n+1) h1 h0 hd (by unfold BB;exact Nat.pow_lt_pow_right (by omega) (by omega))).mono (by omega),by omega,λj=>⟨(h.1.1 t ht).2.1 j,h3 j⟩⟩
def GB (B D v:Nat) (p:Po):Prop:=SrtM p∧∀t∈p,BQ D B t.1∧t.2.length≤v∧∀j,gI t.2 j≤1
theorem GB.mono {B D v C E w:Nat} {p:Po} (h:GB B D v p) (hn:B≤C) (hd:D ∣ E) (hv:v≤w):GB C E w p :=
 ⟨h.1,λt ht=>⟨(h.2 t ht).1.mono hd hn,by have:=(h.2 t ht).2.1;omega,(h.2 t ht).2.2⟩⟩
theorem GB.add {B C D v:Nat} {p q:Po} (h:GB B D v p) (k:GB C D v q):GB (B+C) D v (addM p q):=by
 refine⟨Zeo ordM h.1 k.1,λt ht=>?_⟩;rcases Zhh ht with h1 | h1 | ⟨s,hs,u,hu,rfl⟩
 ·exact⟨(h.2 t h1).1.mono (Nat.dvd_refl _) (by omega),(h.2 t h1).2⟩
 ·exact⟨(k.2 t h1).1.mono (Nat.dvd_refl _) (by omega),(k.2 t h1).2⟩
 ·exact⟨(h.2 s hs).1.add (k.2 u hu).1,(h.2 s hs).2⟩
theorem GB.neg {B D v:Nat} {p:Po} (h:GB B D v p):GB B D v (Zbe (-1) p):=by
 refine⟨Zd8 h.1 neg1,λt ht=>?_⟩;obtain⟨s,hs,rfl⟩:=List.mem_map.1 ht;refine⟨?_,(h.2 s hs).2⟩;have e:s.1*-1=-s.1:=by grind
 show BQ D B (s.1*-1);rw [e];exact(h.2 s hs).1.neg
theorem GB.sub {B C D v:Nat} {p q:Po} (h:GB B D v p) (k:GB C D v q):GB (B+C) D v (subM p q):=h.add k.neg
theorem GB.scl {B C D E v:Nat} {p:Po} {a:Rat} (h:GB B D v p) (ha:BQ E C a):GB (B*C) (D*E) v (sclM a p):=by
 unfold sclM;split
 ·exact⟨.nil,λt h=>by simp at h⟩
 ·rename_i h0;refine⟨Zd8 h.1 h0,λt ht=>?_⟩;obtain⟨s,hs,rfl⟩:=List.mem_map.1 ht;exact⟨(h.2 s hs).1.mul ha,(h.2 s hs).2⟩
theorem mul_var (p:Po) (v:Nat):mlM p (varM v)=if v < 64 then Zat mulM p (1,Zgo v) else []:=by
 unfold varM;split
 ·show addP ltM [] (Zat mulM p (1,Zgo v))=_;simp [addP]
 ·rfl
theorem GB.var {B D v:Nat} {p:Po} (h:GB B D v p):GB B D (v+1) (mlM p (varM v)):=by
 refine⟨Zhg ordM mulK h.1 (Zoy v),λt ht=>?_⟩;rw [mul_var] at ht;split at ht
 ·obtain⟨s,hs,rfl⟩:=List.mem_map.1 ht;obtain⟨h1,h2,h3⟩:=h.2 s hs;refine⟨by show BQ D B (s.1*1);rw [Rat.mul_one];exact h1,by show(mulM s.2 (Zgo v)).length≤v+1;rw [Zd1,Zfu];omega,λj=>?_⟩;show gI (mulM s.2 (Zgo v)) j≤1;rw [Zde _ rfl,Zlr];split
  ·rename_i hj;rw [Zbg (by omega)];omega
  ·have:=h3 j;omega
 ·simp at ht
theorem GB.one {B D v w:Nat} (hB:1≤B) (h:v < w):GB B D w (varM v):=by
 refine⟨Zoy v,λt ht=>?_⟩;unfold varM at ht;split at ht
 ·rw [List.mem_singleton] at ht;subst ht;refine⟨BQ.int 1 (by simpa using hB),by show(Zgo v).length≤w;rw [Zfu];omega,λj=>?_⟩;show gI (Zgo v) j≤1;rw [Zlr];split<;>omega
 ·simp at ht
theorem GB.nil {B D v:Nat}:GB B D v []:=⟨.nil,λt h=>by simp at h⟩
structure FI (f:FS) (n D:Nat):Prop where
 D0:D≠0
 Dl:D < 65536 ^ (2*n+1)
 nv:f.vs.length≤64
 cs:∀c∈f.cs,GP n D f.vs.length c.1∧GP n D f.vs.length c.2
 ln:∀c∈f.cs,c.1.length≤4000∧c.2.length≤4000
theorem FI.at {f:FS} {n D:Nat} (h:FI f n D) (s:RS) (k:Nat):(GP n D f.vs.length (f.at s k).1∧GP n D f.vs.length (f.at s k).2)∧(f.at s k).1.length≤4000∧(f.at s k).2.length≤4000:=by
 unfold FS.at;by_cases hk:(gI s.ar k).toNat < f.cs.length
 ·have:=getD_mem (d:=(([],[]):Po × Po)) hk;exact⟨h.cs _ this,h.ln _ this⟩
 ·rw [List.getD_eq_getElem?_getD,List.getElem?_eq_none (by omega)];exact⟨⟨.nil,.nil⟩,by simp,by simp⟩
def RQ.bd (r:RQ):Prop:=r.ok=true→r.q.den < 65536 ^ 2∧r.q.num.natAbs < 65536 ^ 2
theorem FI.nxt {f:FS} {n D:Nat} (h:FI f n D) (i:Nat) (s:RS) (hr:s.k=2→s.r.ok=true) (hb:s.r.bd) :
 ∃E,E≠0∧D ∣ E∧E < 65536 ^ (2*(n+if s.k=1 then 0 else 1)+1) ∧
  GP (n+if s.k=1 then 0 else 1) E (f.vs++(f.nxt i s).1).length (f.nxt i s).2.1∧GP (n+if s.k=1 then 0 else 1) E (f.vs++(f.nxt i s).1).length (f.nxt i s).2.2:=by
 obtain⟨⟨a1,a2⟩,-⟩:=h.at s 0;obtain⟨⟨b1,b2⟩,-⟩:=h.at s 1;obtain⟨⟨c1,c2⟩,-⟩:=h.at s 2;have hB:=BB_pos n;have hS:=BB_succ n;unfold FS.nxt;simp only;have one:∀v w,v < w→GP n D w (varM v):=λv w hv=>GB.one hB hv;have up:∀{E v:Nat} {p:Po} {C:Nat},GB C E v p→C≤BB n*65536 ^ 3→GP (n+1) E v p:=λh hc=>GB.mono h (by rw [hS];exact hc) (Nat.dvd_refl _) (Nat.le_refl _);have dl:D < 65536 ^ (2*(n+1)+1):=Nat.lt_of_lt_of_le h.Dl (Nat.pow_le_pow_right (by omega) (by omega))
 have b3:BB n+(BB n+BB n)≤BB n*65536 ^ 3:=by
  have:BB n*3≤BB n*65536 ^ 3:=Nat.mul_le_mul_left _ (by decide);omega
 by_cases k1:s.k=1
 ·rw [if_pos k1,if_pos k1];refine⟨D,h.D0,Nat.dvd_refl _,h.Dl,?_⟩;split
  ·exact⟨.nil,.nil⟩
  ·split
   ·exact⟨one _ _ (by simp),.nil⟩
   ·exact⟨one _ _ (by simp),one _ _ (by simp)⟩
 ·rw [if_neg k1,if_neg k1];by_cases k2:s.k=2
  ·rw [if_pos k2];obtain⟨h1,h2⟩:=hb (hr k2);refine⟨D*s.r.q.den,Nat.mul_ne_zero h.D0 s.r.q.den_nz,Nat.dvd_mul_right _ _,?_,?_⟩
   ·calc D*s.r.q.den < 65536 ^ (2*n+1)*65536 ^ 2:=Nat.mul_lt_mul_of_lt_of_lt h.Dl h1
     _=65536 ^ (2*(n+1)+1):=by rw [←Nat.pow_add];congr 1
   ·have hq:BQ s.r.q.den (65536 ^ 2) s.r.q:=⟨Nat.dvd_refl _,by have:=s.r.q.den_pos;have:=Nat.le_mul_of_pos_right (65536 ^ 2) this;omega⟩
    have bd:BB n+(BB n+BB n)*65536 ^ 2≤BB n*65536 ^ 3:=by
     have e1:(BB n+BB n)*65536 ^ 2=BB n*(2*65536 ^ 2):=by rw [←Nat.mul_two,Nat.mul_assoc]
     rw [e1];have:BB n*(1+2*65536 ^ 2)≤BB n*65536 ^ 3:=Nat.mul_le_mul_left _ (by decide);omega
    rw [List.append_nil];exact⟨up ((GB.mono a1 (Nat.le_refl _) (Nat.dvd_mul_right _ _) (Nat.le_refl _)).add ((GB.sub b1 a1).scl hq)) bd,up ((GB.mono a2 (Nat.le_refl _) (Nat.dvd_mul_right _ _) (Nat.le_refl _)).add ((GB.sub b2 a2).scl hq)) bd⟩
  ·rw [if_neg k2];refine⟨D,h.D0,Nat.dvd_refl _,dl,?_⟩;have one':∀v w,v < w→GP (n+1) D w (varM v):=λv w hv=>GB.one (BB_pos _) hv;by_cases k3:s.k=3
   ·rw [if_pos k3,List.append_nil];exact⟨up (GB.add a1 (GB.sub c1 b1)) b3,up (GB.add a2 (GB.sub c2 b2)) b3⟩
   ·rw [if_neg k3];by_cases k4:s.k=4
    ·rw [if_pos k4,List.append_nil];exact⟨up (GB.add a1 (GB.sub b2 c2)) b3,up (GB.add a2 (GB.sub c1 b1)) b3⟩
    ·rw [if_neg k4];by_cases k5:s.k=5
     ·rw [if_pos k5];have e:(f.vs++[(1,(i:Int),0)]).length=f.vs.length+1:=by simp
      rw [e];exact⟨up (GB.add (GB.mono a1 (Nat.le_refl _) (Nat.dvd_refl _) (by omega)) (GB.sub b1 a1).var) b3,up (GB.add (GB.mono a2 (Nat.le_refl _) (Nat.dvd_refl _) (by omega)) (GB.sub b2 a2).var) b3⟩
     ·rw [if_neg k5];by_cases k6:s.k=6
      ·rw [if_pos k6];exact⟨one' _ _ (by simp),one' _ _ (by simp)⟩
      ·rw [if_neg k6];exact⟨one' _ _ (by simp),one' _ _ (by simp)⟩
def nfN (ss:List RS):Nat→Nat
 | 0=>0
 | i+1=>nfN ss i+if (ss.getD i ⟨0,.empty,[],⟨false,[],[]⟩⟩).k=1 then 0 else 1
end Go.Proofs.YtimmnimikmnljaaGreat
namespace Go.Pg
open Go Go.RowKit Go.Lib
section
variable {P:Program} {n:Nat}
structure ItS (c:Cx) (n:Nat) (s:ByteArray) (tI:Nat) (J:Nat→(Nat→AV)→Prop) (pos:Nat) (a:Act) (w:World):Prop where
 h:∃e imm g,Rel c n ⟨e,Zan⟩ a w imm∧w.heap[g]?=some (.stringIter s pos)∧c.B≤g∧(∀ad,imm ad→ad.block≠g)∧e tI=.v (.pointer (some ⟨g,0,none⟩))∧J pos e
end
end Go.Pg
namespace Go.Proofs.YtimmnimikmnljaaGreat
open Go Go.RowKit Go.Pg
attribute [-bool_to_prop] Bool.and_eq_decide Bool.or_eq_decide Bool.decide_beq_decide decide_eq_decide
attribute [local go_sem] Tryz.underlying3 Tryz.underlying4 Tryz.underlying5 Tryz.underlying9 sz3 by3 z3 szStr byStr zStr
def kwL:List ByteArray:=[
 ⟨#[97,110,103,108,101]⟩,
 ⟨#[97,112,101,120]⟩,
 ⟨#[98,105,115,101,99,116,111,114]⟩,
 ⟨#[99,101,110,116,101,114]⟩,
 ⟨#[99,105,114,99,108,101]⟩,
 ⟨#[99,105,114,99,117,109]⟩,
 ⟨#[99,111,108,108,105,110,101,97,114]⟩,
 ⟨#[99,111,109,109,111,110]⟩,
 ⟨#[99,111,110,99,121,99,108,105,99]⟩,
 ⟨#[99,111,110,103,114,117,101,110,116]⟩,
 ⟨#[99,114,111,115,115]⟩,
 ⟨#[99,117,116]⟩,
 ⟨#[100,105,118,105,100,101]⟩,
 ⟨#[102,111,111,116]⟩,
 ⟨#[108,105,110,101]⟩,
 ⟨#[109,101,101,116]⟩,
 ⟨#[109,105,100,112,111,105,110,116]⟩,
 ⟨#[109,105,114,114,111,114]⟩,
 ⟨#[111,110]⟩,
 ⟨#[111,116,104,101,114]⟩,
 ⟨#[112,97,114,97,108,108,101,108]⟩,
 ⟨#[112,101,114,112,101,110,100,105,99,117,108,97,114]⟩,
 ⟨#[112,111,105,110,116,115]⟩,
 ⟨#[112,114,111,118,101]⟩,
 ⟨#[114,97,116,105,111]⟩,
 ⟨#[114,101,102,108,101,99,116]⟩,
 ⟨#[115,97,109,101]⟩,
 ⟨#[115,104,105,102,116]⟩,
 ⟨#[116,117,114,110]⟩]
def letB (c:Nat):Bool:=decide (97≤c∧c≤122) || decide (65≤c∧c≤90)
def digB (c:Nat):Bool:=decide (48≤c∧c≤57)
def gB (s:ByteArray) (k:Nat):Nat:=(s.data.toList.getD k 0).toNat
def namB (s:ByteArray):Bool:=decide (0 < s.size∧s.size≤20) && (letB (gB s 0) && ((List.range s.size).all (λk=>letB (gB s k) || digB (gB s k)) && !(kwL.any λw=>w.toList == s.toList)))
end Go.Proofs.YtimmnimikmnljaaGreat
namespace Go.Proofs.YtimmnimikmnljaaGreat
open Go Go.RowKit Go.Pg Go.Pol
attribute [-bool_to_prop] Bool.and_eq_decide Bool.or_eq_decide Bool.decide_beq_decide decide_eq_decide
def arS (k:Int):Int :=
 if k=1 then 0 else if k=2∨k=5∨k=6∨k=14 then 2 else if k=3∨k=4∨k=7∨k=8∨k=10∨k=11 then 3 else if k=9∨k=12∨k=13 then 4 else -1
def arG (k:Int):Int :=
 if k=8 then 2 else if k=1∨k=5 then 3 else if k=2∨k=3∨k=4∨k=6∨k=9 then 4 else if k=7 then 8 else 0
def outB (n:Int) (l:List Int):Bool:=l.any λa=>decide (a < 0) || decide (n≤a)
abbrev RS.zero:RS:=⟨0,.empty,[],⟨false,[],[]⟩⟩
def errS (ss:List RS) (i:Nat):Int :=
 let s:=ss.getD i RS.zero
 if arS s.k < 0 then 8
 else if (s.ar.length:Int)≠arS s.k then 1
 else if outB (i:Int) s.ar=true then 2
 else if (s.k=2∧s.r.ok=false)∨(s.k≠2∧s.r.none=false) then 1
 else if s.nm.size=0 then 0
 else if namB s.nm=false then 6
 else if (ss.take i).any (λt=>t.nm.toList == s.nm.toList)=true then 7
 else 0
def errG (g:RG) (n:Nat):Int :=
 if arG g.k=0 then 8
 else if (g.ar.length:Int)≠arG g.k then 1
 else if outB (n:Int) g.ar=true then 2
 else if (g.k=9∧g.r.ok=false)∨(g.k≠9∧g.r.none=false) then 1
 else 0
def fstE (f:Nat→Int):Nat→Int
 | 0=>0
 | n+1=>if fstE f n≠0 then fstE f n else f n
def figE (ss:List RS) (gs:List RG):Int :=
 if 40 < ss.length∨8 < gs.length then 4
 else if fstE (errS ss) ss.length≠0 then fstE (errS ss) ss.length
 else fstE (λi=>errG (gs.getD i ⟨0,[],⟨false,[],[]⟩⟩) ss.length) gs.length
def frame (ss:List RS) (gs:List RG):List (Po × Po) × List Vt × Int :=
 if figE ss gs≠0 then ([],[],figE ss gs)
 else if (List.range ss.length).any (bigN ss)=true then ([],[],4)
 else ((frN ss ss.length).cs,(frN ss ss.length).vs,0)
attribute [local go_sem] Tryz.underlying3 Tryz.underlying4 Tryz.underlying44 Tryz.underlying42 Tryz.underlying40 Tryz.underlying48 Tryz.underlying22 Tryz.underlying46 Tryz.underlying23 Tryz.underlying24 sz3 by3 z3 Zco zRat Zcq zInt Zcp zNat Zb3 Zb8 Zc5 Zb5 Zca Zc7 Zb4 Zb9 Zc6
theorem Zey {q:Rat}:(q.num.sign=0)=(q=0):=by rw [Int.sign_eq_zero_iff_zero,Rat.num_eq_zero]
theorem poLex (s t:Tm) (hs:Sm s.2) (ht:Sm t.2):Pure Tryz.prog 44 [tmA s,tmA t] (iv (lexC s.2 t.2 (max s.2.length t.2.length))):=by
 have c:Pure Tryz.prog 51 [ivs s.2,ivs t.2,iv 0] (iv (cmpI s.2 t.2 0)):=Zpy s.2 t.2 0 hs ht;have e:cmpI s.2 t.2 0=lexC s.2 t.2 (max s.2.length t.2.length):=by unfold cmpI;rw [if_neg (by omega)]
 rw [e] at c;obtain⟨q,a⟩:=s;obtain⟨r,b⟩:=t;simp only at *;generalize lexC a b (max a.length b.length)=x at *;refine Zaa (tok:=0) Tryz.func44 rfl Tryz.ntmps44 Tryz.results44 Tryz.call44 (by rfl) (by simp) ?_;(focus (refine wklp w_t (w_1 c) w_t (w_r 0) ?_;(repeat' first|exact w_t|apply w_l);all_goals intros))
theorem poAdded (s t:Tm) {j k:Nat} (hs:Sz s.1 j) (ht:Sz t.1 k) (hj:j≤1000000) (hk:k≤1000000):Pure Tryz.prog 46 [tmA s,tmA t] (.tup [tmA (s.1+t.1,s.2),.v (.bool (!decide ((s.1+t.1).num.sign=0)))]):=by
 have c:=Zr0 s.1 t.1 hs ht (by omega) (by omega);have cs:=Zi2 (s.1+t.1) (hs.add ht) (by omega);obtain⟨q,a⟩:=s;obtain⟨r,b⟩:=t;simp only at *;generalize q+r=x at *;refine Zaa (tok:=0) Tryz.func46 rfl Tryz.ntmps46 Tryz.results46 Tryz.call46 (by rfl) (by simp) ?_
 (repeat' (first|(with_reducible first|refine stp ?_|apply gx1|apply gx2|apply gx3|apply gx4|apply gx5|apply gx6|apply gx7|apply gy8|apply gz2|apply gz3|refine gw0 (c) ?_ ?_|refine gw3 (c) ?_ ?_ ?_|refine gw0 (cs) ?_ ?_|refine gw3 (cs) ?_ ?_ ?_)|(with_reducible refine Zbi ?_;intro _)|((with_reducible refine gE ?_);(try simp (disch:=omega) only [go_sem])<;>first|rfl|omega)|with_reducible refine Zaf (by decide) ?_|((with_reducible apply gy1);iterate 3 focus rfl)|((with_reducible apply gy2);iterate 3 focus rfl)|((with_reducible apply gy3);iterate 2 focus rfl)|((with_reducible apply gy4);iterate 1 focus rfl)|((with_reducible apply gy5);iterate 4 focus rfl)|((with_reducible apply gy5c);iterate 4 focus rfl)|((with_reducible apply gy6);iterate 4 focus rfl)|((with_reducible apply Zc0);iterate 3 focus rfl)|((with_reducible apply Zcx);iterate 1 focus rfl)|((with_reducible apply gy7);iterate 1 focus rfl)|((with_reducible apply gy9);(focus ((with_reducible refine gE ?_);(try simp (disch:=omega) only [go_sem])<;>rfl)))|((with_reducible apply gz1);(focus first|rfl|(simp (disch:=omega) only [go_sem];done)))|((with_reducible apply Za2 (Zce [(5,.v (.int .i64 x.num.sign))]) [] [4]);(focus kernel_rfl);(focus rfl);(focus kernel_rfl);(focus (simp only [List.length_cons,List.length_nil,Nat.reduceAdd];rfl)))))
 (all_goals (try simp (disch:=omega) only [go_sem,decide_eq_true,decide_eq_false,if_pos,if_neg,Int.reduceAdd,Int.reduceSub,Int.reduceToNat,Int.zero_add]));(all_goals first|done|rfl|(congr 2;first|done|omega|(rw [Bool.eq_iff_iff];simp only [bool_to_prop,Bool.false_eq_true,iff_true,true_iff,iff_false,false_iff];omega))|skip)
theorem Zni {p q:Po} {i k:Nat} (hi:i < p.length) (hk:k < q.length):addM (p.drop i) (q.drop k) =
 if ltM q[k].2 p[i].2 then p[i] :: addM (p.drop (i+1)) (q.drop k) else if ltM p[i].2 q[k].2 then q[k] :: addM (p.drop i) (q.drop (k+1))
 else if p[i].1+q[k].1=0 then addM (p.drop (i+1)) (q.drop (k+1)) else (p[i].1+q[k].1,p[i].2) :: addM (p.drop (i+1)) (q.drop (k+1)):=by
 rw [List.drop_eq_getElem_cons hi,List.drop_eq_getElem_cons hk];rw [show addM (p[i] :: p.drop (i+1)) (q[k] :: q.drop (k+1))=_ from by unfold addM;rw [addP]]
theorem Zir {p q:Po} {i k:Nat} (h:p.length≤i∨q.length≤k):addM (p.drop i) (q.drop k)=p.drop i++q.drop k:=by
 rcases h with h | h
 ·rw [List.drop_eq_nil_of_le h];simp [addM,addP]
 ·rw [List.drop_eq_nil_of_le h,List.append_nil];exact addP_nil _
theorem poMerge (p q:Po) {j k e:Nat} (hp:PK p j e) (hq:PK q k e) (sp:SrtM p) (sq:SrtM q) (lp:p.length≤1000000) (lq:q.length≤1000000) (hj:j≤1000000) (hk:k≤1000000) (he:e≤16777216) :
 Pure Tryz.prog 45 [poA p,poA q,.fn 44 [],.fn 46 []] (poA (addM p q)):=by
 refine Zaa (tok:=0) Tryz.func45 rfl Tryz.ntmps45 Tryz.results45 Tryz.call45 (by rfl) (by simp) ?_;(focus (refine wkad (w_1 @Zbb) w_t w_t ?_;(repeat' first|exact w_t|apply w_l);all_goals intros));rename_i sv0;refine Zal (ι:=Nat × Nat) (λx e m=>x.1≤p.length∧x.2≤q.length∧e 0=poA p∧e 1=poA q∧e 2=.fn 44 []∧e 3=.fn 46 []∧e 10=iv x.1∧e 11=iv x.2∧∃sv out,e 9=.own 20 sv∧m 20=some (.row sv 48 4 (out.map tmA) 0)∧out.length≤x.1+x.2∧addM p q=out++addM (p.drop x.1) (q.drop x.2)) (λx=>p.length+q.length - (x.1+x.2)) (0,0) (by rfl) ?_ ?_
 ·rintro ⟨i,l⟩ e m ⟨hi,hl,e0,e1,e2,e3,e10,e11,sv,out,e9,em,ho,hs⟩
  simp only at hi hl e10 e11 ho hs;by_cases hil:i < p.length∧l < q.length
  ·obtain⟨hi2,hl2⟩:=hil;have hg:=Zbu tmA hi2;have hh:=Zbu tmA hl2;have st:=Zni hi2 hl2;have ms:=hp _ (List.getElem_mem hi2);have mt:=hq _ (List.getElem_mem hl2);have m1:=hp.sm he (List.getElem_mem hi2);have m2:=hq.sm he (List.getElem_mem hl2);have d1:=sp.dom _ (List.getElem_mem hi2);have d2:=sq.dom _ (List.getElem_mem hl2);generalize p[i]=s at *;generalize q[l]=t at *;have cl:=poLex s t m1 m2;have ca:=poAdded s t ms.1 mt.1 hj hk;have hlen:(out.map tmA).length=out.length:=List.length_map ..;rw [st] at hs;rcases Zhy d1 d2 with⟨h1,h2⟩ | ⟨h1,h1',h2,h3⟩ | ⟨h1,h1',h2⟩
   ·have h3:¬ltM t.2 s.2:=λh=>ordM.irr _ (ordM.tr _ _ _ h h1);rw [if_neg h3,if_pos h1] at hs;rw [h2] at cl;clear st ms mt m1 m2 d1 d2 ca;(focus (refine wkad (w_11 e0 e1 e2 e3 e9 e10 e11 em hg hh @Zbb) (w_1 cl) (w_1 (w_d 4 [(9,iv (-1))] [] [])) ?_;(repeat' first|exact w_t|apply w_l);all_goals intros));refine⟨(i,l+1),⟨by simp only;omega,by simp only;omega,by exact gW e0,by exact gW e1,by exact gW e2,by exact gW e3,by exact gW e10,by exact gS,_,out++[t],by exact gC,by(simp (disch:=omega) only [go_sem,List.map_append]<;>repeat' first|rfl|refine⟨?_,?_⟩),by simp only [List.length_append,List.length_cons,List.length_nil];omega,by rw [hs,List.append_assoc];rfl⟩,by simp only;omega⟩
   ·rw [if_neg h1',if_neg h1] at hs;rw [h3] at cl;by_cases hz:s.1+t.1=0
    ·rw [if_pos hz] at hs;rw [decide_eq_true (show(s.1+t.1).num.sign=0 by rw [Zey];exact hz)] at ca;clear st ms mt m1 m2 d1 d2;generalize (s.1+t.1)=z at *;(focus (refine wkad (w_12 e0 e1 e2 e3 e9 e10 e11 em hg hh @Zbb @Bool.not_true) (w_2 cl ca) (w_2 (w_d 4 [(9,iv 0)] [] []) (w_d 5 [(9,.tup [tmA (z,s.2),.v (.bool false)])] [] [13])) ?_;(repeat' first|exact w_t|apply w_l);all_goals intros));refine⟨(i+1,l+1),⟨by simp only;omega,by simp only;omega,by exact gW e0,by exact gW e1,by exact gW e2,by exact gW e3,by exact gS,by exact gS,_,out,by exact gW e9,by exact gW em,by simp only;omega,hs⟩,by simp only;omega⟩
    ·rw [if_neg hz] at hs;rw [decide_eq_false (show ¬(s.1+t.1).num.sign=0 by rw [Zey];exact hz)] at ca;clear st ms mt m1 m2 d1 d2;generalize (s.1+t.1)=z at *;(focus (refine wkad (w_12 e0 e1 e2 e3 e9 e10 e11 em hg hh @Zbb @Bool.not_false) (w_2 cl ca) (w_2 (w_d 4 [(9,iv 0)] [] []) (w_d 5 [(9,.tup [tmA (z,s.2),.v (.bool true)])] [] [13])) ?_;(repeat' first|exact w_t|apply w_l);all_goals intros));refine⟨(i+1,l+1),⟨by simp only;omega,by simp only;omega,by exact gW e0,by exact gW e1,by exact gW e2,by exact gW e3,by exact gS,by exact gS,_,out++[(z,s.2)],by exact gC,by(simp (disch:=omega) only [go_sem,List.map_append]<;>repeat' first|rfl|refine⟨?_,?_⟩),by simp only [List.length_append,List.length_cons,List.length_nil];omega,by rw [hs,List.append_assoc];rfl⟩,by simp only;omega⟩
   ·rw [if_pos h1] at hs;rw [h2] at cl;clear st ms mt m1 m2 d1 d2 ca;(focus (refine wkad (w_11 e0 e1 e2 e3 e9 e10 e11 em hg hh @Zbb) (w_1 cl) (w_1 (w_d 4 [(9,iv 1)] [] [])) ?_;(repeat' first|exact w_t|apply w_l);all_goals intros));refine⟨(i+1,l),⟨by simp only;omega,by simp only;omega,by exact gW e0,by exact gW e1,by exact gW e2,by exact gW e3,by exact gS,by exact gW e11,_,out++[s],by exact gC,by(simp (disch:=omega) only [go_sem,List.map_append]<;>repeat' first|rfl|refine⟨?_,?_⟩),by simp only [List.length_append,List.length_cons,List.length_nil];omega,by rw [hs,List.append_assoc];rfl⟩,by simp only;omega⟩
  ·rw [Zir (by omega)] at hs;rw [hs];clear hs;have tp:(p.map tmA).take p.length=p.map tmA:=by rw [←List.length_map (f:=tmA),List.take_length]
   have tq:(q.map tmA).take q.length=q.map tmA:=by rw [←List.length_map (f:=tmA),List.take_length]
   by_cases hi2:i < p.length
   ·have hl2:l=q.length:=by omega
    subst hl2;(focus (refine wkad (w_15 e0 e1 e2 e3 e9 e10 e11 em @Zbb @l_drop @l_app @l_take @Nat.min_self tp tq) w_t w_t ?_;(repeat' first|exact w_t|apply w_l);all_goals intros))
    (all_goals (try simp (disch:=omega) only [go_sem,List.append_assoc,tp,tq,decide_eq_true,decide_eq_false,if_pos,if_neg,Int.reduceAdd,Int.reduceSub,Int.reduceToNat,Int.zero_add]));(all_goals first|done|rfl|(congr 2;first|done|omega|(rw [Bool.eq_iff_iff];simp only [bool_to_prop,Bool.false_eq_true,iff_true,true_iff,iff_false,false_iff];omega))|skip)
    all_goals exact congrArg (AV.sl 4) (by simp only [List.map_append,List.map_drop])
   ·(focus (refine wkad (w_15 e0 e1 e2 e3 e9 e10 e11 em @Zbb @l_drop @l_app @l_take @Nat.min_self tp tq) w_t w_t ?_;(repeat' first|exact w_t|apply w_l);all_goals intros))
    (all_goals (try simp (disch:=omega) only [go_sem,List.append_assoc,tp,tq,decide_eq_true,decide_eq_false,if_pos,if_neg,Int.reduceAdd,Int.reduceSub,Int.reduceToNat,Int.zero_add]));(all_goals first|done|rfl|(congr 2;first|done|omega|(rw [Bool.eq_iff_iff];simp only [bool_to_prop,Bool.false_eq_true,iff_true,true_iff,iff_false,false_iff];omega))|skip)
    all_goals exact congrArg (AV.sl 4) (by simp only [List.map_append,List.map_drop])
 ·exact⟨Nat.zero_le _,Nat.zero_le _,by exact gC,by exact gC,by exact gC,by exact gC,by exact gC,by exact gC,_,[],by exact gC,by(simp (disch:=omega) only [go_sem,List.map_nil,List.replicate_zero]<;>repeat' first|rfl|refine⟨?_,?_⟩),by simp,by simp⟩
theorem poAdd (p q:Po) {j k e:Nat} (hp:PK p j e) (hq:PK q k e) (sp:SrtM p) (sq:SrtM q) (lp:p.length≤1000000) (lq:q.length≤1000000) (hj:j≤1000000) (hk:k≤1000000) (he:e≤16777216) :
 Pure Tryz.prog 16 [poA p,poA q] (poA (addM p q)):=by
 have c:=poMerge p q hp hq sp sq lp lq hj hk he;generalize addM p q=r at *;refine Zaa (tok:=0) Tryz.func16 rfl Tryz.ntmps16 Tryz.results16 Tryz.call16 (by rfl) (by simp) ?_;(focus (refine wklp w_t (w_1 c) w_t (w_r 0) ?_;(repeat' first|exact w_t|apply w_l);all_goals intros))
theorem Zk9 {p:Po} {t:Tm} {i:Nat} (hi:i < p.length):Zat mulM (p.take (i+1)) t=Zat mulM (p.take i) t++[(p[i].1*t.1,mulM p[i].2 t.2)]:=by
 unfold Zat;rw [List.take_succ_eq_append_getElem hi,List.map_append];rfl
theorem Zeu (p:Po) (t:Tm):(Zat mulM p t).length=p.length:=by unfold Zat;simp
theorem poTimes (p:Po) (t:Tm) {j k e f:Nat} (hp:PK p j e) (ht:PK [t] k f) (sp:SrtM p) (h0:t.1≠0) (hd:Can t.2) (lp:p.length≤1000000) (hj:j≤1000000) (hk:k≤1000000) (he:e≤16777216) (hf:f≤16777216) :
 Pure Tryz.prog 47 [poA p,.agg [.v (.bool (decide (t.1.num < 0))),lim (toL t.1.num.natAbs),lim (toL t.1.den),ivs t.2]] (poA (Zat mulM p t)):=by
 refine Zaa (tok:=0) Tryz.func47 rfl Tryz.ntmps47 Tryz.results47 Tryz.call47 (by rfl) (by simp) ?_;(focus (refine wkad (w_1 @Zbb) w_t w_t ?_;(repeat' first|exact w_t|apply w_l);all_goals intros));rename_i g3 sv0;refine Zal (ι:=Nat) (λi e m=>i≤p.length∧e 3=.pbox 3 g3 0∧m 3=some (.box g3 48 [.v (.bool (decide (t.1.num < 0))),lim (toL t.1.num.natAbs),lim (toL t.1.den),ivs t.2] false)∧e 12=poA p∧e 13=iv p.length∧e 14=iv i∧∃sv,e 5=.own 11 sv∧m 11=some (.row sv 48 4 ((Zat mulM (p.take i) t).map tmA) 0)) (λi=>p.length - i) 0 (by rfl) ?_ ?_
 ·rintro i e m ⟨hi,e3,m3,e12,e13,e14,sv,e5,m11⟩
  by_cases hlt:i < p.length
  ·have hg:=Zbu tmA hlt;have hs:=Zk9 (t:=t) hlt;have ms:=hp _ (List.getElem_mem hlt);have m1:=hp.sm he (List.getElem_mem hlt);have m2:=ht.sm hf (.head _);have d1:=sp.dom _ (List.getElem_mem hlt);have n1:=(sp.1 _ (List.getElem_mem hlt)).1;have mt:=(ht t (.head _)).1;have hl:(Zat mulM (p.take i) t).length≤1000000:=by rw [Zeu,List.length_take];omega
   generalize p[i]=s at *;have c1:=ratMul s.1 t.1 ms.1 mt (by omega) (by omega);have c2:=Zi2 (s.1*t.1) (ms.1.mul mt) (by omega);have c3:Pure Tryz.prog 91 [ivs s.2,ivs t.2] (ivs (Zct (mulM s.2 t.2))):=monMul s.2 t.2 m1.wd m2.wd;rw [Zii (mulK.dom _ _ d1 hd)] at c3
   have nz:¬(s.1*t.1).num.sign=0:=by
    rw [Zey];intro h;rcases Rat.mul_eq_zero.1 h with h | h
    ·exact n1 h
    ·exact h0 h
   have nz2:(!decide ((s.1*t.1).num.sign=0))=true:=by rw [decide_eq_false nz];rfl
   obtain⟨s1,s2⟩:=s;simp only at *;clear ms m1 m2 d1 n1 mt;generalize s1*t.1=z at *;generalize mulM s2 t.2=w at *;generalize Zat mulM (p.take i) t=out at *;(focus (refine wkad (w_10 e3 m3 e12 e13 e14 e5 m11 hg @Zbb nz2) (w_3 c1 c2 c3) (w_1 (w_d 7 [(6,ivs w)] [9,1009] [11,34])) ?_;(repeat' first|exact w_t|apply w_l);all_goals intros));exact⟨i+1,⟨by omega,by exact gW e3,by exact gW m3,by exact gW e12,by exact gW e13,by exact gS,_,by exact gC,by rw [hs,List.map_append];exact gC⟩,by omega⟩
  ·have hi2:i=p.length:=by omega
   subst hi2;rw [List.take_length] at m11;(focus (refine wkld (w_8 e3 m3 e12 e13 e14 e5 m11 @Zbb) w_t (w_1 m11) w_t ?_;(repeat' first|exact w_t|apply w_l);all_goals intros))
 ·exact⟨Nat.zero_le _,by exact gC,by exact gC,by exact gC,by(simp (disch:=omega) only [go_sem,List.length_map]<;>repeat' first|rfl|refine⟨?_,?_⟩),by exact gC,_,by exact gC,by(simp (disch:=omega) only [go_sem,List.take_zero,Zat,List.map_nil,List.replicate_zero]<;>repeat' first|rfl|refine⟨?_,?_⟩)⟩
theorem poTimesN (p:Po) (t:Tm) (hn:t.2=[]) {j k e f:Nat} (hp:PK p j e) (ht:PK [t] k f) (sp:SrtM p) (h0:t.1≠0) (hd:Can t.2) (lp:p.length≤1000000) (hj:j≤1000000) (hk:k≤1000000) (he:e≤16777216) (hf:f≤16777216) :
 Pure Tryz.prog 47 [poA p,.agg [.v (.bool (decide (t.1.num < 0))),lim (toL t.1.num.natAbs),lim (toL t.1.den),.v (.slice none 0 0)]] (poA (Zat mulM p t)):=by
 refine Zaa (tok:=0) Tryz.func47 rfl Tryz.ntmps47 Tryz.results47 Tryz.call47 (by rfl) (by simp) ?_;(focus (refine wkad (w_1 @Zbb) w_t w_t ?_;(repeat' first|exact w_t|apply w_l);all_goals intros));rename_i g3 sv0;refine Zal (ι:=Nat) (λi e m=>i≤p.length∧e 3=.pbox 3 g3 0∧m 3=some (.box g3 48 [.v (.bool (decide (t.1.num < 0))),lim (toL t.1.num.natAbs),lim (toL t.1.den),.v (.slice none 0 0)] false)∧e 12=poA p∧e 13=iv p.length∧e 14=iv i∧∃sv,e 5=.own 11 sv∧m 11=some (.row sv 48 4 ((Zat mulM (p.take i) t).map tmA) 0)) (λi=>p.length - i) 0 (by rfl) ?_ ?_
 ·rintro i e m ⟨hi,e3,m3,e12,e13,e14,sv,e5,m11⟩
  by_cases hlt:i < p.length
  ·have hg:=Zbu tmA hlt;have hs:=Zk9 (t:=t) hlt;have ms:=hp _ (List.getElem_mem hlt);have m1:=hp.sm he (List.getElem_mem hlt);have m2:=ht.sm hf (.head _);have d1:=sp.dom _ (List.getElem_mem hlt);have n1:=(sp.1 _ (List.getElem_mem hlt)).1;have mt:=(ht t (.head _)).1;have hl:(Zat mulM (p.take i) t).length≤1000000:=by rw [Zeu,List.length_take];omega
   generalize p[i]=s at *;have c1:=ratMul s.1 t.1 ms.1 mt (by omega) (by omega);have c2:=Zi2 (s.1*t.1) (ms.1.mul mt) (by omega);have c3:Pure Tryz.prog 91 [ivs s.2,ivs t.2] (ivs (Zct (mulM s.2 t.2))):=monMul s.2 t.2 m1.wd m2.wd;rw [Zii (mulK.dom _ _ d1 hd)] at c3
   have nz:¬(s.1*t.1).num.sign=0:=by
    rw [Zey];intro h;rcases Rat.mul_eq_zero.1 h with h | h
    ·exact n1 h
    ·exact h0 h
   have nz2:(!decide ((s.1*t.1).num.sign=0))=true:=by rw [decide_eq_false nz];rfl
   have c3:Pure Tryz.prog 91 [ivs s.2,.v (.slice none 0 0)] (ivs (mulM s.2 t.2)):=by
    rw [hn] at c3 ⊢;exact Zgh c3 (.cons (.refl _) (.cons (.nil 1) .nil))
   obtain⟨s1,s2⟩:=s;simp only at *;clear ms m1 m2 d1 n1 mt;generalize s1*t.1=z at *;generalize mulM s2 t.2=w at *;generalize Zat mulM (p.take i) t=out at *;(focus (refine wkad (w_10 e3 m3 e12 e13 e14 e5 m11 hg @Zbb nz2) (w_3 c1 c2 c3) (w_1 (w_d 7 [(6,ivs w)] [9,1009] [11,34])) ?_;(repeat' first|exact w_t|apply w_l);all_goals intros));exact⟨i+1,⟨by omega,by exact gW e3,by exact gW m3,by exact gW e12,by exact gW e13,by exact gS,_,by exact gC,by rw [hs,List.map_append];exact gC⟩,by omega⟩
  ·have hi2:i=p.length:=by omega
   subst hi2;rw [List.take_length] at m11;(focus (refine wkld (w_8 e3 m3 e12 e13 e14 e5 m11 @Zbb) w_t (w_1 m11) w_t ?_;(repeat' first|exact w_t|apply w_l);all_goals intros))
 ·exact⟨Nat.zero_le _,by exact gC,by exact gC,by exact gC,by(simp (disch:=omega) only [go_sem,List.length_map]<;>repeat' first|rfl|refine⟨?_,?_⟩),by exact gC,_,by exact gC,by(simp (disch:=omega) only [go_sem,List.take_zero,Zat,List.map_nil,List.replicate_zero]<;>repeat' first|rfl|refine⟨?_,?_⟩)⟩
end Go.Proofs.YtimmnimikmnljaaGreat
namespace Go.Proofs.YtimmnimikmnljaaGreat
open Go Go.RowKit Go.Pg
attribute [-bool_to_prop] Bool.and_eq_decide Bool.or_eq_decide Bool.decide_beq_decide decide_eq_decide
attribute [local go_sem] Tryz.underlying3 Tryz.underlying2 Tryz.underlying115 Tryz.underlying104 Tryz.underlying4 Tryz.underlying44 Tryz.underlying40 Tryz.underlying42 sz3 by3 z3 szL byL zL Zco zRat Zcp zNat Zcq zInt
theorem intOfM:Pure Tryz.prog 129 [iv (-1)] (intZ (-1)):=by
 have hm:=Zh0 true 1 (by rw [Zfl];omega);have hn:=natOf 1 (by omega);rw [show zI true 1=-1 from rfl] at hm;rw [show intZ (-1)=.agg [.v (.bool true),lim (toL 1)] from rfl] at hm ⊢;generalize toL 1=l at *;refine Zaa (tok:=0) Tryz.func129 rfl Tryz.ntmps129 Tryz.results129 Tryz.call129 (by rfl) (by simp) ?_;(focus (refine wklp w_t (w_2 hn hm) w_t (w_r 0) ?_;(repeat' first|exact w_t|apply w_l);all_goals intros))
theorem ratOfM:Pure Tryz.prog 75 [iv (-1)] (ratQ (-1)):=by
 have c:=intOfM;rw [show intZ (-1)=.agg [.v (.bool true),lim (toL 1)] from rfl] at c;rw [show ratQ (-1)=.agg [.v (.bool true),lim (toL 1),lim (toL 1)] from rfl];have u:=Zn0;generalize toL 1=l at *;refine Zaa (tok:=0) Tryz.func75 rfl Tryz.ntmps75 Tryz.results75 Tryz.call75 (by rfl) (by simp) ?_;(focus (refine wklp w_t (w_2 c u) w_t (w_r 0) ?_;(repeat' first|exact w_t|apply w_l);all_goals intros))
theorem zOfM:Pure Tryz.prog 99 [iv (-1)] (intZ (-1)):=by
 have hm:=zOf' true 1 (by rw [Zfl];omega);have h0:=Zid 0 (by omega);have h1:=Zid 1 (by omega);have ha:=rAdd 0 1 (by rw [Za4];simp) (by rw [Zfl];omega);rw [show zI true 1=-1 from rfl] at hm;rw [show 0+1=1 from rfl] at ha;rw [show intZ (-1)=.agg [.v (.bool true),lim (toL 1)] from rfl] at hm ⊢;generalize toL 1=l at *;generalize toL 0=k at *;refine Zaa (tok:=0) Tryz.func99 rfl Tryz.ntmps99 Tryz.results99 Tryz.call99 (by rfl) (by simp) ?_;(focus (refine wklp w_t (w_4 h0 h1 ha hm) w_t (w_r 0) ?_;(repeat' first|exact w_t|apply w_l);all_goals intros))
theorem qOfM:Pure Tryz.prog 56 [iv (-1)] (ratQ (-1)):=by
 have c:=zOfM;have h1:=Zid 1 (by omega);have co:Pure Tryz.prog 98 [.agg [.v (.bool true),lim (toL 1)],lim (toL 1)] (ratQ (mkRat (zI true 1) 1)):=Zn3 true 1 1 (by rw [Zfl];omega) (by rw [Zfl];omega) (by omega);rw [show mkRat (zI true 1) 1=(-1:Rat) from rfl] at co;rw [show intZ (-1)=.agg [.v (.bool true),lim (toL 1)] from rfl] at c;rw [show ratQ (-1)=.agg [.v (.bool true),lim (toL 1),lim (toL 1)] from rfl] at *;generalize toL 1=l at *;refine Zaa (tok:=0) Tryz.func56 rfl Tryz.ntmps56 Tryz.results56 Tryz.call56 (by rfl) (by simp) ?_;(focus (refine wklp w_t (w_3 c h1 co) w_t (w_r 0) ?_;(repeat' first|exact w_t|apply w_l);all_goals intros))
end Go.Proofs.YtimmnimikmnljaaGreat
namespace Go.Proofs.YtimmnimikmnljaaGreat
open Go Go.RowKit Go.Pg Go.Pol
attribute [-bool_to_prop] Bool.and_eq_decide Bool.or_eq_decide Bool.decide_beq_decide decide_eq_decide
attribute [local go_sem] Tryz.underlying3 Tryz.underlying4 Tryz.underlying44 Tryz.underlying42 Tryz.underlying40 Tryz.underlying48 Tryz.underlying22 Tryz.underlying46 Tryz.underlying23 Tryz.underlying24 sz3 by3 z3 Zco zRat Zcq zInt Zcp zNat Zb3 Zb8 Zc5 Zb5 Zca Zc7 Zb4 Zb9 Zc6
def SumOk (l:List Po) (K e:Nat):Prop:=∀a b,PK (sumH ltM ((l.drop a).take b)) K e∧(sumH ltM ((l.drop a).take b)).length≤1000000
theorem SumOk.take {l:List Po} {K e:Nat} (h:SumOk l K e) (k:Nat):SumOk (l.take k) K e:=λa b=>by
 rw [List.drop_take,List.take_take];exact h a _
theorem SumOk.drop {l:List Po} {K e:Nat} (h:SumOk l K e) (k:Nat):SumOk (l.drop k) K e:=λa b=>by
 rw [List.drop_drop];exact h _ b
theorem SumOk.all {l:List Po} {K e:Nat} (h:SumOk l K e):PK (sumH ltM l) K e∧(sumH ltM l).length≤1000000:=by
 have:=h 0 l.length
 rwa [List.drop_zero,List.take_length] at this
theorem poSumN:∀(n:Nat) (l:List Po) {K e:Nat},l.length=n→(∀p∈l,SrtM p)→SumOk l K e→l.length≤1000000→K≤1000000→e≤16777216→Pure Tryz.prog 48 [.sl 1 (l.map poA)] (poA (sumH ltM l)):=by
 intro n
 induction n using Nat.strongRecOn with
 | _ n ih =>
   intro l K e hn hs ho hl hK he
   match l,hn,hs,ho,hl with
   | [],hn,hs,ho,hl =>
     rw [show sumH ltM []=[] from by simp [sumH]];refine Zgg (r:=.v (.slice none 0 0)) ?_ (.nil 4);refine Zaa (tok:=0) Tryz.func48 rfl Tryz.ntmps48 Tryz.results48 Tryz.call48 (by rfl) (by simp) ?_;(focus (refine wkld w_t w_t w_t w_t ?_;(repeat' first|exact w_t|apply w_l);all_goals intros))
   | [p],hn,hs,ho,hl =>
     rw [show sumH ltM [p]=p from by simp [sumH]];refine Zaa (tok:=0) Tryz.func48 rfl Tryz.ntmps48 Tryz.results48 Tryz.call48 (by rfl) (by simp) ?_;(focus (refine wkld w_t w_t w_t w_t ?_;(repeat' first|exact w_t|apply w_l);all_goals intros))
   | p :: q :: r,hn,hs,ho,hl =>
     obtain⟨L,hL⟩:∃L,L=p :: q :: r:=⟨_,rfl⟩;have h2:2≤L.length:=by rw [hL];simp
     have e1:sumH ltM (p :: q :: r)=addM (sumH ltM (L.take (L.length/2))) (sumH ltM (L.drop (L.length/2))):=by rw [sumH,←hL]
     rw [e1];rw [←hL] at hn hs ho hl ⊢;clear e1 hL;have s1:∀u∈L.take (L.length/2),SrtM u:=λu hu=>hs u (List.mem_of_mem_take hu);have s2:∀u∈L.drop (L.length/2),SrtM u:=λu hu=>hs u (List.mem_of_mem_drop hu);have o1:=(ho.take (L.length/2)).all;have o2:=(ho.drop (L.length/2)).all;have c1:=ih (L.take (L.length/2)).length (by rw [List.length_take];omega) (L.take (L.length/2)) rfl s1 (ho.take _) (by rw [List.length_take];omega) hK he;have c2:=ih (L.drop (L.length/2)).length (by rw [List.length_drop];omega) (L.drop (L.length/2)) rfl s2 (ho.drop _) (by rw [List.length_drop];omega) hK he;have c3:=poAdd (sumH ltM (L.take (L.length/2))) (sumH ltM (L.drop (L.length/2))) o1.1 o2.1 (Zg7 ordM _ s1) (Zg7 ordM _ s2) o1.2 o2.2 hK hK he
     clear ih s1 s2 o1 o2 ho hs;have hd:(L.length:Int).tdiv 2=((L.length/2:Nat):Int):=Zdu _ 2;have hh:L.length/2≤L.length:=by omega
     rw [List.map_take] at c1;rw [List.map_drop] at c2;have hlm:(L.map poA).length=L.length:=List.length_map ..;have htk:(L.map poA).take L.length=L.map poA:=by rw [←hlm,List.take_length]
     generalize sumH ltM (L.take (L.length/2))=x at *;generalize sumH ltM (L.drop (L.length/2))=y at *;generalize addM x y=z at *;generalize L.length/2=h at *;generalize L.map poA=M at *;generalize L.length=len at *;refine Zaa (tok:=0) Tryz.func48 rfl Tryz.ntmps48 Tryz.results48 Tryz.call48 (by rfl) (by simp) ?_;(focus (refine wkld (w_4 hlm hd htk @Zoq) (w_3 c1 c2 c3) w_t (w_1 (w_d 7 [(3,poA x),(7,poA y),(8,poA z)] [] [])) ?_;(repeat' first|exact w_t|apply w_l);all_goals intros))
theorem poSum (l:List Po) {K e:Nat} (hs:∀p∈l,SrtM p) (ho:SumOk l K e) (hl:l.length≤1000000) (hK:K≤1000000) (he:e≤16777216):Pure Tryz.prog 48 [.sl 1 (l.map poA)] (poA (sumH ltM l)):=poSumN _ l rfl hs ho hl hK he
theorem poMul0 (p q:Po) (a b:Po) (hab:(q.length < p.length∧a=q∧b=p)∨(¬q.length < p.length∧a=p∧b=q)) {j k e f K E:Nat} (hp:PK a j e) (hq:PK b k f) (sp:SrtM a) (sq:SrtM b) (lp:a.length≤1000000) (lq:b.length≤1000000) (hj:j≤1000000) (hk:k≤1000000) (he:e≤16777216) (hf:f≤16777216)
 (ho:SumOk (a.map λt=>Zat mulM b t) K E) (hK:K≤1000000) (hE:E≤16777216) :
 Pure Tryz.prog 17 [poA p,poA q] (poA (mlM b a)):=by
 have hs:∀u∈a.map (λt=>Zat mulM b t),SrtM u:=λu hu=>by
  obtain⟨t,ht,rfl⟩:=List.mem_map.1 hu;exact Zd6 mulK sq (sp.1 t ht).1 (sp.1 t ht).2
 have cs:=poSum _ hs ho (by rw [List.length_map];exact lp) hK hE;rw [show sumH ltM (a.map λt=>Zat mulM b t)=mlM b a from mulH_eq ordM mulK sp sq] at cs;clear ho hs;have loop:∀(e1:Nat→AV) (m1:Mem) (Q:AE→St→Prop),True→True:=λ_ _ _ _=>trivial;rcases hab with⟨hlt,rfl,rfl⟩ | ⟨hlt,rfl,rfl⟩
 all_goals
  refine Zaa (tok:=0) Tryz.func17 rfl Tryz.ntmps17 Tryz.results17 Tryz.call17 (by rfl) (by simp) ?_;(focus (refine wkap (w_1 @Zbb) w_t (w_r 0) ?_;(repeat' first|exact w_t|apply w_l);all_goals intros));rename_i sv0;refine Zal (ι:=Nat) (λi e' m=>i≤a.length∧e' 1=poA b∧e' 18=poA a∧e' 19=iv a.length∧e' 20=iv i∧∃sv,e' 5=.own 17 sv∧m 17=some (.row sv 23 1 (((a.take i).map λt=>Zat mulM b t).map poA) 0)) (λi=>a.length - i) 0 (by rfl) ?_ ?_
  ·rintro i e' m ⟨hi,e1,e18,e19,e20,sv,e5,m17⟩
   by_cases hlt:i < a.length
   ·have hg:=Zbu tmA hlt;have ht:PK [a[i]] j e:=λu hu=>by rw [List.mem_singleton] at hu;subst hu;exact hp _ (List.getElem_mem hlt)
    have c1:=poTimes b a[i] hq ht sq (sp.1 _ (List.getElem_mem hlt)).1 (sp.1 _ (List.getElem_mem hlt)).2 lq hk hj hf he
    have hsn:((a.take (i+1)).map λt=>Zat mulM b t).map poA=((a.take i).map λt=>Zat mulM b t).map poA++[poA (Zat mulM b a[i])]:=by
     rw [List.take_succ_eq_append_getElem hlt,List.map_append,List.map_append];rfl
    have hl:(((a.take i).map λt=>Zat mulM b t).map poA).length=i:=by rw [List.length_map,List.length_map,List.length_take];omega
    generalize a[i]=t at *;generalize ((a.take i).map λt=>Zat mulM b t).map poA=out at *;generalize Zat mulM b t=tm at *;(focus (refine wkap (w_9 e1 e18 e19 e20 e5 m17 hg hl @Zbb) (w_1 c1) (w_r 0) ?_;(repeat' first|exact w_t|apply w_l);all_goals intros));exact⟨i+1,⟨by omega,by exact gW e1,by exact gW e18,by exact gW e19,by exact gS,_,by exact gC,by rw [hsn];exact gC⟩,by omega⟩
   ·have hi2:i=a.length:=by omega
    subst hi2;rw [List.take_length] at m17;generalize (a.map λt=>Zat mulM b t).map poA=out at *;(focus (refine wkax (w_7 e1 e18 e19 e20 e5 m17 @Zbb) w_t w_t (w_1 cs) w_t w_t (w_r 0) ?_;(repeat' first|exact w_t|apply w_l);all_goals intros))
    (all_goals (try simp (disch:=omega) only [go_sem,decide_eq_true,decide_eq_false,if_pos,if_neg,Int.reduceAdd,Int.reduceSub,Int.reduceToNat,Int.zero_add]));(all_goals first|done|rfl|(congr 2;first|done|omega|(rw [Bool.eq_iff_iff];simp only [bool_to_prop,Bool.false_eq_true,iff_true,true_iff,iff_false,false_iff];omega))|skip)
  ·exact⟨Nat.zero_le _,by exact gC,by exact gC,by(simp (disch:=omega) only [go_sem,List.length_map]<;>repeat' first|rfl|refine⟨?_,?_⟩),by exact gC,_,by exact gC,by(simp (disch:=omega) only [go_sem,List.take_zero,List.map_nil,List.replicate_zero]<;>repeat' first|rfl|refine⟨?_,?_⟩)⟩
def Zpq (p q:Po):List Po:=if q.length < p.length then q.map λt=>Zat mulM p t else p.map λt=>Zat mulM q t
theorem poMul (p q:Po) {j k e f K E:Nat} (hp:PK p j e) (hq:PK q k f) (sp:SrtM p) (sq:SrtM q) (lp:p.length≤1000000) (lq:q.length≤1000000) (hj:j≤1000000) (hk:k≤1000000) (he:e≤16777216) (hf:f≤16777216)
 (ho:SumOk (Zpq p q) K E) (hK:K≤1000000) (hE:E≤16777216) :
 Pure Tryz.prog 17 [poA p,poA q] (poA (mlM p q)):=by
 unfold Zpq at ho;by_cases h:q.length < p.length
 ·rw [if_pos h] at ho;exact poMul0 p q q p (.inl ⟨h,rfl,rfl⟩) hq hp sq sp lq lp hk hj hf he ho hK hE
 ·rw [if_neg h] at ho;have:=poMul0 p q p q (.inr ⟨h,rfl,rfl⟩) hp hq sp sq lp lq hj hk he hf ho hK hE
  rwa [show mlM q p=mlM p q from Zmx ordM mulK sq sp] at this
theorem SumOk.one {l:List Po} {K e:Nat} (hl:l.length≤1) (h:∀p∈l,PK p K e∧p.length≤1000000):SumOk l K e:=λa b=>by
 have h0:PK (sumH ltM []) K e∧(sumH ltM []).length≤1000000:=by rw [show sumH ltM []=[] from by simp [sumH]];exact⟨.nil,by simp⟩
 match l,hl,h with
 | [],_,_=>simpa using h0
 | [p],_,h =>
   match a,b with
   | 0,0=>simpa using h0
   | 0,b+1=>simp only [List.drop_zero,List.take_succ_cons,List.take_nil];rw [show sumH ltM [p]=p from by simp [sumH]];exact h p (.head _)
   | a+1,b=>simpa using h0
theorem Zr5 (p:Po) (a:Rat) {j k e:Nat} (hp:PK p j e) (ha:Sz a k) (sp:SrtM p) (lp:p.length≤1000000) (hj:j≤1000000) (hk:k≤1000000) (he:e≤16777216):Pure Tryz.prog 125 [poA p,ratQ a] (poA (sclM a p)):=by
 have cs:=Zi2 a ha (by omega);unfold sclM;by_cases h:a=0
 ·rw [if_pos h];have hz:a.num.sign=0:=by rw [Zey];exact h
  refine Zgg (r:=.v (.slice none 0 0)) ?_ (.nil 4);refine Zaa (tok:=0) Tryz.func125 rfl Tryz.ntmps125 Tryz.results125 Tryz.call125 (by rfl) (by simp) ?_;(focus (refine wklp (w_1 hz) (w_1 cs) w_t (w_r 0) ?_;(repeat' first|exact w_t|apply w_l);all_goals intros))
 ·rw [if_neg h];have hz:¬a.num.sign=0:=by rw [Zey];exact h
  have ct:=poTimesN p (a,[]) rfl (j:=j) (k:=k) (e:=e) (f:=0) hp (λu hu=>by rw [List.mem_singleton] at hu;subst hu;exact⟨ha,by simp,λi=>by show 0≤gI [] i∧gI [] i≤_;rw [Zbg (Nat.zero_le _)];omega⟩) sp h can_nil lp hj hk he (by omega);rw [Zqf] at ct;simp only at ct;generalize Zbe a p=r at *;generalize a.num.sign=z at *;refine Zaa (tok:=0) Tryz.func125 rfl Tryz.ntmps125 Tryz.results125 Tryz.call125 (by rfl) (by simp) ?_;(focus (refine wklp w_t (w_2 cs ct) w_t (w_r 0) ?_;(repeat' first|exact w_t|apply w_l);all_goals intros))
theorem poNeg (p:Po) {j e:Nat} (hp:PK p j e) (sp:SrtM p) (lp:p.length≤1000000) (hj:j≤1000000) (he:e≤16777216):Pure Tryz.prog 72 [poA p] (poA (Zbe (-1) p)):=by
 have c:=Zr5 p (-1) hp ((Zoe 1 (by omega)).neg) sp lp hj (by omega) he;have co:=ratOfM;rw [show sclM (-1) p=Zbe (-1) p from if_neg neg1] at c;generalize Zbe (-1) p=r at *;generalize (-1:Rat)=q at *;refine Zaa (tok:=0) Tryz.func72 rfl Tryz.ntmps72 Tryz.results72 Tryz.call72 (by rfl) (by simp) ?_;(focus (refine wklp w_t (w_2 co c) w_t (w_r 0) ?_;(repeat' first|exact w_t|apply w_l);all_goals intros))
theorem PK.neg {q:Po} {k e:Nat} (hq:PK q k e):PK (Zbe (-1) q) k e:=λt ht=>by
 obtain⟨s,hs,rfl⟩:=List.mem_map.1 ht;refine⟨?_,(hq s hs).2⟩;show Sz (s.1*-1) k;rw [show s.1*-1=-s.1 by grind];exact(hq s hs).1.neg
theorem Zg8 (a:Rat) (p:Po):(Zbe a p).length=p.length:=by unfold Zbe;simp
theorem poSub (p q:Po) {j k e:Nat} (hp:PK p j e) (hq:PK q k e) (sp:SrtM p) (sq:SrtM q) (lp:p.length≤1000000) (lq:q.length≤1000000) (hj:j≤1000000) (hk:k≤1000000) (he:e≤16777216) :
 Pure Tryz.prog 31 [poA p,poA q] (poA (subM p q)):=by
 have c1:=poNeg q hq sq lq hk he;have c2:=poAdd p (Zbe (-1) q) hp hq.neg sp (Zd8 sq neg1) lp (by rw [Zg8];exact lq) hj hk he;show Pure _ _ _ (poA (addM p (Zbe (-1) q)));generalize Zbe (-1) q=n at *;generalize addM p n=r at *;refine Zaa (tok:=0) Tryz.func31 rfl Tryz.ntmps31 Tryz.results31 Tryz.call31 (by rfl) (by simp) ?_;(focus (refine wklp w_t (w_2 c1 c2) w_t (w_r 0) ?_;(repeat' first|exact w_t|apply w_l);all_goals intros))
theorem unit_set (v:Nat):((List.replicate (v+1) (iv 0)).set v (iv 1))=(Zgo v).map iv:=by
 unfold Zgo;rw [List.map_append,List.map_replicate,List.replicate_succ',List.set_append_right _ _ (by simp)];simp
theorem Zpo (c:Rat) (m:List Int) (h:c≠0) {k:Nat} (hc:Sz c k) (hk:k≤1000000):Pure Tryz.prog 73 [ratQ c,ivs m] (poA [(c,m)]):=by
 have cs:=Zi2 c hc (by omega);have hz:¬c.num.sign=0:=by rw [Zey];exact h
 generalize c.num.sign=z at *;refine Zaa (tok:=0) Tryz.func73 rfl Tryz.ntmps73 Tryz.results73 Tryz.call73 (by rfl) (by simp) ?_;(focus (refine wklp w_t (w_1 cs) w_t (w_r 0) ?_;(repeat' first|exact w_t|apply w_l);all_goals intros))
theorem qSign (q:Rat) {k:Nat} (h:Sz q k) (hk:k≤10000000):Pure Tryz.prog 64 [ratQ q] (.v (.int .i64 q.num.sign)):=by
 have c:=zSign q.num (by have:=h.1;omega);have cn:=Zmg q h hk;generalize q.num.sign=z at *;refine Zaa (tok:=0) Tryz.func64 rfl Tryz.ntmps64 Tryz.results64 Tryz.call64 (by rfl) (by simp) ?_;(focus (refine wklp w_t (w_2 cn c) w_t (w_r 0) ?_;(repeat' first|exact w_t|apply w_l);all_goals intros))
theorem rpLex (a b:List Int) (hs:Sm a) (ht:Sm b):Pure Tryz.prog 62 [ivs a,ivs b,iv 0] (iv (lexC a b (max a.length b.length))):=by
 have c:Pure Tryz.prog 62 [ivs a,ivs b,iv 0] (iv (cmpI a b 0)):=mrCmp a b 0 hs ht;have e:cmpI a b 0=lexC a b (max a.length b.length):=by unfold cmpI;rw [if_neg (by omega)]
 rwa [e] at c
theorem rpAdd (p q:Po) {j k e:Nat} (hp:PK p j e) (hq:PK q k e) (sp:SrtM p) (sq:SrtM q) (lp:p.length≤1000000) (lq:q.length≤1000000) (hj:j≤1000000) (hk:k≤1000000) (he:e≤16777216) :
 Pure Tryz.prog 25 [poA p,poA q] (poA (addM p q)):=by
 refine Zaa (tok:=0) Tryz.func25 rfl Tryz.ntmps25 Tryz.results25 Tryz.call25 (by rfl) (by simp) ?_;(focus (refine wkad (w_1 @Zbb) w_t w_t ?_;(repeat' first|exact w_t|apply w_l);all_goals intros));refine Zfo (Frz.nilOwn (d:=5) 100 4 48 (by exact gC)) ?_;refine Zal (ι:=Nat × Nat) (λx e m=>x.1≤p.length∧x.2≤q.length∧e 0=poA p∧e 1=poA q∧e 6=iv x.1∧e 7=iv x.2∧∃sv out,e 5=.own 100 sv∧m 100=some (.row sv 48 4 (out.map tmA) 0)∧out.length≤x.1+x.2∧addM p q=out++addM (p.drop x.1) (q.drop x.2)) (λx=>p.length+q.length - (x.1+x.2)) (0,0) (by rfl) ?_ ?_
 ·rintro ⟨i,l⟩ e m ⟨hi,hl,e0,e1,e6,e7,sv,out,e5,em,ho,hs⟩
  simp only at hi hl e6 e7 ho hs;by_cases hil:i < p.length∧l < q.length
  ·obtain⟨hi2,hl2⟩:=hil;have hg:=Zbu tmA hi2;have hh:=Zbu tmA hl2;have st:=Zni hi2 hl2;have ms:=hp _ (List.getElem_mem hi2);have mt:=hq _ (List.getElem_mem hl2);have m1:=hp.sm he (List.getElem_mem hi2);have m2:=hq.sm he (List.getElem_mem hl2);have d1:=sp.dom _ (List.getElem_mem hi2);have d2:=sq.dom _ (List.getElem_mem hl2);generalize p[i]=s at *;generalize q[l]=t at *;have cl:=rpLex s.2 t.2 m1 m2;have ca:=qAdd s.1 t.1 ms.1 mt.1 (by omega) (by omega);have cz:=qSign (s.1+t.1) (ms.1.add mt.1) (by omega);have hlen:(out.map tmA).length=out.length:=List.length_map ..;rw [st] at hs;obtain⟨s1,s2⟩:=s
   obtain⟨t1,t2⟩:=t;simp only at *;rcases Zhy d1 d2 with⟨h1,h2⟩ | ⟨h1,h1',h2,h3⟩ | ⟨h1,h1',h2⟩
   ·have h3:¬ltM t2 s2:=λh=>ordM.irr _ (ordM.tr _ _ _ h h1);rw [if_neg h3,if_pos h1] at hs;rw [h2] at cl;clear st ms mt m1 m2 d1 d2 ca cz;(focus (refine wkad (w_9 e0 e1 e6 e7 e5 em hg hh @Zbb) (w_1 cl) (w_1 (w_d 8 [(10,iv (-1))] [] [])) ?_;(repeat' first|exact w_t|apply w_l);all_goals intros));refine⟨(i,l+1),⟨by simp only;omega,by simp only;omega,by exact gW e0,by exact gW e1,by exact gW e6,by exact gS,_,out++[(t1,t2)],by exact gC,by(simp (disch:=omega) only [go_sem,List.map_append]<;>repeat' first|rfl|refine⟨?_,?_⟩),by simp only [List.length_append,List.length_cons,List.length_nil];omega,by rw [hs,List.append_assoc];rfl⟩,by simp only;omega⟩
   ·rw [if_neg h1',if_neg h1] at hs;rw [h3] at cl;by_cases hz:s1+t1=0
    ·rw [if_pos hz] at hs;have hz2:(s1+t1).num.sign=0:=by rw [Zey];exact hz
     clear st ms mt m1 m2 d1 d2;generalize (s1+t1)=z at *;(focus (refine wkad (w_10 e0 e1 e6 e7 e5 em hg hh @Zbb hz2) (w_3 cl ca cz) (w_2 (w_d 8 [(10,iv 0)] [] []) (w_d 9 [(10,ratQ z)] [] [9])) ?_;(repeat' first|exact w_t|apply w_l);all_goals intros));refine⟨(i+1,l+1),⟨by simp only;omega,by simp only;omega,by exact gW e0,by exact gW e1,by exact gS,by exact gS,_,out,by exact gW e5,by exact gW em,by simp only;omega,hs⟩,by simp only;omega⟩
    ·rw [if_neg hz] at hs;have hz2:¬(s1+t1).num.sign=0:=by rw [Zey];exact hz
     clear st ms mt m1 m2 d1 d2;generalize (s1+t1)=z at *;(focus (refine wkax (w_9 e0 e1 e6 e7 e5 em hg hh @Zbb) (w_3 cl ca cz) (w_3 (w_d 8 [(10,iv 0)] [] []) (w_d 9 [(10,ratQ z)] [] [9]) (w_d 11 [] [9,1009] [100,61])) w_t w_t w_t (w_r 0) ?_;(repeat' first|exact w_t|apply w_l);all_goals intros));refine⟨(i+1,l+1),⟨by simp only;omega,by simp only;omega,by exact gW e0,by exact gW e1,by exact gS,by exact gS,_,out++[(z,s2)],by exact gC,by(simp (disch:=omega) only [go_sem,List.map_append]<;>repeat' first|rfl|refine⟨?_,?_⟩),by simp only [List.length_append,List.length_cons,List.length_nil];omega,by rw [hs,List.append_assoc];rfl⟩,by simp only;omega⟩
   ·rw [if_pos h1] at hs;rw [h2] at cl;clear st ms mt m1 m2 d1 d2 ca cz;(focus (refine wkad (w_9 e0 e1 e6 e7 e5 em hg hh @Zbb) (w_1 cl) (w_1 (w_d 8 [(10,iv 1)] [] [])) ?_;(repeat' first|exact w_t|apply w_l);all_goals intros));refine⟨(i+1,l),⟨by simp only;omega,by simp only;omega,by exact gW e0,by exact gW e1,by exact gS,by exact gW e7,_,out++[(s1,s2)],by exact gC,by(simp (disch:=omega) only [go_sem,List.map_append]<;>repeat' first|rfl|refine⟨?_,?_⟩),by simp only [List.length_append,List.length_cons,List.length_nil];omega,by rw [hs,List.append_assoc];rfl⟩,by simp only;omega⟩
  ·rw [Zir (by omega)] at hs;by_cases hi2:i < p.length
   ·have hl2:l=q.length:=by omega
    subst hl2;have hg:=Zbu tmA hi2;have hd:p.drop i=p[i] :: p.drop (i+1):=List.drop_eq_getElem_cons hi2;rw [hd] at hs
    have hs:addM p q=(out++[p[i]])++addM (p.drop (i+1)) (q.drop q.length):=by
     rw [Zir (.inr (Nat.le_refl _)),hs];simp
    clear hd;generalize p[i]=s at *;obtain⟨s1,s2⟩:=s;(focus (refine wkad (w_8 e0 e1 e6 e7 e5 em hg @Zbb) w_t w_t ?_;(repeat' first|exact w_t|apply w_l);all_goals intros));refine⟨(i+1,q.length),⟨by simp only;omega,by simp only;omega,by exact gW e0,by exact gW e1,by exact gS,by exact gW e7,_,out++[(s1,s2)],by exact gC,by(simp (disch:=omega) only [go_sem,List.map_append]<;>repeat' first|rfl|refine⟨?_,?_⟩),by simp only [List.length_append,List.length_cons,List.length_nil];omega,hs⟩,by simp only;omega⟩
   ·have hi3:i=p.length:=by omega
    subst hi3;by_cases hl2:l < q.length
    ·have hg:=Zbu tmA hl2;have hd:q.drop l=q[l] :: q.drop (l+1):=List.drop_eq_getElem_cons hl2;rw [hd] at hs
     have hs:addM p q=(out++[q[l]])++addM (p.drop p.length) (q.drop (l+1)):=by
      rw [Zir (.inl (Nat.le_refl _)),hs];simp
     clear hd;generalize q[l]=s at *;obtain⟨s1,s2⟩:=s;(focus (refine wkad (w_8 e0 e1 e6 e7 e5 em hg @Zbb) w_t w_t ?_;(repeat' first|exact w_t|apply w_l);all_goals intros));refine⟨(p.length,l+1),⟨by simp only;omega,by simp only;omega,by exact gW e0,by exact gW e1,by exact gW e6,by exact gS,_,out++[(s1,s2)],by exact gC,by(simp (disch:=omega) only [go_sem,List.map_append]<;>repeat' first|rfl|refine⟨?_,?_⟩),by simp only [List.length_append,List.length_cons,List.length_nil];omega,hs⟩,by simp only;omega⟩
    ·have hl3:l=q.length:=by omega
     subst hl3;rw [List.drop_length,List.drop_length,List.append_nil,List.append_nil] at hs;rw [hs];(focus (refine wkld (w_7 e0 e1 e6 e7 e5 em @Zbb) w_t (w_1 em) w_t ?_;(repeat' first|exact w_t|apply w_l);all_goals intros))
 ·exact⟨Nat.zero_le _,Nat.zero_le _,by exact gC,by exact gC,by exact gC,by exact gC,_,[],by exact gC,by(simp (disch:=omega) only [go_sem,List.map_nil]<;>repeat' first|rfl|refine⟨?_,?_⟩),by simp,by simp⟩
theorem rpTimes (p:Po) (t:Tm) {j k e f:Nat} (hp:PK p j e) (ht:PK [t] k f) (lp:p.length≤1000000) (hj:j≤1000000) (hk:k≤1000000) (he:e≤16777216) (hf:f≤16777216) :
 Pure Tryz.prog 65 [poA p,tmA t] (poA (Zat mulM p t)):=by
 obtain⟨t1,t2⟩:=t;refine Zaa (tok:=0) Tryz.func65 rfl Tryz.ntmps65 Tryz.results65 Tryz.call65 (by rfl) (by simp) ?_;(focus (refine wkad (w_1 @Zbb) w_t w_t ?_;(repeat' first|exact w_t|apply w_l);all_goals intros));rename_i g3;refine Zfo (Frz.nilOwn (d:=5) 100 4 48 (by exact gC)) ?_;refine Zal (ι:=Nat) (λi e m=>i≤p.length∧e 3=.pbox 3 g3 0∧m 3=some (.box g3 48 [.v (.bool (decide (t1.num < 0))),lim (toL t1.num.natAbs),lim (toL t1.den),ivs t2] false)∧e 0=poA p∧e 6=iv i∧∃sv,e 5=.own 100 sv∧m 100=some (.row sv 48 4 ((Zat mulM (p.take i) (t1,t2)).map tmA) 0)) (λi=>p.length - i) 0 (by rfl) ?_ ?_
 ·rintro i e m ⟨hi,e3,m3,e0,e6,sv,e5,m11⟩
  by_cases hlt:i < p.length
  ·have hg:=Zbu tmA hlt;have hs:=Zk9 (t:=(t1,t2)) hlt;have ms:=hp _ (List.getElem_mem hlt);have m1:=hp.sm he (List.getElem_mem hlt);have m2:=ht.sm hf (.head _);have mt:=(ht _ (.head _)).1;have hl:(Zat mulM (p.take i) (t1,t2)).length≤1000000:=by rw [Zeu,List.length_take];omega
   generalize p[i]=s at *;have c1:=qMul s.1 t1 ms.1 mt (by omega) (by omega);have c3:Pure Tryz.prog 116 [ivs s.2,ivs t2] (ivs (mulM s.2 t2)):=mrMul s.2 t2 m1.wd m2.wd;obtain⟨s1,s2⟩:=s;simp only at *;clear ms m1 m2 mt;generalize s1*t1=z at *;generalize mulM s2 t2=w at *;generalize Zat mulM (p.take i) (t1,t2)=out at *;(focus (refine wkad (w_8 e3 m3 e0 e6 e5 m11 hg @Zbb) (w_2 c1 c3) (w_1 (w_d 5 [(8,ratQ z),(16,ivs w)] [19,1019] [100,31])) ?_;(repeat' first|exact w_t|apply w_l);all_goals intros));exact⟨i+1,⟨by omega,by exact gW e3,by exact gW m3,by exact gW e0,by exact gS,_,by exact gC,by rw [hs,List.map_append];exact gC⟩,by omega⟩
  ·have hi2:i=p.length:=by omega
   subst hi2;rw [List.take_length] at m11;(focus (refine wkld (w_7 e3 m3 e0 e6 e5 m11 @Zbb) w_t (w_1 m11) w_t ?_;(repeat' first|exact w_t|apply w_l);all_goals intros))
 ·exact⟨Nat.zero_le _,by exact gC,by exact gC,by exact gC,by exact gC,_,by exact gC,by(simp (disch:=omega) only [go_sem,List.take_zero,Zat,List.map_nil]<;>repeat' first|rfl|refine⟨?_,?_⟩)⟩
theorem Zqk {p:Po} {a:Rat} {i:Nat} (hi:i < p.length):Zbe a (p.take (i+1))=Zbe a (p.take i)++[(p[i].1*a,p[i].2)]:=by
 unfold Zbe;rw [List.take_succ_eq_append_getElem hi,List.map_append];rfl
theorem rpScale0 (p:Po) (a:Rat) {j k e:Nat} (hp:PK p j e) (ha:Sz a k) (lp:p.length≤1000000) (hj:j≤1000000) (hk:k≤1000000) (h:a≠0) :
 Pure Tryz.prog 108 [poA p,ratQ a] (poA (Zbe a p)):=by
 have cs:=qSign a ha (by omega);have hz:¬a.num.sign=0:=by rw [Zey];exact h
 generalize a.num.sign=sg at *;refine Zaa (tok:=0) Tryz.func108 rfl Tryz.ntmps108 Tryz.results108 Tryz.call108 (by rfl) (by simp) ?_;(focus (refine wkad (w_1 @Zbb) w_t w_t ?_;(repeat' first|exact w_t|apply w_l);all_goals intros));rename_i g3;refine Zfo (Frz.nilOwn (d:=5) 100 4 48 (by exact gC)) ?_;refine Zal (ι:=Nat) (λi e m=>i≤p.length∧e 3=.pbox 3 g3 0∧m 3=some (.box g3 44 [.v (.bool (decide (a.num < 0))),lim (toL a.num.natAbs),lim (toL a.den)] false)∧e 0=poA p∧e 6=iv i∧∃sv,e 5=.own 100 sv∧m 100=some (.row sv 48 4 ((Zbe a (p.take i)).map tmA) 0)) (λi=>p.length - i) 0 (by rfl) ?_ ?_
 ·rintro i e m ⟨hi,e3,m3,e0,e6,sv,e5,m11⟩
  by_cases hlt:i < p.length
  ·have hg:=Zbu tmA hlt;have hs:=Zqk (a:=a) hlt;have ms:=(hp _ (List.getElem_mem hlt)).1;have hl:(Zbe a (p.take i)).length≤1000000:=by rw [Zg8,List.length_take];omega
   generalize p[i]=s at *;have c1:=qMul s.1 a ms ha (by omega) (by omega);obtain⟨s1,s2⟩:=s;simp only at *;clear ms;generalize s1*a=z at *;generalize Zbe a (p.take i)=out at *;(focus (refine wkad (w_8 e3 m3 e0 e6 e5 m11 hg @Zbb) (w_2 c1 cs) (w_1 (w_d 5 [(7,ratQ z)] [15,1015] [100,32])) ?_;(repeat' first|exact w_t|apply w_l);all_goals intros));exact⟨i+1,⟨by omega,by exact gW e3,by exact gW m3,by exact gW e0,by exact gS,_,by exact gC,by rw [hs,List.map_append];exact gC⟩,by omega⟩
  ·have hi2:i=p.length:=by omega
   subst hi2;rw [List.take_length] at m11;(focus (refine wkld (w_7 e3 m3 e0 e6 e5 m11 @Zbb) w_t (w_1 m11) w_t ?_;(repeat' first|exact w_t|apply w_l);all_goals intros))
 ·exact⟨Nat.zero_le _,by exact gC,by exact gC,by exact gC,by exact gC,_,by exact gC,by(simp (disch:=omega) only [go_sem,List.take_zero,Zbe,List.map_nil]<;>repeat' first|rfl|refine⟨?_,?_⟩)⟩
theorem rpNeg (p:Po) {j e:Nat} (hp:PK p j e) (lp:p.length≤1000000) (hj:j≤1000000):Pure Tryz.prog 61 [poA p] (poA (Zbe (-1) p)):=by
 have c:=rpScale0 p (-1) hp ((Zoe 1 (by omega)).neg) lp hj (by omega) neg1;have co:=qOfM;generalize Zbe (-1) p=r at *;generalize (-1:Rat)=q at *;refine Zaa (tok:=0) Tryz.func61 rfl Tryz.ntmps61 Tryz.results61 Tryz.call61 (by rfl) (by simp) ?_;(focus (refine wklp w_t (w_2 co c) w_t (w_r 0) ?_;(repeat' first|exact w_t|apply w_l);all_goals intros))
theorem rpSub (p q:Po) {j k e:Nat} (hp:PK p j e) (hq:PK q k e) (sp:SrtM p) (sq:SrtM q) (lp:p.length≤1000000) (lq:q.length≤1000000) (hj:j≤1000000) (hk:k≤1000000) (he:e≤16777216) :
 Pure Tryz.prog 24 [poA p,poA q] (poA (subM p q)):=by
 have c1:=rpNeg q hq lq hk;have c2:=rpAdd p (Zbe (-1) q) hp hq.neg sp (Zd8 sq neg1) lp (by rw [Zg8];exact lq) hj hk he;show Pure _ _ _ (poA (addM p (Zbe (-1) q)));generalize Zbe (-1) q=n at *;generalize addM p n=r at *;refine Zaa (tok:=0) Tryz.func24 rfl Tryz.ntmps24 Tryz.results24 Tryz.call24 (by rfl) (by simp) ?_;(focus (refine wklp w_t (w_2 c1 c2) w_t (w_r 0) ?_;(repeat' first|exact w_t|apply w_l);all_goals intros))
theorem Zjf {p q:Po} {i:Nat} (hi:i < q.length):mlM p (q.take (i+1))=addM (mlM p (q.take i)) (Zat mulM p q[i]):=by
 unfold mlM mulR;rw [List.take_succ_eq_append_getElem hi,List.foldl_append];rfl
theorem Zo9 {q:Po} (h:SrtM q) (i:Nat):SrtM (q.take i):=⟨λt ht=>h.1 t (List.mem_of_mem_take ht),List.Pairwise.sublist (List.take_sublist i q) h.2⟩
theorem rpMul (p q:Po) {j k e f K E:Nat} (hp:PK p j e) (hq:PK q k f) (sp:SrtM p) (sq:SrtM q) (lp:p.length≤1000000) (lq:q.length≤1000000) (hj:j≤500000) (hk:k≤500000) (he:e≤8000000) (hf:f≤8000000)
 (ho:∀i,PK (mlM p (q.take i)) K E∧(mlM p (q.take i)).length≤1000000) (hK:K≤1000000) (hE:E≤16777216) :
 Pure Tryz.prog 27 [poA p,poA q] (poA (mlM p q)):=by
 refine Zaa (tok:=0) Tryz.func27 rfl Tryz.ntmps27 Tryz.results27 Tryz.call27 (by rfl) (by simp) ?_;(focus (refine wkap (w_1 @Zbb) w_t (w_r 0) ?_;(repeat' first|exact w_t|apply w_l);all_goals intros));refine Zfo (Frz.nil (d:=5) 4 (by exact gC)) ?_;refine Zal (ι:=Nat) (λi e' m=>i≤q.length∧e' 0=poA p∧e' 1=poA q∧e' 6=iv i∧e' 5=poA (mlM p (q.take i))) (λi=>q.length - i) 0 (by rfl) ?_ ?_
 ·rintro i e' m ⟨hi,e0,e1,e6,e5⟩
  by_cases hlt:i < q.length
  ·have hg:=Zbu tmA hlt;have ht:PK [q[i]] k f:=λu hu=>by rw [List.mem_singleton] at hu;subst hu;exact hq _ (List.getElem_mem hlt)
   have c1:=rpTimes p q[i] hp ht lp (by omega) (by omega) (by omega) (by omega);have c2:=rpAdd (mlM p (q.take i)) (Zat mulM p q[i]) (k:=j+k) (e:=max E (e+f)) ((ho i).1.mono (Nat.le_refl _) (by omega)) ((hp.times ht).mono (Nat.le_refl _) (by omega)) (Zhg ordM mulK sp (Zo9 sq i)) (Zd6 mulK sp (sq.1 _ (List.getElem_mem hlt)).1 (sq.1 _ (List.getElem_mem hlt)).2) (ho i).2 (by rw [Zeu];exact lp) hK (by omega) (by omega);rw [←Zjf hlt] at c2;generalize q[i]=t at *;obtain⟨t1,t2⟩:=t;generalize Zat mulM p (t1,t2)=w at *;generalize mlM p (q.take i)=out at *;generalize hout:mlM p (q.take (i+1))=out' at *
   (focus (refine wkap (w_6 e0 e1 e6 e5 hg @Zbb) (w_2 c1 c2) (w_r 0) ?_;(repeat' first|exact w_t|apply w_l);all_goals intros));exact⟨i+1,⟨by omega,by exact gW e0,by exact gW e1,by exact gS,by rw [hout];exact gC⟩,by omega⟩
  ·have hi2:i=q.length:=by omega
   subst hi2;rw [List.take_length] at e5;(focus (refine wklp (w_5 e0 e1 e6 e5 @Zbb) w_t w_t (w_r 0) ?_;(repeat' first|exact w_t|apply w_l);all_goals intros))
 ·exact⟨Nat.zero_le _,by exact gC,by exact gC,by exact gC,by(simp (disch:=omega) only [go_sem,List.take_zero,mlM,mulR,List.foldl_nil,List.map_nil]<;>repeat' first|rfl|refine⟨?_,?_⟩)⟩
theorem Zpa (c:Rat) (m:List Int) {k:Nat} (hc:Sz c k) (hk:k≤1000000):Pure Tryz.prog 55 [.v (.slice none 0 0),ratQ c,ivs m] (poA (if c=0 then [] else [(c,m)])):=by
 have cs:=qSign c hc (by omega);have cn:=Zmg c hc (by omega);by_cases h:c=0
 ·rw [if_pos h];have hz:c.num.sign=0:=by rw [Zey];exact h
  refine Zaa (tok:=0) Tryz.func55 rfl Tryz.ntmps55 Tryz.results55 Tryz.call55 (by rfl) (by simp) ?_;(focus (refine wkax (w_1 hz) (w_1 cs) w_t w_t w_t w_t (w_r 2) ?_;(repeat' first|exact w_t|apply w_l);all_goals intros))
  (all_goals (try simp (disch:=omega) only [go_sem,decide_eq_true,decide_eq_false,if_pos,if_neg,Int.reduceAdd,Int.reduceSub,Int.reduceToNat,Int.zero_add]));(all_goals first|done|rfl|(congr 2;first|done|omega|(rw [Bool.eq_iff_iff];simp only [bool_to_prop,Bool.false_eq_true,iff_true,true_iff,iff_false,false_iff];omega))|skip)
 ·rw [if_neg h];have hz:¬c.num.sign=0:=by rw [Zey];exact h
  generalize c.num.sign=z at *;refine Zaa (tok:=0) Tryz.func55 rfl Tryz.ntmps55 Tryz.results55 Tryz.call55 (by rfl) (by simp) ?_;(focus (refine wkax w_t (w_2 cs cn) w_t w_t w_t w_t (w_r 2) ?_;(repeat' first|exact w_t|apply w_l);all_goals intros))
  (all_goals (try simp (disch:=omega) only [go_sem,decide_eq_true,decide_eq_false,if_pos,if_neg,Int.reduceAdd,Int.reduceSub,Int.reduceToNat,Int.zero_add]));(all_goals first|done|rfl|(congr 2;first|done|omega|(rw [Bool.eq_iff_iff];simp only [bool_to_prop,Bool.false_eq_true,iff_true,true_iff,iff_false,false_iff];omega))|skip)
theorem rpVar (v:Nat) (hv:v < 1000):Pure Tryz.prog 22 [iv v] (poA (varM v)):=by
 unfold varM;by_cases h:v < 64
 ·rw [if_pos h];have c1:=qOf 1 (by omega);rw [show((1:Nat):Rat)=1 from rfl] at c1;have c2:=Zpa 1 (Zgo v) (Zoe 1 (by omega)) (by omega);rw [if_neg (show(1:Rat)≠0 by decide)] at c2;have hu:(iv 0 :: List.replicate v (iv 0)).set v (iv 1)=(Zgo v).map iv:=by rw [←List.replicate_succ];exact unit_set v
  generalize (1:Rat)=q at *;have hl:(List.replicate (v+1) (iv 0)).length=v+1:=by simp
  refine Zaa (tok:=0) Tryz.func22 rfl Tryz.ntmps22 Tryz.results22 Tryz.call22 (by rfl) (by simp) ?_;(focus (refine wkax (w_2 hl hu) (w_1 c1) w_t (w_1 c2) w_t w_t (w_r 0) ?_;(repeat' first|exact w_t|apply w_l);all_goals intros))
  (all_goals (try simp (disch:=omega) only [go_sem,decide_eq_true,decide_eq_false,if_pos,if_neg,Int.reduceAdd,Int.reduceSub,Int.reduceToNat,Int.zero_add]));(all_goals first|done|rfl|(congr 2;first|done|omega|(rw [Bool.eq_iff_iff];simp only [bool_to_prop,Bool.false_eq_true,iff_true,true_iff,iff_false,false_iff];omega))|skip)
 ·rw [if_neg h];refine Zgg (r:=.v (.slice none 0 0)) ?_ (.nil 4);refine Zaa (tok:=0) Tryz.func22 rfl Tryz.ntmps22 Tryz.results22 Tryz.call22 (by rfl) (by simp) ?_;(focus (refine wklp w_t w_t w_t (w_r 0) ?_;(repeat' first|exact w_t|apply w_l);all_goals intros))
theorem Ztf (a:Rat):cmpQ a a=0:=by
 unfold cmpQ;rw [if_neg (Rat.lt_irrefl),if_neg (Rat.lt_irrefl)]
theorem cmpQ_eq {a b:Rat} (h:cmpQ a b=0):a=b:=by
 unfold cmpQ at h;split at h
 ·omega
 ·split at h
  ·omega
  ·exact Rat.le_antisymm (Rat.not_lt.1 ‹_›) (Rat.not_lt.1 ‹_›)
def cmpT (s t:Tm):Int:=if lexC s.2 t.2 (max s.2.length t.2.length)≠0 then lexC s.2 t.2 (max s.2.length t.2.length) else cmpQ s.1 t.1
def Zg3:Po→Po→Int
 | [],[]=>0
 | [],_ :: _=>-1
 | _ :: _,[]=>1
 | s :: p,t :: q=>if cmpT s t≠0 then cmpT s t else Zg3 p q
theorem Zte {s t:Tm} (ds:Can s.2) (dt:Can t.2):cmpT s t=0↔s=t:=by
 unfold cmpT;constructor
 ·intro h;split at h
  ·rename_i h1;exact absurd h h1
  ·rename_i h1;rcases Zhy ds dt with⟨_,h2⟩ | ⟨_,_,h2,_⟩ | ⟨_,_,h2⟩
   ·omega
   ·exact Prod.ext (cmpQ_eq h) h2
   ·omega
 ·rintro rfl
  rw [if_neg (by rw [Zm4 _ λj _=>rfl];simp),Ztf]
theorem Zkq:∀{p q:Po},(∀t∈p,Can t.2)→(∀t∈q,Can t.2)→(Zg3 p q=0↔p=q)
 | [],[],_,_=>by simp [Zg3]
 | [],_ :: _,_,_=>by simp [Zg3]
 | _ :: _,[],_,_=>by simp [Zg3]
 | s :: p,t :: q,hp,hq=>by
   have h1:=Zte (hp s (.head _)) (hq t (.head _));have h2:=Zkq (p:=p) (q:=q) (λu hu=>hp u (.tail _ hu)) (λu hu=>hq u (.tail _ hu));unfold Zg3;by_cases h:cmpT s t=0
   ·rw [if_neg (by simpa using h),h2,h1.1 h];simp
   ·rw [if_pos h];constructor
    ·intro h3;exact absurd h3 h
    ·intro h3;cases h3;exact absurd (h1.2 rfl) h
theorem Ztg {p q:Po} {i:Nat} (h:p.length≤i∨q.length≤i):Zg3 (p.drop i) (q.drop i)=if (p.drop i).length < (q.drop i).length then -1 else if (q.drop i).length < (p.drop i).length then 1 else 0:=by
 rcases h with h | h
 ·rw [List.drop_eq_nil_of_le h];cases q.drop i<;>simp [Zg3]
 ·rw [List.drop_eq_nil_of_le h];cases p.drop i<;>simp [Zg3]
theorem rpCmp (p q:Po) {j k e f:Nat} (hp:PK p j e) (hq:PK q k f) (lp:p.length≤1000000) (lq:q.length≤1000000) (hj:j≤2000000) (hk:k≤2000000) (he:e≤16777216) (hf:f≤16777216) :
 Pure Tryz.prog 37 [poA p,poA q] (iv (Zg3 p q)):=by
 refine Zaa (tok:=0) Tryz.func37 rfl Tryz.ntmps37 Tryz.results37 Tryz.call37 (by rfl) (by simp) ?_;(focus (refine wkad (w_1 @Zbb) w_t w_t ?_;(repeat' first|exact w_t|apply w_l);all_goals intros));refine Zal (ι:=Nat) (λi e m=>i≤p.length∧i≤q.length∧e 0=poA p∧e 1=poA q∧e 5=iv i∧Zg3 p q=Zg3 (p.drop i) (q.drop i)) (λi=>p.length - i) 0 (by rfl) ?_ ?_
 ·rintro i e m ⟨hi,hl,e0,e1,e5,hs⟩
  by_cases hil:i < p.length∧i < q.length
  ·obtain⟨hi2,hl2⟩:=hil;have hg:=Zbu tmA hi2;have hh:=Zbu tmA hl2;have cl:=rpLex p[i].2 q[i].2 (hp.sm he (List.getElem_mem hi2)) (hq.sm hf (List.getElem_mem hl2));have cq:=qCmp p[i].1 q[i].1 (hp _ (List.getElem_mem hi2)).1 (hq _ (List.getElem_mem hl2)).1 (by omega) (by omega);rw [List.drop_eq_getElem_cons hi2,List.drop_eq_getElem_cons hl2,Zg3,cmpT] at hs;generalize p[i]=s at *;generalize q[i]=t at *;obtain⟨s1,s2⟩:=s;obtain⟨t1,t2⟩:=t;simp only at *;generalize lexC s2 t2 (max s2.length t2.length)=x at *;generalize cmpQ s1 t1=y at *;by_cases hx:x=0
   ·rw [if_neg (show ¬x≠0 by omega)] at hs;by_cases hy:y=0
    ·rw [if_neg (by omega)] at hs;(focus (refine wkad (w_6 e0 e1 e5 hg hh @Zbb) (w_2 cl cq) (w_2 (w_d 4 [(10,iv x)] [] []) (w_d 7 [(10,iv y)] [] [])) ?_;(repeat' first|exact w_t|apply w_l);all_goals intros));exact⟨i+1,⟨by omega,by omega,by exact gW e0,by exact gW e1,by exact gS,hs⟩,by omega⟩
    ·rw [if_pos hy] at hs;rw [hs];(focus (refine wkld (w_6 e0 e1 e5 hg hh @Zbb) (w_2 cl cq) w_t (w_2 (w_d 4 [(10,iv x)] [] []) (w_d 7 [(10,iv y)] [] [])) ?_;(repeat' first|exact w_t|apply w_l);all_goals intros))
   ·rw [if_pos hx,if_pos hx] at hs;rw [hs];(focus (refine wkld (w_6 e0 e1 e5 hg hh @Zbb) (w_1 cl) w_t (w_1 (w_d 4 [(10,iv x)] [] [])) ?_;(repeat' first|exact w_t|apply w_l);all_goals intros))
  ·rw [Ztg (by omega),List.length_drop,List.length_drop] at hs;rw [hs];(focus (refine wkld (w_4 e0 e1 e5 @Zbb) w_t w_t w_t ?_;(repeat' first|exact w_t|apply w_l);all_goals intros))
 ·exact⟨Nat.zero_le _,Nat.zero_le _,by exact gC,by exact gC,by exact gC,by simp⟩
theorem Zrt (p q:Po) {j k e f:Nat} (hp:PK p j e) (hq:PK q k f) (dp:∀t∈p,Can t.2) (dq:∀t∈q,Can t.2) (lp:p.length≤1000000) (lq:q.length≤1000000) (hj:j≤2000000) (hk:k≤2000000) (he:e≤16777216) (hf:f≤16777216) :
 Pure Tryz.prog 11 [poA p,poA q] (.v (.bool (decide (p=q)))):=by
 have c:=rpCmp p q hp hq lp lq hj hk he hf;have h:=Zkq dp dq;rw [show decide (p=q)=decide (Zg3 p q=0) from by rw [Bool.eq_iff_iff,decide_eq_true_eq,decide_eq_true_eq,h]];generalize Zg3 p q=z at *;clear h;refine Zaa (tok:=0) Tryz.func11 rfl Tryz.ntmps11 Tryz.results11 Tryz.call11 (by rfl) (by simp) ?_;(focus (refine wklp w_t (w_1 c) w_t (w_r 0) ?_;(repeat' first|exact w_t|apply w_l);all_goals intros))
structure PB (p:Po) (n j e:Nat):Prop where
 s:SrtM p
 k:PK p j e
 l:p.length≤n
theorem PB.mono {p:Po} {n j e m i f:Nat} (h:PB p n j e) (hn:n≤m) (hj:j≤i) (he:e≤f):PB p m i f:=⟨h.s,h.k.mono hj he,Nat.le_trans h.l hn⟩
theorem PB.nil {n j e:Nat}:PB [] n j e:=⟨.nil,.nil,Nat.zero_le _⟩
theorem PB.add {p q:Po} {n j e m k f:Nat} (h:PB p n j e) (g:PB q m k f):PB (addM p q) (n+m) (j+k+1) (max e f) :=
 ⟨Zeo ordM h.s g.s,(h.k.mono (Nat.le_refl _) (Nat.le_max_left ..)).add (g.k.mono (Nat.le_refl _) (Nat.le_max_right ..)),Nat.le_trans (Ziq p q) (Nat.add_le_add h.l g.l)⟩
theorem PB.neg {p:Po} {n j e:Nat} (h:PB p n j e):PB (Zbe (-1) p) n j e:=⟨Zd8 h.s neg1,h.k.neg,by rw [Zg8];exact h.l⟩
theorem PB.sub {p q:Po} {n j e m k f:Nat} (h:PB p n j e) (g:PB q m k f):PB (subM p q) (n+m) (j+k+1) (max e f):=h.add g.neg
theorem PB.times {p:Po} {t:Tm} {n j e k f:Nat} (h:PB p n j e) (ht:PK [t] k f) (h0:t.1≠0) (hd:Can t.2):PB (Zat mulM p t) n (j+k) (e+f) :=
 ⟨Zd6 mulK h.s h0 hd,h.k.times ht,by rw [Zeu];exact h.l⟩
theorem PB.take {q:Po} {m k f:Nat} (g:PB q m k f) (i:Nat):PB (q.take i) m k f :=
 ⟨Zo9 g.s i,λt ht=>g.k t (List.mem_of_mem_take ht),by rw [List.length_take];have:=g.l;omega⟩
theorem PB.one {q:Po} {m k f:Nat} (g:PB q m k f) {t:Tm} (ht:t∈q):PK [t] k f:=λu hu=>by rw [List.mem_singleton] at hu;subst hu;exact g.k _ ht
theorem Zoj {p q:Po} {n j e m k f:Nat} (h:PB p n j e) (g:PB q m k f):∀i,i≤q.length→PB (mlM p (q.take i)) (n*i) (i*(j+k+1)) (e+f)
 | 0,_=>by rw [List.take_zero];exact .nil
 | i+1,hi=>by
   rw [Zjf hi];have h1:=Zoj h g i (by omega);have h2:=h.times (g.one (List.getElem_mem hi)) (g.s.1 _ (List.getElem_mem hi)).1 (g.s.1 _ (List.getElem_mem hi)).2;refine(h1.add h2).mono ?_ ?_ ?_
   ·rw [Nat.mul_succ];omega
   ·rw [Nat.succ_mul];omega
   ·omega
theorem Zok {p q:Po} {n j e m k f:Nat} (h:PB p n j e) (g:PB q m k f) (i:Nat):PB (mlM p (q.take i)) (n*m) (m*(j+k+1)) (e+f):=by
 by_cases hi:i≤q.length
 ·have hm:=g.l;exact(Zoj h g i hi).mono (Nat.mul_le_mul_left _ (by omega)) (Nat.mul_le_mul_right _ (by omega)) (Nat.le_refl _)
 ·rw [List.take_of_length_le (by omega)];have:=Zoj h g q.length (Nat.le_refl _);rw [List.take_length] at this;exact this.mono (Nat.mul_le_mul_left _ g.l) (Nat.mul_le_mul_right _ g.l) (Nat.le_refl _)
theorem PB.mul {p q:Po} {n j e m k f:Nat} (h:PB p n j e) (g:PB q m k f):PB (mlM p q) (n*m) (m*(j+k+1)) (e+f):=by
 have:=Zok h g q.length
 rwa [List.take_length] at this
theorem sumH_pb {s e n:Nat} (l:List Po) (h:∀p∈l,PB p n s e):PB (sumH ltM l) (l.length*n) (l.length*(s+1) - 1) e:=by
 fun_induction sumH ltM l with
 | case1=>exact .nil
 | case2 p=>exact(h p (.head _)).mono (by simp) (by simp) (Nat.le_refl _)
 | case3 p q l ih1 ih2 =>
   have h1:=ih1 λu hu=>h u (List.mem_of_mem_take hu);have h2:=ih2 λu hu=>h u (List.mem_of_mem_drop hu);rw [List.length_take] at h1;rw [List.length_drop] at h2;have hL:2≤(p :: q :: l).length:=by simp
   generalize (p :: q :: l).length=L at *;rw [Nat.min_eq_left (by omega)] at h1;have e1:L/2+(L - L/2)=L:=by omega
   have a1:1≤L/2*(s+1):=Nat.le_trans (by omega) (Nat.le_mul_of_pos_right (L/2) (show 0 < s+1 by omega));have a2:1≤(L - L/2)*(s+1):=Nat.le_trans (show 1≤L - L/2 by omega) (Nat.le_mul_of_pos_right (L - L/2) (show 0 < s+1 by omega));refine(h1.add h2).mono ?_ ?_ (by omega)
   ·rw [←Nat.add_mul,e1];exact Nat.le_refl _
   ·have e2:L/2*(s+1)+(L - L/2)*(s+1)=L*(s+1):=by rw [←Nat.add_mul,e1]
    omega
theorem sum_ok {s e n N:Nat} (l:List Po) (h:∀p∈l,PB p n s e) (hN:l.length≤N) (hb:N*n≤1000000):SumOk l (N*(s+1)) e:=λa b=>by
 have h1:∀p∈(l.drop a).take b,PB p n s e:=λp hp=>h p (List.mem_of_mem_drop (List.mem_of_mem_take hp));have h2:=sumH_pb _ h1;have h3:((l.drop a).take b).length≤N:=by rw [List.length_take,List.length_drop];omega
 refine⟨h2.k.mono ?_ (Nat.le_refl _),Nat.le_trans h2.l (Nat.le_trans (Nat.mul_le_mul_right _ h3) hb)⟩;have:=Nat.mul_le_mul_right (s+1) h3;omega
theorem parts_ok {p q:Po} {n j e m k f:Nat} (h:PB p n j e) (g:PB q m k f) (hn:n*m≤1000000):SumOk (Zpq p q) (min n m*(j+k+1)) (e+f):=by
 unfold Zpq;have l1:=h.l;have l2:=g.l;split
 ·rename_i hlt;have:=sum_ok (q.map λt=>Zat mulM p t) (n:=p.length) (s:=j+k) (e:=e+f) (N:=q.length) (λu hu=>by
   obtain⟨t,ht,rfl⟩:=List.mem_map.1 hu;have h':PB p p.length j e:=⟨h.s,h.k,Nat.le_refl _⟩;exact h'.times (g.one ht) (g.s.1 t ht).1 (g.s.1 t ht).2) (by rw [List.length_map];exact Nat.le_refl _) (by rw [Nat.mul_comm];exact Nat.le_trans (Nat.mul_le_mul l1 l2) hn)
  exact λa b=>⟨(this a b).1.mono (Nat.mul_le_mul_right _ (by omega)) (Nat.le_refl _),(this a b).2⟩
 ·rename_i hlt;have:=sum_ok (p.map λt=>Zat mulM q t) (n:=q.length) (s:=k+j) (e:=f+e) (N:=p.length) (λu hu=>by
   obtain⟨t,ht,rfl⟩:=List.mem_map.1 hu;have h':PB q q.length k f:=⟨g.s,g.k,Nat.le_refl _⟩;exact h'.times (h.one ht) (h.s.1 t ht).1 (h.s.1 t ht).2) (by rw [List.length_map];exact Nat.le_refl _) (Nat.le_trans (Nat.mul_le_mul l1 l2) hn)
  refine λa b=>⟨(this a b).1.mono ?_ (by omega),(this a b).2⟩;rw [Nat.add_comm k j];exact Nat.mul_le_mul_right _ (by omega)
theorem hpAdd {p q:Po} {n j e m k f:Nat} (h:PB p n j e) (g:PB q m k f) (hn:n≤1000000) (hm:m≤1000000) (hj:j≤1000000) (hk:k≤1000000) (he:e≤100) (hf:f≤100) :
 Pure Tryz.prog 16 [poA p,poA q] (poA (addM p q))∧Pure Tryz.prog 25 [poA p,poA q] (poA (addM p q)) :=
 have l1:=h.l;have l2:=g.l
 ⟨poAdd p q (h.k.mono (Nat.le_refl _) he) (g.k.mono (Nat.le_refl _) hf) h.s g.s (by omega) (by omega) hj hk (by omega),rpAdd p q (h.k.mono (Nat.le_refl _) he) (g.k.mono (Nat.le_refl _) hf) h.s g.s (by omega) (by omega) hj hk (by omega)⟩
theorem hpSub {p q:Po} {n j e m k f:Nat} (h:PB p n j e) (g:PB q m k f) (hn:n≤1000000) (hm:m≤1000000) (hj:j≤1000000) (hk:k≤1000000) (he:e≤100) (hf:f≤100) :
 Pure Tryz.prog 31 [poA p,poA q] (poA (subM p q))∧Pure Tryz.prog 24 [poA p,poA q] (poA (subM p q)) :=
 have l1:=h.l;have l2:=g.l
 ⟨poSub p q (h.k.mono (Nat.le_refl _) he) (g.k.mono (Nat.le_refl _) hf) h.s g.s (by omega) (by omega) hj hk (by omega),rpSub p q (h.k.mono (Nat.le_refl _) he) (g.k.mono (Nat.le_refl _) hf) h.s g.s (by omega) (by omega) hj hk (by omega)⟩
theorem hpMul {p q:Po} {n j e m k f:Nat} (h:PB p n j e) (g:PB q m k f) (hn:n≤1000000) (hm:m≤1000000) (hj:j≤500000) (hk:k≤500000) (he:e≤100) (hf:f≤100) (hnm:n*m≤1000000) (hK:min n m*(j+k+1)≤1000000) (hR:m*(j+k+1)≤1000000) :
 Pure Tryz.prog 17 [poA p,poA q] (poA (mlM p q))∧Pure Tryz.prog 27 [poA p,poA q] (poA (mlM p q)) :=
 have l1:=h.l;have l2:=g.l
 ⟨poMul p q h.k g.k h.s g.s (by omega) (by omega) (by omega) (by omega) (by omega) (by omega) (parts_ok h g hnm) hK (by omega),
  rpMul p q h.k g.k h.s g.s (by omega) (by omega) hj hk (by omega) (by omega) (λi=>⟨(Zok h g i).k,Nat.le_trans (Zok h g i).l hnm⟩) hR (by omega)⟩
end Go.Proofs.YtimmnimikmnljaaGreat
namespace Go.Proofs.YtimmnimikmnljaaGreat
open Go Go.RowKit Go.Pg Go.Pol
theorem CQ.mono {p:Po} {D B E C:Nat} (h:CQ p D B) (hd:D ∣ E) (hb:B≤C):CQ p E C:=λt ht=>(h t ht).mono hd hb
theorem CQ.nil {D B:Nat}:CQ [] D B:=λt ht=>absurd ht (by simp)
theorem CQ.add {p q:Po} {D B C:Nat} (h:CQ p D B) (g:CQ q D C):CQ (addM p q) D (B+C):=by
 intro t ht;rcases Zhh ht with h1 | h1 | ⟨s,hs,u,hu,rfl⟩
 ·exact(h t h1).mono (Nat.dvd_refl _) (by omega)
 ·exact(g t h1).mono (Nat.dvd_refl _) (by omega)
 ·exact(h s hs).add (g u hu)
theorem CQ.times {p:Po} {t:Tm} {D B E C:Nat} (h:CQ p D B) (g:BQ E C t.1):CQ (Zat mulM p t) (D*E) (B*C):=λu hu=>by
 obtain⟨s,hs,rfl⟩:=List.mem_map.1 hu;exact(h s hs).mul g
theorem Zta {p q:Po} {D B E C:Nat} (h:CQ p D B) (g:CQ q E C):∀i,i≤q.length→CQ (mlM p (q.take i)) (D*E) (i*(B*C))
 | 0,_=>by rw [List.take_zero];exact .nil
 | i+1,hi=>by
   rw [Zjf hi,Nat.succ_mul];exact(Zta h g i (by omega)).add (h.times (g _ (List.getElem_mem hi)))
theorem CQ.mul {p q:Po} {D B E C m:Nat} (h:CQ p D B) (g:CQ q E C) (hm:q.length≤m):CQ (mlM p q) (D*E) (m*(B*C)):=by
 have:=Zta h g q.length (Nat.le_refl _);rw [List.take_length] at this;exact this.mono (Nat.dvd_refl _) (Nat.mul_le_mul_right _ hm)
def smE (qs bs:List Po) (r:Po):Nat→Po
 | 0=>r
 | i+1=>addM (smE qs bs r i) (mlM (qs.getD i []) (bs.getD i []))
theorem BO.pb {b:Po} (h:BO b):PB b 4 1 2:=⟨h.s,λt ht=>⟨h.z t ht,by have:=(h.x t ht).1;omega,λj=>⟨(h.s.dom t ht).1 j,by
 have h1:=dg3 (h.x t ht).1;have h2:=(h.x t ht).2;have c0:=(h.s.dom t ht).1 0;have c1:=(h.s.dom t ht).1 1;have c2:=(h.s.dom t ht).1 2
 match j with
 | 0=>omega
 | 1=>omega
 | 2=>omega
 | j+3=>rw [Zbg (by have:=(h.x t ht).1;omega)];omega⟩⟩,h.l⟩
theorem Zp4 {bs:List Po} {i:Nat} (hi:i < bs.length):bs.getD i []∈bs:=by
 rw [List.getD_eq_getElem?_getD,List.getElem?_eq_getElem hi];exact List.getElem_mem hi
end Go.Proofs.YtimmnimikmnljaaGreat
namespace Go.Proofs.YtimmnimikmnljaaGreat
open Go Go.RowKit Go.Pg Go.Pol
attribute [-bool_to_prop] Bool.and_eq_decide Bool.or_eq_decide Bool.decide_beq_decide decide_eq_decide
attribute [local go_sem] Tryz.underlying3 Tryz.underlying4 Tryz.underlying44 Tryz.underlying42 Tryz.underlying40 Tryz.underlying48 Tryz.underlying22 Tryz.underlying46 Tryz.underlying23 Tryz.underlying45 sz3 by3 z3 szB zB Zco zRat Zcq zInt Zcp zNat Zb3 Zb8 Zc5 Zb5 Zca Zc7 Zb4 Zb9 Zc6
theorem big_pk {p:Po} {k e:Nat} (h:PK p k e) (he:e≤1048576):bigP p=decide (4000 < p.length):=by
 unfold bigP
 have:(p.any λt=>t.2.any λx=>decide (1048576 < x))=false:=by
  rw [List.any_eq_false];intro t ht;rw [Bool.not_eq_true,List.any_eq_false];intro x hx;obtain⟨j,hj,rfl⟩:=List.mem_iff_getElem.1 hx;have:=((h t ht).2.2 j).2;rw [Zfp hj] at this;simp;omega
 rw [this,Bool.or_false]
theorem grOne (x:Int) (h:x≤1048576):Pure Tryz.prog 69 [.v (.int .i64 x)] (.v (.bool false)):=by
 refine Zaa (tok:=0) Tryz.func69 rfl Tryz.ntmps69 Tryz.results69 Tryz.call69 (by rfl) (by simp) ?_;(focus (refine wkld w_t w_t w_t w_t ?_;(repeat' first|exact w_t|apply w_l);all_goals intros))
theorem grIdx (m:List Int) (hl:m.length≤1000) (h:∀j,gI m j≤1048576):Pure Tryz.prog 118 [ints m,.fn 69 []] (.v (.int .i64 (-1))):=by
 unfold ints;refine Zaa (tok:=0) Tryz.func118 rfl Tryz.ntmps118 Tryz.results118 Tryz.call118 (by rfl) (by simp) ?_;(focus (refine wkad w_t w_t w_t ?_;(repeat' first|exact w_t|apply w_l);all_goals intros));refine Zal (ι:=Nat) (λk e' m'=>k≤m.length∧e' 0=.sl 1 (m.map λn=>AV.v (.int .i64 n))∧e' 1=.fn 69 []∧e' 7=iv m.length∧e' 8=iv k) (λk=>m.length - k) 0 (by rfl) ?_ ?_
 ·rintro k e' m' ⟨hk,e0,e1,e7,e8⟩
  by_cases hlt:k < m.length
  ·have c:=grOne (gI m k) (h k);(focus (refine wkad (w_4 e0 e1 e7 e8) (w_1 c) w_t ?_;(repeat' first|exact w_t|apply w_l);all_goals intros));exact⟨k+1,⟨by omega,by exact gW e0,by exact gW e1,by exact gW e7,by exact gS⟩,by omega⟩
  ·(focus (refine wkld (w_4 e0 e1 e7 e8) w_t w_t w_t ?_;(repeat' first|exact w_t|apply w_l);all_goals intros))
 ·exact⟨Nat.zero_le _,by exact gC,by exact gC,by exact gC,by exact gC⟩
theorem grAny (m:List Int) (hl:m.length≤1000) (h:∀j,gI m j≤1048576):Pure Tryz.prog 68 [ints m,.fn 69 []] (.v (.bool false)):=by
 have c:=grIdx m hl h;refine Zaa (tok:=0) Tryz.func68 rfl Tryz.ntmps68 Tryz.results68 Tryz.call68 (by rfl) (by simp) ?_;(focus (refine wkld w_t (w_1 c) w_t w_t ?_;(repeat' first|exact w_t|apply w_l);all_goals intros))
theorem grTm (t:Tm) (hl:t.2.length≤1000) (h:∀j,gI t.2 j≤1048576):Pure Tryz.prog 67 [tmA t] (.v (.bool false)):=by
 obtain⟨q,m⟩:=t;have c:Pure Tryz.prog 68 [ivs m,.fn 69 []] (.v (.bool false)):=grAny m hl h;refine Zaa (tok:=0) Tryz.func67 rfl Tryz.ntmps67 Tryz.results67 Tryz.call67 (by rfl) (by simp) ?_;(focus (refine wkld w_t (w_1 c) w_t w_t ?_;(repeat' first|exact w_t|apply w_l);all_goals intros))
theorem grIdxP (p:Po) {k e:Nat} (hp:PK p k e) (he:e≤1048576) (hl:p.length≤1000000):Pure Tryz.prog 117 [poA p,.fn 67 []] (.v (.int .i64 (-1))):=by
 refine Zaa (tok:=0) Tryz.func117 rfl Tryz.ntmps117 Tryz.results117 Tryz.call117 (by rfl) (by simp) ?_;(focus (refine wkad (w_1 @Zbb) w_t w_t ?_;(repeat' first|exact w_t|apply w_l);all_goals intros));refine Zal (ι:=Nat) (λi e' m'=>i≤p.length∧e' 0=poA p∧e' 1=.fn 67 []∧e' 7=iv p.length∧e' 8=iv i) (λi=>p.length - i) 0 (by rfl) ?_ ?_
 ·rintro i e' m' ⟨hi,e0,e1,e7,e8⟩
  by_cases hlt:i < p.length
  ·have hg:=Zbu tmA hlt;have c:=grTm p[i] (hp _ (List.getElem_mem hlt)).2.1 λj=>by have:=(hp _ (List.getElem_mem hlt)).2.2 j;omega
   generalize p[i]=t at *;(focus (refine wkad (w_6 e0 e1 e7 e8 hg @Zbb) (w_1 c) w_t ?_;(repeat' first|exact w_t|apply w_l);all_goals intros));exact⟨i+1,⟨by omega,by exact gW e0,by exact gW e1,by exact gW e7,by exact gS⟩,by omega⟩
  ·(focus (refine wkld (w_5 e0 e1 e7 e8 @Zbb) w_t w_t w_t ?_;(repeat' first|exact w_t|apply w_l);all_goals intros))
 ·exact⟨Nat.zero_le _,by exact gC,by exact gC,by(simp (disch:=omega) only [go_sem,List.length_map]<;>repeat' first|rfl|refine⟨?_,?_⟩),by exact gC⟩
theorem grAnyP (p:Po) {k e:Nat} (hp:PK p k e) (he:e≤1048576) (hl:p.length≤1000000):Pure Tryz.prog 66 [poA p,.fn 67 []] (.v (.bool false)):=by
 have c:=grIdxP p hp he hl;refine Zaa (tok:=0) Tryz.func66 rfl Tryz.ntmps66 Tryz.results66 Tryz.call66 (by rfl) (by simp) ?_;(focus (refine wkld w_t (w_1 c) w_t w_t ?_;(repeat' first|exact w_t|apply w_l);all_goals intros))
theorem grLarge (p:Po) {k e:Nat} (hp:PK p k e) (he:e≤1048576) (hl:p.length≤1000000):Pure Tryz.prog 29 [poA p] (.v (.bool (bigP p))):=by
 rw [big_pk hp he];have c:=grAnyP p hp he hl;by_cases h:4000 < p.length
 ·rw [decide_eq_true h];refine Zaa (tok:=0) Tryz.func29 rfl Tryz.ntmps29 Tryz.results29 Tryz.call29 (by rfl) (by simp) ?_;(focus (refine wkld (w_1 @Zbb) (w_1 c) w_t w_t ?_;(repeat' first|exact w_t|apply w_l);all_goals intros))
 ·rw [decide_eq_false h];refine Zaa (tok:=0) Tryz.func29 rfl Tryz.ntmps29 Tryz.results29 Tryz.call29 (by rfl) (by simp) ?_;(focus (refine wkld (w_1 @Zbb) (w_1 c) w_t w_t ?_;(repeat' first|exact w_t|apply w_l);all_goals intros))
theorem rpLarge (p:Po) {k e:Nat} (hp:PK p k e) (he:e≤1048576) (hl:p.length≤1000000):Pure Tryz.prog 33 [poA p] (.v (.bool (bigP p))):=by
 rw [big_pk hp he];refine Zaa (tok:=0) Tryz.func33 rfl Tryz.ntmps33 Tryz.results33 Tryz.call33 (by rfl) (by simp) ?_;(focus (refine wkad w_t w_t w_t ?_;(repeat' first|exact w_t|apply w_l);all_goals intros));refine Zal (ι:=Nat) (λi e' m'=>i≤p.length∧e' 0=poA p∧e' 3=iv i) (λi=>p.length - i) 0 (by rfl) ?_ ?_
 ·rintro i e' m' ⟨hi,e0,e3⟩
  by_cases hlt:i < p.length
  ·have hg:=Zbu tmA hlt;have h1:=(hp _ (List.getElem_mem hlt)).2.1;have h2:=(hp _ (List.getElem_mem hlt)).2.2;generalize p[i]=t at *;obtain⟨q,m⟩:=t;simp only at h1 h2;(focus (refine wkad (w_4 e0 e3 hg @Zbb) w_t w_t ?_;(repeat' first|exact w_t|apply w_l);all_goals intros));refine Zal (ι:=Nat) (λv e2 m2=>v≤m.length∧e2 0=poA p∧e2 3=iv i∧e2 4=iv v) (λv=>m.length - v) 0 (by rfl) ?_ ?_
   ·rintro v e2 m2 ⟨hv,f0,f3,f4⟩
    by_cases hv2:v < m.length
    ·have:=h2 v;(focus (refine wkad (w_5 f0 f3 f4 hg @Zbb) w_t w_t ?_;(repeat' first|exact w_t|apply w_l);all_goals intros));exact⟨v+1,⟨by omega,by exact gW f0,by exact gW f3,by exact gS⟩,by omega⟩
    ·(focus (refine wkad (w_5 f0 f3 f4 hg @Zbb) w_t w_t ?_;(repeat' first|exact w_t|apply w_l);all_goals intros));exact⟨i+1,⟨by omega,by exact gW f0,by exact gS⟩,by omega⟩
   ·exact⟨Nat.zero_le _,by exact gW e0,by exact gW e3,by exact gC⟩
  ·by_cases h:4000 < p.length
   ·rw [decide_eq_true h];(focus (refine wkld (w_3 e0 e3 @Zbb) w_t w_t w_t ?_;(repeat' first|exact w_t|apply w_l);all_goals intros))
   ·rw [decide_eq_false h];(focus (refine wkld (w_3 e0 e3 @Zbb) w_t w_t w_t ?_;(repeat' first|exact w_t|apply w_l);all_goals intros))
 ·exact⟨Nat.zero_le _,by exact gC,by exact gC⟩
theorem Zsq (o:Int) (t:Tm) (r:Po) {j:Nat} (hj:j < r.length):(r.take (j+1)).foldl (ldF o) t=ldF o ((r.take j).foldl (ldF o) t) r[j]:=by
 rw [List.take_succ_eq_append_getElem hj,List.foldl_append];rfl
theorem Zsp {o:Int} {t:Tm} {r:Po} (P:Tm→Prop) (h:∀u∈t :: r,P u) (j:Nat):P ((r.take j).foldl (ldF o) t):=by
 have key:∀(l:Po) (t:Tm),P t→(∀u∈l,P u)→P (l.foldl (ldF o) t):=by
  intro l
  induction l with
  | nil=>exact λt ht _=>ht
  | cons s l ih =>
    intro t ht hl;refine ih (ldF o t s) ?_ λu hu=>hl u (.tail _ hu);unfold ldF;split
    ·exact hl s (.head _)
    ·exact ht
 exact key _ t (h t (.head _)) λu hu=>h u (.tail _ (List.mem_of_mem_take hu))
theorem poLead1 (s t:Tm) (o:Int) (hs:Sm s.2) (ht:Sm t.2):Pure Tryz.prog 50 [tmA s,tmA t,.pimm [iv o]] (iv (cmpI s.2 t.2 o)):=by
 obtain⟨s1,s2⟩:=s;obtain⟨t1,t2⟩:=t;have c:Pure Tryz.prog 51 [ivs s2,ivs t2,.v (.int .i64 o)] (.v (.int .i64 (cmpI s2 t2 o))):=Zpy s2 t2 o hs ht;refine Zaa (tok:=0) Tryz.func50 rfl Tryz.ntmps50 Tryz.results50 Tryz.call50 (by rfl) (by simp) ?_;(focus (refine wkld w_t (w_1 c) w_t w_t ?_;(repeat' first|exact w_t|apply w_l);all_goals intros))
theorem slMax (t:Tm) (r:Po) (o:Int) (hm:∀u∈t :: r,Sm u.2) (hl:r.length≤1000000):Pure Tryz.prog 49 [poA (t :: r),.fn 50 [.pimm [iv o]]] (tmA (ldO o (t :: r))):=by
 refine Zaa (tok:=0) Tryz.func49 rfl Tryz.ntmps49 Tryz.results49 Tryz.call49 (by rfl) (by simp) ?_;(focus (refine wkad (w_1 @Zbb) w_t w_t ?_;(repeat' first|exact w_t|apply w_l);all_goals intros));rename_i g4 g5;refine Zal (ι:=Nat) (λj e m=>j≤r.length∧e 0=poA (t :: r)∧e 1=.fn 50 [.pimm [iv o]]∧e 6=iv ((j:Int)+1)∧e 5=.pbox 5 g5 0∧e 4=.pbox 4 g4 0∧m 5=some (.box g5 48 [.v (.bool (decide (((r.take j).foldl (ldF o) t).1.num < 0))),lim (toL ((r.take j).foldl (ldF o) t).1.num.natAbs),lim (toL ((r.take j).foldl (ldF o) t).1.den),ivs ((r.take j).foldl (ldF o) t).2] false)∧∃es:List AV,es.length=4∧m 4=some (.box g4 48 es false)) (λj=>r.length - j) 0 (by rfl) ?_ ?_
 ·rintro j e m ⟨hj,e0,e1,e6,e5,e4,m5,es,hes,m4⟩
  by_cases hlt:j < r.length
  ·have hg:=Zbu tmA hlt;have m1:=Zsp (o:=o) (λu=>Sm u.2) hm j;have m2:=hm _ (.tail _ (List.getElem_mem hlt));have st:=Zsq o t r hlt;generalize (r.take j).foldl (ldF o) t=w at *;generalize r[j]=u at *;have c:=poLead1 u w o m2 m1;rw [show ldF o w u=if 0 < cmpI u.2 w.2 o then u else w from rfl] at st;obtain⟨w1,w2⟩:=w;obtain⟨u1,u2⟩:=u;simp only at c st m5;by_cases h:0 < cmpI u2 w2 o
   ·rw [if_pos h] at st
    (repeat' (first|(with_reducible first|refine stp ?_|apply gx1|apply gx2|apply gx3|apply gx4|apply gx5|apply gx6|apply gx7|apply gy8|apply gz2|apply gz3|refine gw0 (c) ?_ ?_|refine gw3 (c) ?_ ?_ ?_)|(with_reducible refine Zbi ?_;intro _)|((with_reducible refine gE ?_);(try simp (disch:=omega) only [go_sem,e0,e1,e6,e5,e4,m5,m4,hg,List.length_map,List.length_cons,decide_eq_true,decide_eq_false,if_pos,if_neg,Int.reduceAdd,Int.reduceSub,Int.reduceToNat,Int.zero_add])<;>first|rfl|omega)|with_reducible refine Zaf (by decide) ?_|((with_reducible apply gy1);iterate 3 focus rfl)|((with_reducible apply gy2);iterate 3 focus rfl)|((with_reducible apply gy3);iterate 2 focus rfl)|((with_reducible apply gy4);iterate 1 focus rfl)|((with_reducible apply gy5);iterate 4 focus rfl)|((with_reducible apply gy5c);iterate 4 focus rfl)|((with_reducible apply gy6);iterate 4 focus rfl)|((with_reducible apply Zc0);iterate 3 focus rfl)|((with_reducible apply Zcx);iterate 1 focus rfl)|((with_reducible apply gy7);iterate 1 focus rfl)|((with_reducible apply gy9);(focus ((with_reducible refine gE ?_);(try simp (disch:=omega) only [go_sem,e0,e1,e6,e5,e4,m5,m4,hg,List.length_map,List.length_cons,decide_eq_true,decide_eq_false,if_pos,if_neg,Int.reduceAdd,Int.reduceSub,Int.reduceToNat,Int.zero_add])<;>rfl)))|((with_reducible apply gz1);(focus first|rfl|(simp (disch:=omega) only [go_sem,e0,e1,e6,e5,e4,m5,m4,hg,List.length_map,List.length_cons,decide_eq_true,decide_eq_false,if_pos,if_neg,Int.reduceAdd,Int.reduceSub,Int.reduceToNat,Int.zero_add];done)))|((with_reducible apply Za2 (id:=7) (Zce [(6,iv (cmpI u2 w2 o))]) [] []);(focus kernel_rfl);(focus rfl);(focus kernel_rfl);(focus (simp only [List.length_cons,List.length_nil,Nat.reduceAdd];rfl)))|((with_reducible first|apply Zbl|apply Zbv|apply Zbm);all_goals (intro hc;(try simp only [bool_to_prop] at hc);try (exfalso;omega)))))
    exact⟨j+1,⟨by omega,by exact gW e0,by exact gW e1,by exact gC,by exact gW e5,by exact gW e4,by exact gW st,_,hes,by exact gW m4⟩,by omega⟩
   ·rw [if_neg h] at st
    (repeat' (first|(with_reducible first|refine stp ?_|apply gx1|apply gx2|apply gx3|apply gx4|apply gx5|apply gx6|apply gx7|apply gy8|apply gz2|apply gz3|refine gw0 (c) ?_ ?_|refine gw3 (c) ?_ ?_ ?_)|(with_reducible refine Zbi ?_;intro _)|((with_reducible refine gE ?_);(try simp (disch:=omega) only [go_sem,e0,e1,e6,e5,e4,m5,m4,hg,List.length_map,List.length_cons,decide_eq_true,decide_eq_false,if_pos,if_neg,Int.reduceAdd,Int.reduceSub,Int.reduceToNat,Int.zero_add])<;>first|rfl|omega)|with_reducible refine Zaf (by decide) ?_|((with_reducible apply gy1);iterate 3 focus rfl)|((with_reducible apply gy2);iterate 3 focus rfl)|((with_reducible apply gy3);iterate 2 focus rfl)|((with_reducible apply gy4);iterate 1 focus rfl)|((with_reducible apply gy5);iterate 4 focus rfl)|((with_reducible apply gy5c);iterate 4 focus rfl)|((with_reducible apply gy6);iterate 4 focus rfl)|((with_reducible apply Zc0);iterate 3 focus rfl)|((with_reducible apply Zcx);iterate 1 focus rfl)|((with_reducible apply gy7);iterate 1 focus rfl)|((with_reducible apply gy9);(focus ((with_reducible refine gE ?_);(try simp (disch:=omega) only [go_sem,e0,e1,e6,e5,e4,m5,m4,hg,List.length_map,List.length_cons,decide_eq_true,decide_eq_false,if_pos,if_neg,Int.reduceAdd,Int.reduceSub,Int.reduceToNat,Int.zero_add])<;>rfl)))|((with_reducible apply gz1);(focus first|rfl|(simp (disch:=omega) only [go_sem,e0,e1,e6,e5,e4,m5,m4,hg,List.length_map,List.length_cons,decide_eq_true,decide_eq_false,if_pos,if_neg,Int.reduceAdd,Int.reduceSub,Int.reduceToNat,Int.zero_add];done)))|((with_reducible apply Za2 (id:=7) (Zce [(6,iv (cmpI u2 w2 o))]) [] []);(focus kernel_rfl);(focus rfl);(focus kernel_rfl);(focus (simp only [List.length_cons,List.length_nil,Nat.reduceAdd];rfl)))|((with_reducible first|apply Zbl|apply Zbv|apply Zbm);all_goals (intro hc;(try simp only [bool_to_prop] at hc);try (exfalso;omega)))))
    exact⟨j+1,⟨by omega,by exact gW e0,by exact gW e1,by exact gC,by exact gW e5,by exact gW e4,by exact gW (And.intro st m5),_,hes,by exact gW m4⟩,by omega⟩
  ·have hj2:j=r.length:=by omega
   subst hj2;rw [List.take_length] at m5;rw [show ldO o (t :: r)=r.foldl (ldF o) t from rfl];generalize r.foldl (ldF o) t=w at *
   (repeat' (first|(with_reducible first|refine stp ?_|apply gx1|apply gx2|apply gx3|apply gx4|apply gx5|apply gx6|apply gx7|apply gy8|apply gz2|apply gz3)|(with_reducible refine Zbi ?_;intro _)|((with_reducible refine gE ?_);(try simp (disch:=omega) only [go_sem,e0,e1,e6,e5,e4,m5,m4,hes,List.length_map,List.length_cons,decide_eq_true,decide_eq_false,if_pos,if_neg,Int.reduceAdd,Int.reduceSub,Int.reduceToNat,Int.zero_add])<;>first|rfl|omega)|with_reducible refine Zaf (by decide) ?_|((with_reducible apply gy1);iterate 3 focus rfl)|((with_reducible apply gy2);iterate 3 focus rfl)|((with_reducible apply gy3);iterate 2 focus rfl)|((with_reducible apply gy4);iterate 1 focus rfl)|((with_reducible apply gy5);iterate 4 focus rfl)|((with_reducible apply gy5c);iterate 4 focus rfl)|((with_reducible apply gy6);iterate 4 focus rfl)|((with_reducible apply Zc0);iterate 3 focus rfl)|((with_reducible apply Zcx);iterate 1 focus rfl)|((with_reducible apply gy7);iterate 1 focus rfl)|((with_reducible apply gy9);(focus ((with_reducible refine gE ?_);(try simp (disch:=omega) only [go_sem,e0,e1,e6,e5,e4,m5,m4,hes,List.length_map,List.length_cons,decide_eq_true,decide_eq_false,if_pos,if_neg,Int.reduceAdd,Int.reduceSub,Int.reduceToNat,Int.zero_add])<;>rfl)))|((with_reducible apply gz1);(focus first|rfl|(simp (disch:=omega) only [go_sem,e0,e1,e6,e5,e4,m5,m4,hes,List.length_map,List.length_cons,decide_eq_true,decide_eq_false,if_pos,if_neg,Int.reduceAdd,Int.reduceSub,Int.reduceToNat,Int.zero_add];done)))|((with_reducible apply Za2 (Zce []) [] []);(focus kernel_rfl);(focus rfl);(focus kernel_rfl);(focus (simp only [List.length_cons,List.length_nil,Nat.reduceAdd];rfl)))|((with_reducible first|apply Zbl|apply Zbv|apply Zbm);all_goals (intro hc;(try simp only [bool_to_prop] at hc);try (exfalso;omega)))))
   (all_goals (try simp (disch:=omega) only [go_sem,e4,decide_eq_true,decide_eq_false,if_pos,if_neg,Int.reduceAdd,Int.reduceSub,Int.reduceToNat,Int.zero_add]));(all_goals first|done|rfl|(congr 2;first|done|omega|(rw [Bool.eq_iff_iff];simp only [bool_to_prop,Bool.false_eq_true,iff_true,true_iff,iff_false,false_iff];omega))|skip)
 ·exact⟨Nat.zero_le _,by exact gC,by exact gC,by exact gC,by exact gC,by exact gC,by(simp (disch:=omega) only [go_sem,List.take_zero,List.foldl_nil]<;>repeat' first|rfl|refine⟨?_,?_⟩),_,rfl,by exact gC⟩
theorem Zke (p:Po) (o:Int) (h0:p≠[]) (hm:∀u∈p,Sm u.2) (hl:p.length≤1000000):Pure Tryz.prog 18 [poA p,.v (.int .i64 o)] (.tup [tmA (ldO o p),.v (.bool true)]):=by
 cases p with
 | nil=>exact absurd rfl h0
 | cons t r =>
   have c:=slMax t r o hm (by simp only [List.length_cons] at hl;omega);generalize ldO o (t :: r)=w at *;refine Zaa (tok:=0) Tryz.func18 rfl Tryz.ntmps18 Tryz.results18 Tryz.call18 (by rfl) (by simp) ?_
   (repeat' (first|(with_reducible first|refine stp ?_|apply gx1|apply gx2|apply gx3|apply gx4|apply gx5|apply gx6|apply gx7|apply gy8|apply gz2|apply gz3|apply gw1 (c))|(with_reducible refine Zbi ?_;intro _)|((with_reducible refine gE ?_);(try simp (disch:=omega) only [go_sem,List.length_map,List.length_cons,decide_eq_true,decide_eq_false,if_pos,if_neg,Int.reduceAdd,Int.reduceSub,Int.reduceToNat,Int.zero_add])<;>first|rfl|omega)|with_reducible refine Zaf (by decide) ?_|((with_reducible apply gy1);iterate 3 focus rfl)|((with_reducible apply gy2);iterate 3 focus rfl)|((with_reducible apply gy3);iterate 2 focus rfl)|((with_reducible apply gy4);iterate 1 focus rfl)|((with_reducible apply gy5);iterate 4 focus rfl)|((with_reducible apply gy5c);iterate 4 focus rfl)|((with_reducible apply gy6);iterate 4 focus rfl)|((with_reducible apply Zc0);iterate 3 focus rfl)|((with_reducible apply Zcx);iterate 1 focus rfl)|((with_reducible apply gy7);iterate 1 focus rfl)|((with_reducible apply gy9);(focus ((with_reducible refine gE ?_);(try simp (disch:=omega) only [go_sem,List.length_map,List.length_cons,decide_eq_true,decide_eq_false,if_pos,if_neg,Int.reduceAdd,Int.reduceSub,Int.reduceToNat,Int.zero_add])<;>rfl)))|((with_reducible apply gz1);(focus first|rfl|(simp (disch:=omega) only [go_sem,List.length_map,List.length_cons,decide_eq_true,decide_eq_false,if_pos,if_neg,Int.reduceAdd,Int.reduceSub,Int.reduceToNat,Int.zero_add];done)))|((with_reducible apply Za2 (Zce []) [] []);(focus kernel_rfl);(focus rfl);(focus kernel_rfl);(focus (simp only [List.length_cons,List.length_nil,Nat.reduceAdd];rfl)))|((with_reducible first|apply Zbl|apply Zbv|apply Zbm);all_goals (intro hc;(try simp only [bool_to_prop] at hc);try (exfalso;omega)))))
   (all_goals (try simp (disch:=omega) only [go_sem,decide_eq_true,decide_eq_false,if_pos,if_neg,Int.reduceAdd,Int.reduceSub,Int.reduceToNat,Int.zero_add]));(all_goals first|done|rfl|(congr 2;first|done|omega|(rw [Bool.eq_iff_iff];simp only [bool_to_prop,Bool.false_eq_true,iff_true,true_iff,iff_false,false_iff];omega))|skip)
theorem poLeadN (o:Int):Pure Tryz.prog 18 [poA [],.v (.int .i64 o)] (.tup [.agg [.v (.bool false),.v (.slice none 0 0),.v (.slice none 0 0),.v (.slice none 0 0)],.v (.bool false)]):=by
 refine Zaa (tok:=0) Tryz.func18 rfl Tryz.ntmps18 Tryz.results18 Tryz.call18 (by rfl) (by simp) ?_
 (repeat' (first|(with_reducible first|refine stp ?_|apply gx1|apply gx2|apply gx3|apply gx4|apply gx5|apply gx6|apply gx7|apply gy8|apply gz2|apply gz3)|(with_reducible refine Zbi ?_;intro _)|((with_reducible refine gE ?_);(try simp (disch:=omega) only [go_sem,List.length_map,List.length_nil,List.map_nil,decide_eq_true,decide_eq_false,if_pos,if_neg,Int.reduceAdd,Int.reduceSub,Int.reduceToNat,Int.zero_add])<;>first|rfl|omega)|with_reducible refine Zaf (by decide) ?_|((with_reducible apply gy1);iterate 3 focus rfl)|((with_reducible apply gy2);iterate 3 focus rfl)|((with_reducible apply gy3);iterate 2 focus rfl)|((with_reducible apply gy4);iterate 1 focus rfl)|((with_reducible apply gy5);iterate 4 focus rfl)|((with_reducible apply gy5c);iterate 4 focus rfl)|((with_reducible apply gy6);iterate 4 focus rfl)|((with_reducible apply Zc0);iterate 3 focus rfl)|((with_reducible apply Zcx);iterate 1 focus rfl)|((with_reducible apply gy7);iterate 1 focus rfl)|((with_reducible apply gy9);(focus ((with_reducible refine gE ?_);(try simp (disch:=omega) only [go_sem,List.length_map,List.length_nil,List.map_nil,decide_eq_true,decide_eq_false,if_pos,if_neg,Int.reduceAdd,Int.reduceSub,Int.reduceToNat,Int.zero_add])<;>rfl)))|((with_reducible apply gz1);(focus first|rfl|(simp (disch:=omega) only [go_sem,List.length_map,List.length_nil,List.map_nil,decide_eq_true,decide_eq_false,if_pos,if_neg,Int.reduceAdd,Int.reduceSub,Int.reduceToNat,Int.zero_add];done)))|((with_reducible apply Za2 (Zce []) [] []);(focus kernel_rfl);(focus rfl);(focus kernel_rfl);(focus (simp only [List.length_cons,List.length_nil,Nat.reduceAdd];rfl)))|((with_reducible first|apply Zbl|apply Zbv|apply Zbm);all_goals (intro hc;(try simp only [bool_to_prop] at hc);try (exfalso;omega)))))
 (all_goals (try simp (disch:=omega) only [go_sem,decide_eq_true,decide_eq_false,if_pos,if_neg,Int.reduceAdd,Int.reduceSub,Int.reduceToNat,Int.zero_add]));(all_goals first|done|rfl|(congr 2;first|done|omega|(rw [Bool.eq_iff_iff];simp only [bool_to_prop,Bool.false_eq_true,iff_true,true_iff,iff_false,false_iff];omega))|skip)
theorem Zrs (p:Po) (o:Int) (h0:p≠[]) (hm:∀u∈p,Sm u.2) (hl:p.length≤1000000):Pure Tryz.prog 34 [poA p,.v (.int .i64 o)] (.tup [tmA (ldO o p),.v (.bool true)]):=by
 cases p with
 | nil=>exact absurd rfl h0
 | cons t r =>
   rw [List.length_cons] at hl;refine Zaa (tok:=0) Tryz.func34 rfl Tryz.ntmps34 Tryz.results34 Tryz.call34 (by rfl) (by simp) ?_
   (repeat' (first|(with_reducible first|refine stp ?_|apply gx1|apply gx2|apply gx3|apply gx4|apply gx5|apply gx6|apply gx7|apply gy8|apply gz2|apply gz3)|(with_reducible refine Zbi ?_;intro _)|((with_reducible refine gE ?_);(try simp (disch:=omega) only [go_sem,List.length_map,List.length_cons,decide_eq_true,decide_eq_false,if_pos,if_neg,Int.reduceAdd,Int.reduceSub,Int.reduceToNat,Int.zero_add])<;>first|rfl|omega)|with_reducible refine Zaf (by decide) ?_|((with_reducible apply gy1);iterate 3 focus rfl)|((with_reducible apply gy2);iterate 3 focus rfl)|((with_reducible apply gy3);iterate 2 focus rfl)|((with_reducible apply gy4);iterate 1 focus rfl)|((with_reducible apply gy5);iterate 4 focus rfl)|((with_reducible apply gy5c);iterate 4 focus rfl)|((with_reducible apply gy6);iterate 4 focus rfl)|((with_reducible apply Zc0);iterate 3 focus rfl)|((with_reducible apply Zcx);iterate 1 focus rfl)|((with_reducible apply gy7);iterate 1 focus rfl)|((with_reducible apply gy9);(focus ((with_reducible refine gE ?_);(try simp (disch:=omega) only [go_sem,List.length_map,List.length_cons,decide_eq_true,decide_eq_false,if_pos,if_neg,Int.reduceAdd,Int.reduceSub,Int.reduceToNat,Int.zero_add])<;>rfl)))|((with_reducible apply gz1);(focus first|rfl|(simp (disch:=omega) only [go_sem,List.length_map,List.length_cons,decide_eq_true,decide_eq_false,if_pos,if_neg,Int.reduceAdd,Int.reduceSub,Int.reduceToNat,Int.zero_add];done)))|((with_reducible apply Za2 (Zce []) [] []);(focus kernel_rfl);(focus rfl);(focus kernel_rfl);(focus (simp only [List.length_cons,List.length_nil,Nat.reduceAdd];rfl)))|((with_reducible first|apply Zbl|apply Zbv|apply Zbm);all_goals (intro hc;(try simp only [bool_to_prop] at hc);try (exfalso;omega)))))
   rename_i g4 g6;refine Zal (ι:=Nat) (λj e m=>j≤r.length∧e 0=poA (t :: r)∧e 1=.v (.int .i64 o)∧e 7=iv ((j:Int)+1)∧e 6=.pbox 6 g6 0∧e 4=.pbox 4 g4 0∧m 6=some (.box g6 48 [.v (.bool (decide (((r.take j).foldl (ldF o) t).1.num < 0))),lim (toL ((r.take j).foldl (ldF o) t).1.num.natAbs),lim (toL ((r.take j).foldl (ldF o) t).1.den),ivs ((r.take j).foldl (ldF o) t).2] false)∧∃es:List AV,es.length=4∧m 4=some (.box g4 48 es false)) (λj=>r.length - j) 0 (by rfl) ?_ ?_
   ·rintro j e m ⟨hj,e0,e1,e7,e6,e4,m6,es,hes,m4⟩
    by_cases hlt:j < r.length
    ·have hg:=Zbu tmA hlt;have m1:=Zsp (o:=o) (λu=>Sm u.2) hm j;have m2:=hm _ (.tail _ (List.getElem_mem hlt));have st:=Zsq o t r hlt;generalize (r.take j).foldl (ldF o) t=w at *;generalize r[j]=u at *;have c:Pure Tryz.prog 62 [ivs u.2,ivs w.2,.v (.int .i64 o)] (.v (.int .i64 (cmpI u.2 w.2 o))):=mrCmp u.2 w.2 o m2 m1;rw [show ldF o w u=if 0 < cmpI u.2 w.2 o then u else w from rfl] at st;obtain⟨w1,w2⟩:=w;obtain⟨u1,u2⟩:=u;simp only at c st m6;by_cases h:0 < cmpI u2 w2 o
     ·rw [if_pos h] at st
      (repeat' (first|(with_reducible first|refine stp ?_|apply gx1|apply gx2|apply gx3|apply gx4|apply gx5|apply gx6|apply gx7|apply gy8|apply gz2|apply gz3|refine gw0 (c) ?_ ?_|refine gw3 (c) ?_ ?_ ?_)|(with_reducible refine Zbi ?_;intro _)|((with_reducible refine gE ?_);(try simp (disch:=omega) only [go_sem,e0,e1,e7,e6,e4,m6,m4,hg,List.length_map,List.length_cons,decide_eq_true,decide_eq_false,if_pos,if_neg,Int.reduceAdd,Int.reduceSub,Int.reduceToNat,Int.zero_add])<;>first|rfl|omega)|with_reducible refine Zaf (by decide) ?_|((with_reducible apply gy1);iterate 3 focus rfl)|((with_reducible apply gy2);iterate 3 focus rfl)|((with_reducible apply gy3);iterate 2 focus rfl)|((with_reducible apply gy4);iterate 1 focus rfl)|((with_reducible apply gy5);iterate 4 focus rfl)|((with_reducible apply gy5c);iterate 4 focus rfl)|((with_reducible apply gy6);iterate 4 focus rfl)|((with_reducible apply Zc0);iterate 3 focus rfl)|((with_reducible apply Zcx);iterate 1 focus rfl)|((with_reducible apply gy7);iterate 1 focus rfl)|((with_reducible apply gy9);(focus ((with_reducible refine gE ?_);(try simp (disch:=omega) only [go_sem,e0,e1,e7,e6,e4,m6,m4,hg,List.length_map,List.length_cons,decide_eq_true,decide_eq_false,if_pos,if_neg,Int.reduceAdd,Int.reduceSub,Int.reduceToNat,Int.zero_add])<;>rfl)))|((with_reducible apply gz1);(focus first|rfl|(simp (disch:=omega) only [go_sem,e0,e1,e7,e6,e4,m6,m4,hg,List.length_map,List.length_cons,decide_eq_true,decide_eq_false,if_pos,if_neg,Int.reduceAdd,Int.reduceSub,Int.reduceToNat,Int.zero_add];done)))|((with_reducible apply Za2 (id:=7) (Zce [(8,iv (cmpI u2 w2 o))]) [] []);(focus kernel_rfl);(focus rfl);(focus kernel_rfl);(focus (simp only [List.length_cons,List.length_nil,Nat.reduceAdd];rfl)))|((with_reducible first|apply Zbl|apply Zbv|apply Zbm);all_goals (intro hc;(try simp only [bool_to_prop] at hc);try (exfalso;omega)))))
      exact⟨j+1,⟨by omega,by exact gW e0,by exact gW e1,by exact gC,by exact gW e6,by exact gW e4,by exact gW st,_,hes,by exact gW m4⟩,by omega⟩
     ·rw [if_neg h] at st
      (repeat' (first|(with_reducible first|refine stp ?_|apply gx1|apply gx2|apply gx3|apply gx4|apply gx5|apply gx6|apply gx7|apply gy8|apply gz2|apply gz3|refine gw0 (c) ?_ ?_|refine gw3 (c) ?_ ?_ ?_)|(with_reducible refine Zbi ?_;intro _)|((with_reducible refine gE ?_);(try simp (disch:=omega) only [go_sem,e0,e1,e7,e6,e4,m6,m4,hg,List.length_map,List.length_cons,decide_eq_true,decide_eq_false,if_pos,if_neg,Int.reduceAdd,Int.reduceSub,Int.reduceToNat,Int.zero_add])<;>first|rfl|omega)|with_reducible refine Zaf (by decide) ?_|((with_reducible apply gy1);iterate 3 focus rfl)|((with_reducible apply gy2);iterate 3 focus rfl)|((with_reducible apply gy3);iterate 2 focus rfl)|((with_reducible apply gy4);iterate 1 focus rfl)|((with_reducible apply gy5);iterate 4 focus rfl)|((with_reducible apply gy5c);iterate 4 focus rfl)|((with_reducible apply gy6);iterate 4 focus rfl)|((with_reducible apply Zc0);iterate 3 focus rfl)|((with_reducible apply Zcx);iterate 1 focus rfl)|((with_reducible apply gy7);iterate 1 focus rfl)|((with_reducible apply gy9);(focus ((with_reducible refine gE ?_);(try simp (disch:=omega) only [go_sem,e0,e1,e7,e6,e4,m6,m4,hg,List.length_map,List.length_cons,decide_eq_true,decide_eq_false,if_pos,if_neg,Int.reduceAdd,Int.reduceSub,Int.reduceToNat,Int.zero_add])<;>rfl)))|((with_reducible apply gz1);(focus first|rfl|(simp (disch:=omega) only [go_sem,e0,e1,e7,e6,e4,m6,m4,hg,List.length_map,List.length_cons,decide_eq_true,decide_eq_false,if_pos,if_neg,Int.reduceAdd,Int.reduceSub,Int.reduceToNat,Int.zero_add];done)))|((with_reducible apply Za2 (id:=7) (Zce [(8,iv (cmpI u2 w2 o))]) [] []);(focus kernel_rfl);(focus rfl);(focus kernel_rfl);(focus (simp only [List.length_cons,List.length_nil,Nat.reduceAdd];rfl)))|((with_reducible first|apply Zbl|apply Zbv|apply Zbm);all_goals (intro hc;(try simp only [bool_to_prop] at hc);try (exfalso;omega)))))
      exact⟨j+1,⟨by omega,by exact gW e0,by exact gW e1,by exact gC,by exact gW e6,by exact gW e4,by exact gW (And.intro st m6),_,hes,by exact gW m4⟩,by omega⟩
    ·have hj2:j=r.length:=by omega
     subst hj2;rw [List.take_length] at m6;rw [show ldO o (t :: r)=r.foldl (ldF o) t from rfl];generalize r.foldl (ldF o) t=w at *
     (repeat' (first|(with_reducible first|refine stp ?_|apply gx1|apply gx2|apply gx3|apply gx4|apply gx5|apply gx6|apply gx7|apply gy8|apply gz2|apply gz3)|(with_reducible refine Zbi ?_;intro _)|((with_reducible refine gE ?_);(try simp (disch:=omega) only [go_sem,e0,e1,e7,e6,e4,m6,m4,hes,List.length_map,List.length_cons,decide_eq_true,decide_eq_false,if_pos,if_neg,Int.reduceAdd,Int.reduceSub,Int.reduceToNat,Int.zero_add])<;>first|rfl|omega)|with_reducible refine Zaf (by decide) ?_|((with_reducible apply gy1);iterate 3 focus rfl)|((with_reducible apply gy2);iterate 3 focus rfl)|((with_reducible apply gy3);iterate 2 focus rfl)|((with_reducible apply gy4);iterate 1 focus rfl)|((with_reducible apply gy5);iterate 4 focus rfl)|((with_reducible apply gy5c);iterate 4 focus rfl)|((with_reducible apply gy6);iterate 4 focus rfl)|((with_reducible apply Zc0);iterate 3 focus rfl)|((with_reducible apply Zcx);iterate 1 focus rfl)|((with_reducible apply gy7);iterate 1 focus rfl)|((with_reducible apply gy9);(focus ((with_reducible refine gE ?_);(try simp (disch:=omega) only [go_sem,e0,e1,e7,e6,e4,m6,m4,hes,List.length_map,List.length_cons,decide_eq_true,decide_eq_false,if_pos,if_neg,Int.reduceAdd,Int.reduceSub,Int.reduceToNat,Int.zero_add])<;>rfl)))|((with_reducible apply gz1);(focus first|rfl|(simp (disch:=omega) only [go_sem,e0,e1,e7,e6,e4,m6,m4,hes,List.length_map,List.length_cons,decide_eq_true,decide_eq_false,if_pos,if_neg,Int.reduceAdd,Int.reduceSub,Int.reduceToNat,Int.zero_add];done)))|((with_reducible apply Za2 (Zce []) [] []);(focus kernel_rfl);(focus rfl);(focus kernel_rfl);(focus (simp only [List.length_cons,List.length_nil,Nat.reduceAdd];rfl)))|((with_reducible first|apply Zbl|apply Zbv|apply Zbm);all_goals (intro hc;(try simp only [bool_to_prop] at hc);try (exfalso;omega)))))
     (all_goals (try simp (disch:=omega) only [go_sem,e4,decide_eq_true,decide_eq_false,if_pos,if_neg,Int.reduceAdd,Int.reduceSub,Int.reduceToNat,Int.zero_add]));(all_goals first|done|rfl|(congr 2;first|done|omega|(rw [Bool.eq_iff_iff];simp only [bool_to_prop,Bool.false_eq_true,iff_true,true_iff,iff_false,false_iff];omega))|skip)
   ·exact⟨Nat.zero_le _,by exact gC,by exact gC,by exact gC,by exact gC,by exact gC,by(simp (disch:=omega) only [go_sem,List.take_zero,List.foldl_nil]<;>repeat' first|rfl|refine⟨?_,?_⟩),_,rfl,by exact gC⟩
attribute [local go_sem] Tryz.underlying24
theorem rgtM {m:List Int} (hc:Can m) (hl:m.length≤64) (he:∀j,gI m j≤1048576):Zcc m=true:=by
 unfold Zcc
 have h1:(m.getLast?.getD 1 == 0)=false:=by
  rw [beq_eq_false_iff_ne];rcases hc.2 with h | h
  ·rw [List.length_eq_zero_iff.1 h];decide
  ·have hn:m≠[]:=λe=>by rw [e] at h;exact h rfl
   rw [List.getLast?_eq_some_getLast hn,Option.getD_some,List.getLast_eq_getElem hn];rw [Zfp (by have:=List.length_pos_iff.2 hn;omega)] at h;exact h
 have h2:m.all Zf6=true:=by
  rw [List.all_eq_true];intro x hx;obtain⟨j,hj,rfl⟩:=List.mem_iff_getElem.1 hx;have a:=hc.1 j;have b:=he j;rw [Zfp hj] at a b;unfold Zf6;simp;omega
 rw [h1,h2,decide_eq_true hl];rfl
theorem Zsh {m:List Int} (hc:Can m) (hl:m.length≤64) (he:∀j,gI m j≤1048576):Zms m=m:=by
 unfold Zms;simp only [Zii hc,rgtM hc hl he,if_true]
theorem Zr6 (c:Rat) (m:List Int) (h0:c≠0) {k:Nat} (hs:Sz c k) (hk:k≤500000) (hc:Can m) (hl:m.length≤64) (he:∀j,gI m j≤1048576):Pure Tryz.prog 32 [poA [(c,m)]] (poA [(c,m)]):=by
 have c1:Pure Tryz.prog 43 [ivs m] (.v (.bool true)):=by have:=Zpx m;rwa [rgtM hc hl he] at this
 have c2:=ratOf 0 (by omega);have c3:=Zr0 c 0 hs (Sz.int (z:=0) (k:=1) (by simp [Za4]) (by omega)) (by omega) (by omega);rw [Rat.add_zero] at c3;have c4:Pure Tryz.prog 76 [ivs m] (ivs m):=by have:=monNorm m (by omega);rwa [Zsh hc hl he] at this
 have c5:=Zpo c m h0 hs (by omega);have c6:=poSum [[(c,m)]] (K:=k) (e:=1048576) (λp hp=>by rw [List.mem_singleton] at hp;subst hp;exact Srt.cons .nil h0 hc (by simp)) (SumOk.one (by simp) λp hp=>by rw [List.mem_singleton] at hp;subst hp;exact⟨λt ht=>by rw [List.mem_singleton] at ht;subst ht;exact⟨hs,(show m.length≤1000 by omega),λj=>⟨hc.1 j,he j⟩⟩,by simp⟩) (by simp) (by omega) (by omega);rw [show sumH ltM [[(c,m)]]=[(c,m)] by simp [sumH]] at c6;have hlast:m.length=0∨0 < m.length∧gI m (m.length - 1)≠0:=by rcases hc.2 with h | h;exact .inl h;by_cases g:m.length=0;exact .inl g;exact .inr ⟨by omega,h⟩
 simp only [List.map_cons,List.map_nil] at c6;rcases hlast with h | ⟨hp,h⟩
 ·have hm:m=[]:=List.length_eq_zero_iff.1 h;subst hm
  replace c1:Pure Tryz.prog 43 [.sl 1 []] (.v (.bool true)):=c1
  refine Zaa (tok:=0) Tryz.func32 rfl Tryz.ntmps32 Tryz.results32 Tryz.call32 (by rfl) (by simp) ?_;(focus (refine wkax w_t (w_5 c1 c2 c3 c4 c5) (w_1 (w_d 9 [(2,ratQ ((0:Nat):Rat)),(3,ratQ c),(6,ivs []),(7,poA [(c,[])])] [] [])) (w_1 c6) w_t w_t (w_r 3) ?_;(repeat' first|exact w_t|apply w_l);all_goals intros))
  (all_goals (try simp (disch:=omega) only [go_sem,decide_eq_true,decide_eq_false,if_pos,if_neg,Int.reduceAdd,Int.reduceSub,Int.reduceToNat,Int.zero_add]));(all_goals first|done|rfl|(congr 2;first|done|omega|(rw [Bool.eq_iff_iff];simp only [bool_to_prop,Bool.false_eq_true,iff_true,true_iff,iff_false,false_iff];omega))|skip)
 ·have hi:((m.length:Nat):Int) - 1=((m.length - 1:Nat):Int):=by omega
  have tk:(m.map iv).take m.length=m.map iv:=by rw [←List.length_map (f:=iv),List.take_length]
  refine Zaa (tok:=0) Tryz.func32 rfl Tryz.ntmps32 Tryz.results32 Tryz.call32 (by rfl) (by simp) ?_;(focus (refine wkax (w_4 @Zbb hi h tk) (w_5 c1 c2 c3 c4 c5) (w_1 (w_d 9 [(2,ratQ ((0:Nat):Rat)),(3,ratQ c),(6,ivs m),(7,poA [(c,m)])] [] [])) (w_1 c6) w_t w_t (w_r 3) ?_;(repeat' first|exact w_t|apply w_l);all_goals intros))
  (all_goals (try simp (disch:=omega) only [go_sem,decide_eq_true,decide_eq_false,if_pos,if_neg,Int.reduceAdd,Int.reduceSub,Int.reduceToNat,Int.zero_add]));(all_goals first|done|rfl|(congr 2;first|done|omega|(rw [Bool.eq_iff_iff];simp only [bool_to_prop,Bool.false_eq_true,iff_true,true_iff,iff_false,false_iff];omega))|skip)
structure TO (t:Tm) (k:Nat):Prop where
 n:t.1≠0
 z:Sz t.1 k
 c:Can t.2
 l:t.2.length≤64
 e:∀j,gI t.2 j≤1048576
theorem TO.wd {t:Tm} {k:Nat} (h:TO t k):Wd t.2:=⟨by have:=h.l;omega,λj=>by have:=h.c.1 j;have:=h.e j;omega⟩
theorem TO.quo {t b:Tm} {j k:Nat} (h:TO t j) (g:TO b k) (d:divI b.2 t.2=true):TO (t.1/b.1,quoI t.2 b.2) (j+k) where
 n:=by
   show t.1/b.1≠0;rw [Rat.div_def];intro e;rcases Rat.mul_eq_zero.1 e with e | e
   ·exact h.n e
   ·have:=Rat.mul_inv_cancel _ g.n;rw [e,Rat.mul_zero] at this;exact absurd this (by decide)
 z:=h.z.div g.z
 c:=Zn2 h.c g.c d
 l:=by
   have h1:=Zd1 b.2 (quoI t.2 b.2);rw [Zpm h.c g.c d] at h1;have:=h.l;show(quoI t.2 b.2).length≤64;omega
 e:=λi=>by
   show gI (quoI t.2 b.2) i≤_;rw [Zpn d];have:=h.e i;have:=g.c.1 i;omega
theorem Zsy (t b:Tm) {j k:Nat} (ht:TO t j) (hb:TO b k) (hj:j≤400000) (hk:k≤100000) (d:divI b.2 t.2=true):Pure Tryz.prog 30 [tmA t,tmA b] (.tup [poA [(t.1/b.1,quoI t.2 b.2)],.v (.bool true)]):=by
 have g:=ht.quo hb d;have c1:Pure Tryz.prog 70 [ivs t.2,ivs b.2] (.tup [ivs (quoI t.2 b.2),.v (.bool true)]):=by have:=monQuo t.2 b.2 ht.wd hb.wd;rwa [d] at this
 have c2:=ratDiv t.1 b.1 ht.z hb.z (by omega) (by omega) hb.n;have c3:=Zr6 (t.1/b.1) (quoI t.2 b.2) g.n g.z (by omega) g.c g.l g.e;obtain⟨t1,t2⟩:=t;obtain⟨b1,b2⟩:=b;simp only at c1 c2 c3;show Pure _ _ _ (.tup [poA [(t1/b1,quoI t2 b2)],_]);generalize t1/b1=q at *;generalize quoI t2 b2=m at *;refine Zaa (tok:=0) Tryz.func30 rfl Tryz.ntmps30 Tryz.results30 Tryz.call30 (by rfl) (by simp) ?_;(focus (refine wkax w_t (w_2 c1 c2) w_t (w_1 c3) w_t w_t (w_r 0) ?_;(repeat' first|exact w_t|apply w_l);all_goals intros))
 (all_goals (try simp (disch:=omega) only [go_sem,decide_eq_true,decide_eq_false,if_pos,if_neg,Int.reduceAdd,Int.reduceSub,Int.reduceToNat,Int.zero_add]));(all_goals first|done|rfl|(congr 2;first|done|omega|(rw [Bool.eq_iff_iff];simp only [bool_to_prop,Bool.false_eq_true,iff_true,true_iff,iff_false,false_iff];omega))|skip)
theorem grQuotN (t b:Tm) {j k:Nat} (ht:TO t j) (hb:TO b k) (d:divI b.2 t.2=false):Pure Tryz.prog 30 [tmA t,tmA b] (.tup [.v (.slice none 0 0),.v (.bool false)]):=by
 have c1:Pure Tryz.prog 70 [ivs t.2,ivs b.2] (.tup [ivs (quoI t.2 b.2),.v (.bool false)]):=by have:=monQuo t.2 b.2 ht.wd hb.wd;rwa [d] at this
 obtain⟨t1,t2⟩:=t;obtain⟨b1,b2⟩:=b;simp only at c1;generalize quoI t2 b2=m at *;refine Zaa (tok:=0) Tryz.func30 rfl Tryz.ntmps30 Tryz.results30 Tryz.call30 (by rfl) (by simp) ?_;(focus (refine wkld w_t (w_1 c1) w_t w_t ?_;(repeat' first|exact w_t|apply w_l);all_goals intros))
theorem Zs0 (bs:List Po) (o:Int) (h:∀b∈bs,b≠[]∧(∀u∈b,Sm u.2)∧b.length≤1000000) (hl:bs.length≤1000) (h0:bs.length≠0):Pure Tryz.prog 28 [.sl 1 (bs.map poA),.v (.int .i64 o)] (.tup [.sl 4 (bs.map λb=>tmA (ldO o b)),.v (.bool true)]):=by
 refine Zaa (tok:=0) Tryz.func28 rfl Tryz.ntmps28 Tryz.results28 Tryz.call28 (by rfl) (by simp) ?_;(focus (refine wkad (w_1 @Zbb) w_t w_t ?_;(repeat' first|exact w_t|apply w_l);all_goals intros));refine Zal (ι:=Nat) (λi e m=>i≤bs.length∧e 11=.sl 1 (bs.map poA)∧e 12=iv bs.length∧e 13=iv i∧e 1=.v (.int .i64 o)∧(i=0→e 6=.v (.slice none 0 0))∧(i≠0→∃sv,e 6=.own 28 sv∧m 28=some (.row sv 48 4 ((bs.take i).map λb=>tmA (ldO o b)) 0))) (λi=>bs.length - i) 0 (by rfl) ?_ ?_
 ·rintro i e m ⟨hi,e11,e12,e13,e1,hz,hp⟩
  by_cases hlt:i < bs.length
  ·have hg:=Zbu poA hlt;have hb:=h _ (List.getElem_mem hlt);have c:=Zke bs[i] o hb.1 hb.2.1 hb.2.2
   have hs:(bs.take (i+1)).map (λb=>tmA (ldO o b))=(bs.take i).map (λb=>tmA (ldO o b))++[tmA (ldO o bs[i])]:=by
    rw [List.take_succ_eq_append_getElem hlt,List.map_append];rfl
   have hn:((bs.take i).map λb=>tmA (ldO o b)).length=i:=by rw [List.length_map,List.length_take];omega
   generalize ldO o bs[i]=w at *;generalize bs[i]=b at *;by_cases hi0:i=0
   ·subst hi0;have e6:=hz rfl;(focus (refine wkad (w_7 e11 e12 e13 e1 e6 hg @Zbb) (w_1 c) w_t ?_;(repeat' first|exact w_t|apply w_l);all_goals intros));exact⟨0+1,⟨by omega,by exact gW e11,by exact gW e12,by exact gC,by exact gW e1,λh=>by omega,λ_=>⟨_,by exact gC,by rw [hs];(simp (disch:=omega) only [go_sem,List.take_zero,List.map_nil]<;>repeat' first|rfl|refine⟨?_,?_⟩)⟩⟩,by omega⟩
   ·obtain⟨sv,e6,em⟩:=hp hi0;generalize (bs.take i).map (λb=>tmA (ldO o b))=out at *;(focus (refine wkad (w_9 e11 e12 e13 e1 e6 em hg hn @Zbb) (w_1 c) w_t ?_;(repeat' first|exact w_t|apply w_l);all_goals intros));exact⟨i+1,⟨by omega,by exact gW e11,by exact gW e12,by exact gS,by exact gW e1,λh=>by omega,λ_=>⟨_,by exact gC,by rw [hs];exact gC⟩⟩,by omega⟩
  ·have hi2:i=bs.length:=by omega
   subst hi2;obtain⟨sv,e6,em⟩:=hp h0;rw [List.take_length] at em;generalize (bs.map λb=>tmA (ldO o b))=out at *;(focus (refine wkld (w_7 e11 e12 e13 e1 e6 em @Zbb) w_t (w_1 em) w_t ?_;(repeat' first|exact w_t|apply w_l);all_goals intros))
 ·exact⟨Nat.zero_le _,by exact gC,by(simp (disch:=omega) only [go_sem,List.length_map]<;>repeat' first|rfl|refine⟨?_,?_⟩),by exact gC,by exact gC,λ_=>by exact gC,λh=>absurd rfl h⟩
theorem grLeads0 (o:Int):Pure Tryz.prog 28 [.sl 1 [],.v (.int .i64 o)] (.tup [.v (.slice none 0 0),.v (.bool true)]):=by
 refine Zaa (tok:=0) Tryz.func28 rfl Tryz.ntmps28 Tryz.results28 Tryz.call28 (by rfl) (by simp) ?_
 (repeat' (first|(with_reducible first|refine stp ?_|apply gx1|apply gx2|apply gx3|apply gx4|apply gx5|apply gx6|apply gx7|apply gy8|apply gz2|apply gz3)|(with_reducible refine Zbi ?_;intro _)|((with_reducible refine gE ?_);(try simp (disch:=omega) only [go_sem,List.length_nil,decide_eq_true,decide_eq_false,if_pos,if_neg,Int.reduceAdd,Int.reduceSub,Int.reduceToNat,Int.zero_add])<;>first|rfl|omega)|with_reducible refine Zaf (by decide) ?_|((with_reducible apply gy1);iterate 3 focus rfl)|((with_reducible apply gy2);iterate 3 focus rfl)|((with_reducible apply gy3);iterate 2 focus rfl)|((with_reducible apply gy4);iterate 1 focus rfl)|((with_reducible apply gy5);iterate 4 focus rfl)|((with_reducible apply gy5c);iterate 4 focus rfl)|((with_reducible apply gy6);iterate 4 focus rfl)|((with_reducible apply Zc0);iterate 3 focus rfl)|((with_reducible apply Zcx);iterate 1 focus rfl)|((with_reducible apply gy7);iterate 1 focus rfl)|((with_reducible apply gy9);(focus ((with_reducible refine gE ?_);(try simp (disch:=omega) only [go_sem,List.length_nil,decide_eq_true,decide_eq_false,if_pos,if_neg,Int.reduceAdd,Int.reduceSub,Int.reduceToNat,Int.zero_add])<;>rfl)))|((with_reducible apply gz1);(focus first|rfl|(simp (disch:=omega) only [go_sem,List.length_nil,decide_eq_true,decide_eq_false,if_pos,if_neg,Int.reduceAdd,Int.reduceSub,Int.reduceToNat,Int.zero_add];done)))|((with_reducible apply Za2 (Zce []) [] []);(focus kernel_rfl);(focus rfl);(focus kernel_rfl);(focus (simp only [List.length_cons,List.length_nil,Nat.reduceAdd];rfl)))|((with_reducible first|apply Zbl|apply Zbv|apply Zbm);all_goals (intro hc;(try simp only [bool_to_prop] at hc);try (exfalso;omega)))|((with_reducible apply Zk5 2);(focus rfl))))
 (all_goals (try simp (disch:=omega) only [go_sem,decide_eq_true,decide_eq_false,if_pos,if_neg,Int.reduceAdd,Int.reduceSub,Int.reduceToNat,Int.zero_add]));(all_goals first|done|rfl|(congr 2;first|done|omega|(rw [Bool.eq_iff_iff];simp only [bool_to_prop,Bool.false_eq_true,iff_true,true_iff,iff_false,false_iff];omega))|skip)
theorem rpZeros (m:List Int) (hl:m.length≤1000):Pure Tryz.prog 134 [ivs m,ivs m] (.v (.bool true)):=by
 show Pure _ _ [ints m,ints m] _;unfold ints;refine Zaa (tok:=0) Tryz.func134 rfl Tryz.ntmps134 Tryz.results134 Tryz.call134 (by rfl) (by simp) ?_;(focus (refine wkad w_t w_t w_t ?_;(repeat' first|exact w_t|apply w_l);all_goals intros));refine Zal (ι:=Nat) (λk e m'=>k≤m.length∧e 0=.sl 1 (m.map λn=>AV.v (.int .i64 n))∧e 1=.sl 1 (m.map λn=>AV.v (.int .i64 n))∧e 5=.v (.int .i64 k)) (λk=>m.length - k) 0 (by rfl) ?_ ?_
 ·rintro k e m' ⟨hk,e0,e1,e5⟩
  by_cases hlt:k < m.length
  ·have hx:=Zfb m k;(focus (refine wkad (w_3 e0 e1 e5) (w_1 hx) (w_1 (w_d 4 [(6,.v (.int .i64 (gI m k)))] [] [])) ?_;(repeat' first|exact w_t|apply w_l);all_goals intros));exact⟨k+1,⟨by omega,by exact gW e0,by exact gW e1,by exact gS⟩,by omega⟩
  ·(focus (refine wkld (w_3 e0 e1 e5) w_t w_t w_t ?_;(repeat' first|exact w_t|apply w_l);all_goals intros))
 ·exact⟨Nat.zero_le _,by exact gC,by exact gC,by exact gC⟩
theorem rpNorm1 (c:Rat) (m:List Int) (h0:c≠0) {k:Nat} (hs:Sz c k) (hk:k≤500000) (hc:Can m) (hl:m.length≤64) (he:∀j,gI m j≤1048576):Pure Tryz.prog 79 [poA [(c,m)]] (poA [(c,m)]):=by
 have c1:Pure Tryz.prog 133 [ivs m] (ivs m):=by have:=mrNorm m (by omega);rwa [Zsh hc hl he] at this
 have c2:=rpZeros m (by omega);have c3:=Zpa c m hs (by omega);rw [if_neg h0] at c3;generalize hv:m.map iv=v at *;refine Zaa (tok:=0) Tryz.func79 rfl Tryz.ntmps79 Tryz.results79 Tryz.call79 (by rfl) (by simp) ?_;(focus (refine wkax (w_1 hv) (w_3 c1 c2 c3) w_t w_t w_t w_t (w_r 2) ?_;(repeat' first|exact w_t|apply w_l);all_goals intros))
 (all_goals (try simp (disch:=omega) only [go_sem,hv,decide_eq_true,decide_eq_false,if_pos,if_neg,Int.reduceAdd,Int.reduceSub,Int.reduceToNat,Int.zero_add]));(all_goals first|done|rfl|(congr 2;first|done|omega|(rw [Bool.eq_iff_iff];simp only [bool_to_prop,Bool.false_eq_true,iff_true,true_iff,iff_false,false_iff];omega))|skip)
theorem Zpd (c:Rat) (m:List Int) (h0:c≠0) {k:Nat} (hs:Sz c k) (hk:k≤500000) (hc:Can m) (hl:m.length≤64) (he:∀j,gI m j≤1048576):Pure Tryz.prog 36 [ratQ c,ivs m] (poA [(c,m)]):=by
 have c1:=rpNorm1 c m h0 hs hk hc hl he;refine Zaa (tok:=0) Tryz.func36 rfl Tryz.ntmps36 Tryz.results36 Tryz.call36 (by rfl) (by simp) ?_;(focus (refine wkax w_t w_t w_t (w_1 c1) w_t w_t (w_r 0) ?_;(repeat' first|exact w_t|apply w_l);all_goals intros))
 (all_goals (try simp (disch:=omega) only [go_sem,decide_eq_true,decide_eq_false,if_pos,if_neg,Int.reduceAdd,Int.reduceSub,Int.reduceToNat,Int.zero_add]));(all_goals first|done|rfl|(congr 2;first|done|omega|(rw [Bool.eq_iff_iff];simp only [bool_to_prop,Bool.false_eq_true,iff_true,true_iff,iff_false,false_iff];omega))|skip)
theorem rfFact (t:Tm) (b:Po) (o:Int) {j k:Nat} (ht:TO t j) (h0:b≠[]) (hm:∀u∈b,Sm u.2) (hl:b.length≤1000000) (hb:TO (ldO o b) k) (hj:j≤400000) (hk:k≤100000) (d:divI (ldO o b).2 t.2=true):Pure Tryz.prog 35 [tmA t,poA b,.v (.int .i64 o)] (.tup [poA [(t.1/(ldO o b).1,quoI t.2 (ldO o b).2)],.v (.bool true)]):=by
 have g:=ht.quo hb d;have c0:=Zrs b o h0 hm hl;have c1:Pure Tryz.prog 77 [ivs t.2,ivs (ldO o b).2] (.tup [ivs (quoI t.2 (ldO o b).2),.v (.bool true)]):=by have:=refQuo t.2 (ldO o b).2 ht.wd hb.wd;rwa [d,quoR_quo ht.c hb.c] at this
 have c2:=qDiv t.1 (ldO o b).1 ht.z hb.z (by omega) (by omega) hb.n;have c3:=Zpd (t.1/(ldO o b).1) (quoI t.2 (ldO o b).2) g.n g.z (by omega) g.c g.l g.e;generalize ldO o b=w at *;obtain⟨t1,t2⟩:=t;obtain⟨b1,b2⟩:=w;simp only at c1 c2 c3;show Pure _ _ _ (.tup [poA [(t1/b1,quoI t2 b2)],_]);generalize t1/b1=q at *;generalize quoI t2 b2=m at *;refine Zaa (tok:=0) Tryz.func35 rfl Tryz.ntmps35 Tryz.results35 Tryz.call35 (by rfl) (by simp) ?_;(focus (refine wkax w_t (w_3 c0 c1 c2) w_t (w_1 c3) w_t w_t (w_r 0) ?_;(repeat' first|exact w_t|apply w_l);all_goals intros))
 (all_goals (try simp (disch:=omega) only [go_sem,decide_eq_true,decide_eq_false,if_pos,if_neg,Int.reduceAdd,Int.reduceSub,Int.reduceToNat,Int.zero_add]));(all_goals first|done|rfl|(congr 2;first|done|omega|(rw [Bool.eq_iff_iff];simp only [bool_to_prop,Bool.false_eq_true,iff_true,true_iff,iff_false,false_iff];omega))|skip)
theorem grFactsV (P Q f g:Po) (o:Int) (a b:Tm) (l:List Int)
 (c1:Pure Tryz.prog 18 [poA P,.v (.int .i64 o)] (.tup [tmA a,.v (.bool true)]))
 (c2:Pure Tryz.prog 18 [poA Q,.v (.int .i64 o)] (.tup [tmA b,.v (.bool true)]))
 (c3:Pure Tryz.prog 75 [iv 1] (ratQ 1))
 (c4:Pure Tryz.prog 83 [ivs a.2,ivs b.2] (ivs l))
 (c5:Pure Tryz.prog 30 [tmA (1,l),tmA a] (.tup [poA f,.v (.bool true)]))
 (c6:Pure Tryz.prog 30 [tmA (1,l),tmA b] (.tup [poA g,.v (.bool true)])) :
 Pure Tryz.prog 39 [poA P,poA Q,.v (.int .i64 o)] (.tup [poA f,poA g,.v (.int .i64 0)]):=by
 obtain⟨a1,a2⟩:=a;obtain⟨b1,b2⟩:=b;simp only at c4 c5 c6;generalize (1:Rat)=q at *;refine Zaa (tok:=0) Tryz.func39 rfl Tryz.ntmps39 Tryz.results39 Tryz.call39 (by rfl) (by simp) ?_;(focus (refine wkld w_t (w_6 c1 c2 c3 c4 c5 c6) w_t (w_1 (w_d 5 [(0,ratQ q),(5,ivs l)] [] [13])) ?_;(repeat' first|exact w_t|apply w_l);all_goals intros))
theorem grPairV (P Q f g x y z:Po) (o:Int) (b:Bool)
 (c1:Pure Tryz.prog 39 [poA P,poA Q,.v (.int .i64 o)] (.tup [poA f,poA g,.v (.int .i64 0)]))
 (c2:Pure Tryz.prog 17 [poA f,poA P] (poA x))
 (c3:Pure Tryz.prog 17 [poA g,poA Q] (poA y))
 (c4:Pure Tryz.prog 31 [poA x,poA y] (poA z))
 (c5:Pure Tryz.prog 29 [poA z] (.v (.bool b))) :
 Pure Tryz.prog 13 [poA P,poA Q,.v (.int .i64 o)] (if b=true then .tup [.v (.slice none 0 0),.v (.int .i64 4)] else .tup [poA z,.v (.int .i64 0)]):=by
 cases b
 ·rw [if_neg (by decide)];refine Zaa (tok:=0) Tryz.func13 rfl Tryz.ntmps13 Tryz.results13 Tryz.call13 (by rfl) (by simp) ?_;(focus (refine wkld w_t (w_5 c1 c2 c3 c4 c5) w_t w_t ?_;(repeat' first|exact w_t|apply w_l);all_goals intros))
 ·rw [if_pos rfl];refine Zaa (tok:=0) Tryz.func13 rfl Tryz.ntmps13 Tryz.results13 Tryz.call13 (by rfl) (by simp) ?_;(focus (refine wkld w_t (w_5 c1 c2 c3 c4 c5) w_t w_t ?_;(repeat' first|exact w_t|apply w_l);all_goals intros))
theorem rfFactsV (P Q f g:Po) (o:Int) (a b:Tm) (l:List Int)
 (c1:Pure Tryz.prog 34 [poA P,.v (.int .i64 o)] (.tup [tmA a,.v (.bool true)]))
 (c2:Pure Tryz.prog 34 [poA Q,.v (.int .i64 o)] (.tup [tmA b,.v (.bool true)]))
 (c3:Pure Tryz.prog 56 [iv 1] (ratQ 1))
 (c4:Pure Tryz.prog 84 [ivs a.2,ivs b.2] (ivs l))
 (c5:Pure Tryz.prog 35 [tmA (1,l),poA P,.v (.int .i64 o)] (.tup [poA f,.v (.bool true)]))
 (c6:Pure Tryz.prog 35 [tmA (1,l),poA Q,.v (.int .i64 o)] (.tup [poA g,.v (.bool true)])) :
 Pure Tryz.prog 40 [poA P,poA Q,.v (.int .i64 o)] (.tup [poA f,poA g]):=by
 obtain⟨a1,a2⟩:=a;obtain⟨b1,b2⟩:=b;simp only at c4 c5 c6;generalize (1:Rat)=q at *;refine Zaa (tok:=0) Tryz.func40 rfl Tryz.ntmps40 Tryz.results40 Tryz.call40 (by rfl) (by simp) ?_;(focus (refine wkld w_t (w_6 c1 c2 c3 c4 c5 c6) w_t (w_1 (w_d 3 [(0,ratQ q),(5,ivs l)] [] [12])) ?_;(repeat' first|exact w_t|apply w_l);all_goals intros))
theorem rfPairV (P Q f g x y z:Po) (o:Int) (b:Bool) (h1:P.length≠0) (h2:Q.length≠0)
 (c1:Pure Tryz.prog 40 [poA P,poA Q,.v (.int .i64 o)] (.tup [poA f,poA g]))
 (c2:Pure Tryz.prog 27 [poA f,poA P] (poA x))
 (c3:Pure Tryz.prog 27 [poA g,poA Q] (poA y))
 (c4:Pure Tryz.prog 24 [poA x,poA y] (poA z))
 (c5:Pure Tryz.prog 33 [poA z] (.v (.bool b))) :
 Pure Tryz.prog 14 [poA P,poA Q,.v (.int .i64 o)] (if b=true then .tup [.v (.slice none 0 0),.v (.int .i64 4)] else .tup [poA z,.v (.int .i64 0)]):=by
 cases b
 ·rw [if_neg (by decide)];refine Zaa (tok:=0) Tryz.func14 rfl Tryz.ntmps14 Tryz.results14 Tryz.call14 (by rfl) (by simp) ?_;(focus (refine wkld (w_3 @Zbb h1 h2) (w_5 c1 c2 c3 c4 c5) w_t w_t ?_;(repeat' first|exact w_t|apply w_l);all_goals intros))
 ·rw [if_pos rfl];refine Zaa (tok:=0) Tryz.func14 rfl Tryz.ntmps14 Tryz.results14 Tryz.call14 (by rfl) (by simp) ?_;(focus (refine wkld (w_3 @Zbb h1 h2) (w_5 c1 c2 c3 c4 c5) w_t w_t ?_;(repeat' first|exact w_t|apply w_l);all_goals intros))
theorem BO.ld {o:Int} {b:Po} (h:BO b):TO (ldO o b) 1:=by
 have m:=Zfm (o:=o) h.s h.n;have g:=(h.pb.k _ m).2.2;exact⟨(h.s.1 _ m).1,h.z _ m,h.s.dom _ m,by have:=(h.x _ m).1;omega,λj=>by have:=(g j).2;omega⟩
theorem DI.ld {o:Int} {bs:List Po} {k:Nat} {s:DS} (h:DI o bs k s) (h0:s.p≠[]):TO (ldO o s.p) (10+8*k):=by
 have m:=Zfm (o:=o) h.sp h0;have c:=h.sp.dom _ m;exact⟨(h.sp.1 _ m).1,h.sz _ m,c,by have:=(h.bp _ m).1;omega,λj=>by have:=(h.bp _ m).e c j;omega⟩
theorem DI.pb {o:Int} {bs:List Po} {k:Nat} {s:DS} (h:DI o bs k s):PB s.p (8+4*k) (10+8*k) 16:=⟨h.sp,h.pk,h.lp⟩
theorem DI.qb {o:Int} {bs:List Po} {k i:Nat} {s:DS} (h:DI o bs k s) (hi:i < bs.length):PB (s.q.getD i []) k (10+8*k) 16:=⟨(h.pq hi).1,(h.pq hi).2.1,(h.pq hi).2.2⟩
theorem DI.rb {o:Int} {bs:List Po} {k:Nat} {s:DS} (h:DI o bs k s):PB s.r k (10+8*k) 16:=⟨h.pr.1,h.pr.2.1,h.pr.2.2⟩
theorem one_pb {f:Tm} {k e:Nat} (h0:f.1≠0) (hz:Sz f.1 k) (hc:Can f.2) (hl:f.2.length≤1000) (he:∀j,gI f.2 j≤e):PB [f] 1 k e :=
 ⟨Srt.cons .nil h0 hc (by simp),λt ht=>by rw [List.mem_singleton] at ht;subst ht;exact⟨hz,hl,λj=>⟨hc.1 j,he j⟩⟩,by simp⟩
theorem TO.one {t:Tm} {k e:Nat} (h:TO t k) (he:∀j,gI t.2 j≤e):PB [t] 1 k e:=one_pb h.n h.z h.c (by have:=h.l;omega) he
def dvR:Option DS→AV
 | none=>.tup [.v (.slice none 0 0),.v (.slice none 0 0),iv 4]
 | some s=>.tup [.sl 1 (s.q.map poA),poA s.r,iv 0]
theorem dv_go {o:Int} {bs:List Po} {k i:Nat} {s:DS} {f:Tm} (hb:∀b∈bs,BO b) (h:DI o bs k s) (hk:k+dvM o s≤20809) (h0:s.p≠[]) (hi:i < bs.length) (hj:∀j,j < i→Zfg o (ldO o s.p) (bs.getD j [])=none) (hf:Zfg o (ldO o s.p) (bs.getD i [])=some f) :
 ((bigP (subM s.p (mlM [f] (bs.getD i []))) || bigP (addM (s.q.getD i []) [f]))=true→Zfr o bs s=none) ∧
 ((bigP (subM s.p (mlM [f] (bs.getD i []))) || bigP (addM (s.q.getD i []) [f]))=false→Zfr o bs s=Zfr o bs ⟨subM s.p (mlM [f] (bs.getD i [])),s.q.set i (addM (s.q.getD i []) [f]),s.r⟩∧(∃k',DI o bs k' ⟨subM s.p (mlM [f] (bs.getD i [])),s.q.set i (addM (s.q.getD i []) [f]),s.r⟩∧k'+dvM o ⟨subM s.p (mlM [f] (bs.getD i [])),s.q.set i (addM (s.q.getD i []) [f]),s.r⟩≤20809)∧dvM o ⟨subM s.p (mlM [f] (bs.getD i [])),s.q.set i (addM (s.q.getD i []) [f]),s.r⟩ < dvM o s):=by
 have hs:=fst_at hj hi hf;refine⟨λg=>Zng h0 (by unfold Zgu;rw [hs];simp only [g,if_true]),λg=>?_⟩;obtain⟨a,b,c,d⟩:=Zkp (s':=⟨subM s.p (mlM [f] (bs.getD i [])),s.q.set i (addM (s.q.getD i []) [f]),s.r⟩) hb h hk h0 (by unfold Zgu;rw [hs];simp only [g,Bool.false_eq_true,if_false]);exact⟨a,⟨_,b,c⟩,d⟩
theorem dv_out {o:Int} {bs:List Po} {k:Nat} {s:DS} (hb:∀b∈bs,BO b) (h:DI o bs k s) (hk:k+dvM o s≤20809) (h0:s.p≠[]) (hj:∀j,j < bs.length→Zfg o (ldO o s.p) (bs.getD j [])=none) :
 (bigP (addM s.r [ldO o s.p])=true→Zfr o bs s=none) ∧
 (bigP (addM s.r [ldO o s.p])=false→Zfr o bs s=Zfr o bs ⟨subM s.p [ldO o s.p],s.q,addM s.r [ldO o s.p]⟩∧(∃k',DI o bs k' ⟨subM s.p [ldO o s.p],s.q,addM s.r [ldO o s.p]⟩∧k'+dvM o ⟨subM s.p [ldO o s.p],s.q,addM s.r [ldO o s.p]⟩≤20809)∧dvM o ⟨subM s.p [ldO o s.p],s.q,addM s.r [ldO o s.p]⟩ < dvM o s):=by
 have hs:fstO o (ldO o s.p) bs=none:=Zp6 λb hb=>by
  obtain⟨j,hj2,rfl⟩:=List.mem_iff_getElem.1 hb;have:=hj j hj2
  rwa [List.getD_eq_getElem?_getD,List.getElem?_eq_getElem hj2] at this
 refine⟨λg=>Zng h0 (by unfold Zgu;rw [hs];simp only [g,if_true]),λg=>?_⟩;obtain⟨a,b,c,d⟩:=Zkp (s':=⟨subM s.p [ldO o s.p],s.q,addM s.r [ldO o s.p]⟩) hb h hk h0 (by unfold Zgu;rw [hs];simp only [g,Bool.false_eq_true,if_false]);exact⟨a,⟨_,b,c⟩,d⟩
theorem lgB {p:Po} {n j e:Nat} (h:PB p n j e) (hn:n≤1000000) (he:e≤1000):Pure Tryz.prog 29 [poA p] (.v (.bool (bigP p)))∧Pure Tryz.prog 33 [poA p] (.v (.bool (bigP p))) :=
 have:=h.l
 ⟨grLarge p h.k (by omega) (by omega),rpLarge p h.k (by omega) (by omega)⟩
theorem dv_con {o:Int} {bs:List Po} {k i:Nat} {s:DS} {f:Tm} (hb:∀b∈bs,BO b) (h:DI o bs k s) (hk:k≤20809) (h0:s.p≠[]) (hi:i < bs.length) (hf:Zfg o (ldO o s.p) (bs.getD i [])=some f) :
 (Pure Tryz.prog 16 [poA (s.q.getD i []),poA [f]] (poA (addM (s.q.getD i []) [f]))∧Pure Tryz.prog 25 [poA (s.q.getD i []),poA [f]] (poA (addM (s.q.getD i []) [f]))) ∧
 (Pure Tryz.prog 17 [poA [f],poA (bs.getD i [])] (poA (mlM [f] (bs.getD i [])))∧Pure Tryz.prog 27 [poA [f],poA (bs.getD i [])] (poA (mlM [f] (bs.getD i [])))) ∧
 (Pure Tryz.prog 31 [poA s.p,poA (mlM [f] (bs.getD i []))] (poA (subM s.p (mlM [f] (bs.getD i []))))∧Pure Tryz.prog 24 [poA s.p,poA (mlM [f] (bs.getD i []))] (poA (subM s.p (mlM [f] (bs.getD i []))))) ∧
 (Pure Tryz.prog 29 [poA (subM s.p (mlM [f] (bs.getD i [])))] (.v (.bool (bigP (subM s.p (mlM [f] (bs.getD i []))))))∧Pure Tryz.prog 33 [poA (subM s.p (mlM [f] (bs.getD i [])))] (.v (.bool (bigP (subM s.p (mlM [f] (bs.getD i []))))))) ∧
 (Pure Tryz.prog 29 [poA (addM (s.q.getD i []) [f])] (.v (.bool (bigP (addM (s.q.getD i []) [f]))))∧Pure Tryz.prog 33 [poA (addM (s.q.getD i []) [f])] (.v (.bool (bigP (addM (s.q.getD i []) [f]))))):=by
 have hbi:=hb _ (Zp4 hi);obtain⟨f0,fc,fl,fe,fz,-,-⟩:=Zs5 h.sp h0 hbi h.bp h.sz hf;have pf:PB [f] 1 (11+8*k) 16:=one_pb f0 fz fc (by omega) fe;have pq:=h.qb hi;have pb:=hbi.pb;have pm:=pf.mul pb;have pp:=h.pb;exact⟨hpAdd pq pf (by omega) (by omega) (by omega) (by omega) (by omega) (by omega),hpMul pf pb (by omega) (by omega) (by omega) (by omega) (by omega) (by omega) (by omega) (by rw [show min 1 4=1 from rfl];omega) (by omega),hpSub pp pm (by omega) (by omega) (by omega) (by omega) (by omega) (by omega),lgB (pp.sub pm) (by omega) (by omega),lgB (pq.add pf) (by omega) (by omega)⟩
theorem dv_conR {o:Int} {bs:List Po} {k:Nat} {s:DS} (h:DI o bs k s) (hk:k≤20809) (h0:s.p≠[]) :
 (Pure Tryz.prog 32 [poA [ldO o s.p]] (poA [ldO o s.p])∧Pure Tryz.prog 36 [ratQ (ldO o s.p).1,ivs (ldO o s.p).2] (poA [ldO o s.p])) ∧
 (Pure Tryz.prog 16 [poA s.r,poA [ldO o s.p]] (poA (addM s.r [ldO o s.p]))∧Pure Tryz.prog 25 [poA s.r,poA [ldO o s.p]] (poA (addM s.r [ldO o s.p]))) ∧
 (Pure Tryz.prog 31 [poA s.p,poA [ldO o s.p]] (poA (subM s.p [ldO o s.p]))∧Pure Tryz.prog 24 [poA s.p,poA [ldO o s.p]] (poA (subM s.p [ldO o s.p]))) ∧
 (Pure Tryz.prog 29 [poA (addM s.r [ldO o s.p])] (.v (.bool (bigP (addM s.r [ldO o s.p]))))∧Pure Tryz.prog 33 [poA (addM s.r [ldO o s.p])] (.v (.bool (bigP (addM s.r [ldO o s.p]))))):=by
 have t:=h.ld h0;have m:=Zfm (o:=o) h.sp h0;have te:∀j,gI (ldO o s.p).2 j≤(16:Nat):=λj=>(h.bp _ m).e (h.sp.dom _ m) j;have pt:=t.one te;have pr:=h.rb;have pp:=h.pb;exact⟨⟨Zr6 _ _ t.n t.z (by omega) t.c t.l t.e,Zpd _ _ t.n t.z (by omega) t.c t.l t.e⟩,hpAdd pr pt (by omega) (by omega) (by omega) (by omega) (by omega) (by omega),hpSub pp pt (by omega) (by omega) (by omega) (by omega) (by omega) (by omega),lgB (pr.add pt) (by omega) (by omega)⟩
theorem grLeadsA (bs:List Po) (o:Int) (hb:∀b∈bs,BO b) (hl:bs.length≤1000):Pure Tryz.prog 28 [.sl 1 (bs.map poA),.v (.int .i64 o)] (.tup [.sl 4 (bs.map λb=>tmA (ldO o b)),.v (.bool true)]):=by
 cases bs with
 | nil=>exact Zgg (grLeads0 o) (Vk.tupL (.cons (.nil 4) (.cons (.refl _) .nil)))
 | cons b r=>exact Zs0 _ o (λc hc=>⟨(hb c hc).n,λu hu=>(hb c hc).pb.k.sm (by omega) hu,by have:=(hb c hc).l;omega⟩) hl (by simp)
structure RT where
 r:RQ
 m:List Int
abbrev RT.av (t:RT):AV:=.agg [.v (.bool t.r.s),lim t.r.l,lim t.r.d,ivs t.m]
abbrev RT.tm (t:RT):Tm:=(t.r.q,t.m)
abbrev RT.zero:RT:=⟨⟨false,[],[]⟩,[]⟩
def RT.ok (t:RT):Bool:=t.r.ok && (decide (t.r.q≠0) && Zcc t.m)
def Zj1 (l:List RT) (i:Nat):Bool:=(l.getD i RT.zero).ok && (decide (i=0) || decide (ltM (l.getD i RT.zero).m (l.getD (i - 1) RT.zero).m))
def Zk8 (l:List RT):Bool:=(List.range l.length).all (Zj1 l)
theorem Znz {l:List RT} {i:Nat} (h:i < l.length):l.getD i RT.zero=l[i]:=by rw [List.getD_eq_getElem?_getD,List.getElem?_eq_getElem h];rfl
theorem Zha {m:List Int} (h:Zcc m=true):Can m∧m.length≤64∧∀j,gI m j≤1048576:=by
 unfold Zcc at h;simp only [Bool.and_eq_true,decide_eq_true_eq,Bool.not_eq_true',List.all_eq_true] at h;obtain⟨⟨h1,h2⟩,h3⟩:=h;have hj:∀j,0≤gI m j∧gI m j≤1048576:=λj=>by
  by_cases hl:j < m.length
  ·have:=h3 m[j] (List.getElem_mem hl);rw [Zfp hl];unfold Zf6 at this;simp at this;omega
  ·rw [Zbg (by omega)];omega
 refine⟨⟨λj=>(hj j).1,?_⟩,h1,λj=>(hj j).2⟩;by_cases h0:m.length=0
 ·exact .inl h0
 ·rw [Ze4 (by omega)] at h2;exact .inr (by simpa using h2)
theorem pol_no {l:List RT} {i:Nat} (hi:i < l.length) (h:Zj1 l i=false):Zk8 l=false:=by
 unfold Zk8;rw [List.all_eq_false];exact⟨i,List.mem_range.2 hi,by rw [h];simp⟩
theorem pol_in {l:List RT} {k:Nat} (h:Zk8 l=true) (hs:∀t∈l,t.r.lm k) :
 .sl 4 (l.map RT.av)=poA (l.map RT.tm)∧SrtM (l.map RT.tm)∧PK (l.map RT.tm) k 1048576∧∀t∈l,t.m.length≤64:=by
 have hall:∀i (hi:i < l.length),l[i].ok=true∧(i=0∨ltM l[i].m (l.getD (i - 1) RT.zero).m):=λi hi=>by
  have:=List.all_eq_true.1 h i (List.mem_range.2 hi);unfold Zj1 at this;rw [Znz hi] at this
  simpa using this
 have hok:∀t∈l,t.r.ok=true∧t.r.q≠0∧Zcc t.m=true:=λt ht=>by
  obtain⟨i,hi,rfl⟩:=List.mem_iff_getElem.1 ht;have:=(hall i hi).1;unfold RT.ok at this;simp only [Bool.and_eq_true,decide_eq_true_eq] at this;exact this
 refine⟨?_,⟨λu hu=>?_,?_⟩,λu hu=>?_,λt ht=>(Zha (hok t ht).2.2).2.1⟩
 ·rw [poA,List.map_map];congr 1;refine List.map_congr_left λt ht=>?_;have:=(RQ.ok_av (hs t ht) (hok t ht).1).1;simp only [AV.agg.injEq,List.cons.injEq] at this;show AV.agg [_,_,_,_]=AV.agg [_,_,_,_];rw [this.1,this.2.1,this.2.2.1]
 ·obtain⟨t,ht,rfl⟩:=List.mem_map.1 hu;exact⟨(hok t ht).2.1,(Zha (hok t ht).2.2).1⟩
 ·have key:∀d i,i+d+1 < l.length→ltM (l.getD (i+d+1) RT.zero).m (l.getD i RT.zero).m:=by
   intro d
   induction d with
   | zero =>
     intro i hi;have:=(hall (i+1) hi).2;rw [Znz hi];rcases this with h0 | h0
     ·omega
     ·exact h0
   | succ d ih =>
     intro i hi;have h1:=ih i (by omega);have h2:=(hall (i+(d+1)+1) hi).2;rw [Znz hi];rcases h2 with h0 | h0
     ·omega
     ·exact ordM.tr _ _ _ h0 h1
  rw [List.pairwise_map,List.pairwise_iff_getElem];intro i j hi hj hij;have:=key (j - i - 1) i (by omega);rw [show i+(j - i - 1)+1=j by omega,Znz hi,Znz hj] at this;exact this
 ·obtain⟨t,ht,rfl⟩:=List.mem_map.1 hu;obtain⟨h1,h2,h3⟩:=Zha (hok t ht).2.2;exact⟨(RQ.ok_av (hs t ht) (hok t ht).1).2,by show t.m.length≤1000;omega,λj=>⟨h1.1 j,h3 j⟩⟩
theorem rawRight (l:List RT) (ll:l.length≤1000000000) (hs:∀t∈l,t.r.lm 2000000):Pure Tryz.prog 38 [.sl 4 (l.map RT.av)] (.v (.bool (Zk8 l))):=by
 have hlen:(l.map RT.av).length=l.length:=List.length_map ..;have hgl:∀i (h:i < l.length),(l.map RT.av).getD i .u=l[i].av:=λi h=>Zbu RT.av h;generalize hL:l.map RT.av=L at *;refine Zaa (tok:=0) Tryz.func38 rfl Tryz.ntmps38 Tryz.results38 Tryz.call38 (by rfl) (by simp) ?_;(focus (refine wkad (w_1 hlen) w_t w_t ?_;(repeat' first|exact w_t|apply w_l);all_goals intros));refine Zal (ι:=Nat) (λi e m=>i≤l.length∧e 0=.sl 4 L∧e 3=iv i∧∀j,j < i→Zj1 l j=true) (λi=>l.length - i) 0 (by rfl) ?_ ?_
 ·rintro i e m ⟨hi,e0,e3,hj⟩
  by_cases hi2:i < l.length
  ·have hg:L.getD i .u=.agg [.v (.bool l[i].r.s),lim l[i].r.l,lim l[i].r.d,ivs l[i].m]:=hgl i hi2;have hm:=hs _ (List.getElem_mem hi2);have hti:=Znz hi2;have cr:=qRight l[i].r.s l[i].r.l l[i].r.d hm.1 hm.2.1 (by have:=hm.2.2.1;omega) (by have:=hm.2.2.2;omega);have cm:Pure Tryz.prog 82 [ivs l[i].m] (.v (.bool (Zcc l[i].m))):=Zpi l[i].m;have hno:Zj1 l i=false→Zk8 l=false:=pol_no hi2;have htr:Zj1 l i=(l[i].ok && (decide (i=0) || decide (ltM l[i].m (l.getD (i - 1) RT.zero).m))):=by unfold Zj1;rw [hti]
   have hnx:Zj1 l i=true→∀j,j < i+1→Zj1 l j=true:=λh j hjj=>by
    by_cases e:j=i
    ·rw [e];exact h
    ·exact hj j (by omega)
   have hsg:l[i].r.ok=true→Pure Tryz.prog 64 [.agg [.v (.bool l[i].r.s),lim l[i].r.l,lim l[i].r.d]] (.v (.int .i64 l[i].r.q.num.sign)):=λo=>by
    obtain⟨av,sz⟩:=RQ.ok_av hm o;have:=qSign l[i].r.q sz (by omega)
    rwa [←av] at this
   have hcl:Zcc l[i].m=true→i≠0→(l.getD (i - 1) RT.zero).ok=true→Pure Tryz.prog 62 [ivs (l.getD (i - 1) RT.zero).m,ivs l[i].m,iv 0] (iv (lexC (l.getD (i - 1) RT.zero).m l[i].m (max (l.getD (i - 1) RT.zero).m.length l[i].m.length))):=λh1 h2 h3=>by
    obtain⟨a1,a2,a3⟩:=Zha h1;have h4:Zcc (l.getD (i - 1) RT.zero).m=true:=by unfold RT.ok at h3;simp only [Bool.and_eq_true] at h3;exact h3.2.2
    obtain⟨b1,b2,b3⟩:=Zha h4;exact rpLex _ _ ⟨by omega,λj=>by have:=b1.1 j;have:=b3 j;omega⟩ ⟨by omega,λj=>by have:=a1.1 j;have:=a3 j;omega⟩
   have hpr:i≠0→(l.getD (i - 1) RT.zero).ok=true:=λh0=>by
    have:=hj (i - 1) (by omega);unfold Zj1 at this;simp only [Bool.and_eq_true] at this;exact this.1
   have hgp:i≠0→L.getD (i - 1) .u=(l.getD (i - 1) RT.zero).av:=λh0=>by rw [hgl (i - 1) (by omega),Znz (show i - 1 < l.length by omega)]
   have hlt:∀a b:List Int,ltM a b↔lexC b a (max b.length a.length)=1:=λa b=>by
    rw [Zhk,Nat.max_comm];show lexC a b (max a.length b.length)=-1↔_;omega
   have h3:∀a b:List Int,lexC a b (max a.length b.length)=0∨lexC a b (max a.length b.length)=-1∨lexC a b (max a.length b.length)=1:=λa b=>by
    rcases Ze0 (a:=a) (b:=b) (max a.length b.length) with h | h | h
    ·exact .inl h.1
    ·exact .inr (.inl h)
    ·exact .inr (.inr h)
   simp only [hlt] at htr;unfold RT.ok at htr;have hsz:(l[i].r.q=0)↔l[i].r.q.num.sign=0:=by rw [Zey]
   clear hs hj hti hm hgl hlt;generalize l[i].r.ok=ok at *;generalize l[i].r.q=q at *;generalize hsn:q.num.sign=z at *;generalize l[i].m=mm at *;generalize l[i].r.s=rs at *;generalize l[i].r.l=rl at *;generalize l[i].r.d=rd at *
   cases ok with
   | false =>
     rw [hno (by rw [htr];rfl)];(focus (refine wkld (w_4 e0 e3 hg hlen) (w_1 cr) w_t w_t ?_;(repeat' first|exact w_t|apply w_l);all_goals intros))
   | true =>
     have cs:=hsg rfl;by_cases hz:z=0
     ·have hq:=hsz.2 hz;rw [hno (by rw [htr];simp [hq])];subst hz;(focus (refine wkld (w_4 e0 e3 hg hlen) (w_2 cr cs) w_t w_t ?_;(repeat' first|exact w_t|apply w_l);all_goals intros))
     ·have hq:¬q=0:=λe=>hz (hsz.1 e)
      cases hr:Zcc mm with
      | false =>
        rw [hr] at cm htr;rw [hno (by rw [htr];simp)];(focus (refine wkld (w_5 e0 e3 hg hlen hz) (w_3 cr cs cm) w_t w_t ?_;(repeat' first|exact w_t|apply w_l);all_goals intros))
      | true =>
        rw [hr] at cm htr;by_cases h0:i=0
        ·subst h0;have:=hnx (by rw [htr];simp [hq]);(focus (refine wkad (w_5 e0 e3 hg hlen hz) (w_3 cr cs cm) (w_1 (w_d 6 [] [] [])) ?_;(repeat' first|exact w_t|apply w_l);all_goals intros));exact⟨1,⟨by omega,by exact gW e0,by exact gC,this⟩,by omega⟩
        ·have cl:=hcl hr h0 (hpr h0);have hh:=hgp h0;obtain⟨k,rfl⟩:∃k,i=k+1:=⟨i - 1,by omega⟩;have hi1:((k+1:Nat):Int) - 1=(k:Int):=by omega
         rw [show k+1 - 1=k from rfl] at *;generalize l.getD k RT.zero=t at *;obtain⟨⟨ts,tl,td⟩,tm⟩:=t;simp only at *;have hx:=h3 tm mm;generalize lexC tm mm (max tm.length mm.length)=x at *;rcases hx with rfl | rfl | rfl
         ·rw [hno (by rw [htr];simp)];(focus (refine wkld (w_7 e0 e3 hg hh hi1 hlen hz) (w_4 cr cs cm cl) w_t (w_1 (w_d 6 [(14,iv 0)] [] [])) ?_;(repeat' first|exact w_t|apply w_l);all_goals intros))
         ·rw [hno (by rw [htr];simp)];(focus (refine wkld (w_7 e0 e3 hg hh hi1 hlen hz) (w_4 cr cs cm cl) w_t (w_1 (w_d 6 [(14,iv (-1))] [] [])) ?_;(repeat' first|exact w_t|apply w_l);all_goals intros))
         ·have:=hnx (by rw [htr];simp [hq]);(focus (refine wkad (w_7 e0 e3 hg hh hi1 hlen hz) (w_4 cr cs cm cl) (w_1 (w_d 6 [(14,iv 1)] [] [])) ?_;(repeat' first|exact w_t|apply w_l);all_goals intros));exact⟨k+1+1,⟨by omega,by exact gW e0,by exact gS,this⟩,by omega⟩
  ·have hi3:i=l.length:=by omega
   subst hi3;have:Zk8 l=true:=List.all_eq_true.2 λj hjj=>hj j (List.mem_range.1 hjj);rw [this];(focus (refine wkld (w_3 e0 e3 hlen) w_t w_t w_t ?_;(repeat' first|exact w_t|apply w_l);all_goals intros))
 ·exact⟨Nat.zero_le _,by exact gC,by exact gC,λj h=>by omega⟩
attribute [local go_sem] Tryz.underlying27
def tmSm (vars exps:Nat) (t:RT):Bool:=decide (t.m.length≤vars) && (decide (t.r.l.length≤4) && (decide (t.r.d.length≤4) && t.m.all λx=>decide (x≤exps)))
def Zei (l:List RT) (terms vars exps:Nat):Bool:=decide (l.length≤terms) && (l.all (tmSm vars exps) && Zk8 l)
theorem sm_len {l:List RT} {a b c:Nat} (h:a < l.length):Zei l a b c=false:=by
 unfold Zei;rw [decide_eq_false (by omega),Bool.false_and]
theorem sm_at {l:List RT} {a b c i:Nat} (hi:i < l.length) (h:tmSm b c l[i]=false):Zei l a b c=false:=by
 unfold Zei;rw [show l.all (tmSm b c)=false from List.all_eq_false.2 ⟨l[i],List.getElem_mem hi,by rw [h];decide⟩,Bool.false_and,Bool.and_false]
theorem sm_end {l:List RT} {a b c:Nat} (hl:l.length≤a) (h:∀j (hj:j < l.length),tmSm b c l[j]=true):Zei l a b c=Zk8 l:=by
 unfold Zei;rw [decide_eq_true hl,show l.all (tmSm b c)=true from List.all_eq_true.2 λt ht=>by obtain⟨j,hj,rfl⟩:=List.mem_iff_getElem.1 ht;exact h j hj,Bool.true_and,Bool.true_and]
theorem sm_in {l:List RT} {a b c k:Nat} (h:Zei l a b c=true) (hs:∀t∈l,t.r.lm k):.sl 4 (l.map RT.av)=poA (l.map RT.tm)∧PB (l.map RT.tm) a 4 c∧∀t∈l.map RT.tm,t.2.length≤b∧t.2.length≤64:=by
 unfold Zei at h;simp only [Bool.and_eq_true,decide_eq_true_eq,List.all_eq_true] at h;obtain⟨h1,h2,h3⟩:=h;have hm:∀t∈l,t.m.length≤b∧t.r.l.length≤4∧t.r.d.length≤4∧∀x∈t.m,x≤(c:Int):=λt ht=>by
  have:=h2 t ht;unfold tmSm at this
  simpa only [Bool.and_eq_true,decide_eq_true_eq,List.all_eq_true] using this
 obtain⟨e,s,p,ml⟩:=pol_in (k:=4) h3 λt ht=>⟨(hs t ht).1,(hs t ht).2.1,(hm t ht).2.1,(hm t ht).2.2.1⟩;refine⟨e,⟨s,λu hu=>?_,by rw [List.length_map];exact h1⟩,λu hu=>?_⟩
 ·obtain⟨g1,g2,g3⟩:=p u hu;obtain⟨t,ht,rfl⟩:=List.mem_map.1 hu;refine⟨g1,g2,λj=>⟨(g3 j).1,?_⟩⟩;by_cases hj:j < t.m.length
  ·show gI t.m j≤_;rw [Zfp hj];exact(hm t ht).2.2.2 _ (List.getElem_mem hj)
  ·show gI t.m j≤_;rw [Zbg (by omega)];omega
 ·obtain⟨t,ht,rfl⟩:=List.mem_map.1 hu;exact⟨(hm t ht).1,ml t ht⟩
theorem Zrr (l:List RT) (a b c:Nat) (ha:a≤1000) (hb:b≤1000) (hs:∀t∈l,Lm t.r.l∧Lm t.r.d):Pure Tryz.prog 12 [.sl 4 (l.map RT.av),iv a,iv b,iv c] (.v (.bool (Zei l a b c))):=by
 have hlen:(l.map RT.av).length=l.length:=List.length_map ..;have hgl:∀i (h:i < l.length),(l.map RT.av).getD i .u=l[i].av:=λi h=>Zbu RT.av h;by_cases hl:a < l.length
 ·rw [sm_len hl];generalize l.map RT.av=L at *;refine Zaa (tok:=0) Tryz.func12 rfl Tryz.ntmps12 Tryz.results12 Tryz.call12 (by rfl) (by simp) ?_;(focus (refine wkld (w_1 hlen) w_t w_t w_t ?_;(repeat' first|exact w_t|apply w_l);all_goals intros))
 have cr:(∀j (hj:j < l.length),tmSm b c l[j]=true)→Pure Tryz.prog 38 [.sl 4 (l.map RT.av)] (.v (.bool (Zk8 l))):=λh=>rawRight l (by omega) λt ht=>by
  obtain⟨j,hj,rfl⟩:=List.mem_iff_getElem.1 ht;have:=h j hj;unfold tmSm at this;simp only [Bool.and_eq_true,decide_eq_true_eq] at this;exact⟨(hs _ ht).1,(hs _ ht).2,by omega,by omega⟩
 have hE:=sm_end (l:=l) (a:=a) (b:=b) (c:=c) (by omega);have hN:∀i (hi:i < l.length),tmSm b c l[i]=false→Zei l a b c=false:=λi hi h=>sm_at hi h;generalize Zei l a b c=R at *;generalize l.map RT.av=L at *;refine Zaa (tok:=0) Tryz.func12 rfl Tryz.ntmps12 Tryz.results12 Tryz.call12 (by rfl) (by simp) ?_;(focus (refine wkad (w_1 hlen) w_t w_t ?_;(repeat' first|exact w_t|apply w_l);all_goals intros));refine Zal (ι:=Nat) (λi e m=>i≤l.length∧e 0=.sl 4 L∧e 2=iv b∧e 3=iv c∧e 9=iv i∧∀j (hj:j < l.length),j < i→tmSm b c l[j]=true) (λi=>l.length - i) 0 (by rfl) ?_ ?_
 ·rintro i e m ⟨hi,e0,e2,e3,e9,hj⟩
  by_cases hi2:i < l.length
  ·have hg:=hgl i hi2;have hno:=hN i hi2;have hnx:tmSm b c l[i]=true→∀j (hj:j < l.length),j < i+1→tmSm b c l[j]=true:=λh j hj2 hlt=>by
    by_cases e:j=i
    ·subst e;exact h
    ·exact hj j hj2 (by omega)
   clear hj hN hE cr;generalize l[i]=t at *;obtain⟨⟨s,li,d⟩,m1⟩:=t;by_cases h1:m1.length≤b∧li.length≤4∧d.length≤4
   ·(focus (refine wkad (w_6 e0 e2 e3 e9 hg hlen) w_t w_t ?_;(repeat' first|exact w_t|apply w_l);all_goals intros));refine Zal (ι:=Nat) (λv e m=>v≤m1.length∧e 0=.sl 4 L∧e 2=iv b∧e 3=iv c∧e 9=iv i∧e 10=iv v∧∀x,x < v→gI m1 x≤c) (λv=>m1.length - v) 0 (by rfl) ?_ ?_
    ·rintro v e m ⟨hv,f0,f2,f3,f9,f10,hx⟩
     by_cases hv2:v < m1.length
     ·by_cases hc:gI m1 v≤c
      ·(focus (refine wkad (w_7 f0 f2 f3 f9 f10 hg hlen) w_t w_t ?_;(repeat' first|exact w_t|apply w_l);all_goals intros));exact⟨v+1,⟨by omega,by exact gW f0,by exact gW f2,by exact gW f3,by exact gW f9,by exact gS,λx hlt=>by
        by_cases e:x=v
        ·rw [e];exact hc
        ·exact hx x (by omega)⟩,by omega⟩
      ·obtain rfl:=hno (by
        unfold tmSm;rw [show(m1.all λx=>decide (x≤(c:Int)))=false from List.all_eq_false.2 ⟨m1[v],List.getElem_mem hv2,by rw [←Zfp hv2];simpa using hc⟩];simp only [Bool.and_false])
       (focus (refine wkld (w_7 f0 f2 f3 f9 f10 hg hlen) w_t w_t w_t ?_;(repeat' first|exact w_t|apply w_l);all_goals intros))
     ·have hT:=hnx (by
       unfold tmSm;simp only [Bool.and_eq_true,decide_eq_true_eq,List.all_eq_true];refine⟨h1.1,h1.2.1,h1.2.2,λx hxm=>?_⟩;obtain⟨j,hj,rfl⟩:=List.mem_iff_getElem.1 hxm;have:=hx j (by omega)
       rwa [Zfp hj] at this)
      (focus (refine wkad (w_7 f0 f2 f3 f9 f10 hg hlen) w_t w_t ?_;(repeat' first|exact w_t|apply w_l);all_goals intros));exact⟨i+1,⟨by omega,by exact gW f0,by exact gW f2,by exact gW f3,by exact gS,hT⟩,by omega⟩
    ·exact⟨Nat.zero_le _,by exact gW e0,by exact gW e2,by exact gW e3,by exact gW e9,by exact gC,λx hx=>absurd hx (by omega)⟩
   ·obtain rfl:=hno (by
     unfold tmSm;simp only [←Bool.not_eq_true,Bool.and_eq_true,decide_eq_true_eq];exact λh=>h1 ⟨h.1,h.2.1,h.2.2.1⟩)
    (focus (refine wkld (w_6 e0 e2 e3 e9 hg hlen) w_t w_t w_t ?_;(repeat' first|exact w_t|apply w_l);all_goals intros))
  ·have hA:∀j (hj:j < l.length),tmSm b c l[j]=true:=λj hj2=>hj j hj2 (by omega);have cR:=cr hA;rw [←hE hA] at cR;(focus (refine wkld (w_5 e0 e2 e3 e9 hlen) (w_1 cR) w_t w_t ?_;(repeat' first|exact w_t|apply w_l);all_goals intros))
 ·exact⟨Nat.zero_le _,by exact gC,by exact gC,by exact gC,by exact gC,λj hj h=>absurd h (by omega)⟩
def lcmM (a b:List Int):List Int:=zipI max a b
theorem Zkm (a b:List Int) (j:Nat):gI (lcmM a b) j=max (gI a j) (gI b j):=Zde _ (by decide) a b j
theorem Zss (a b:List Int):(lcmM a b).length=max a.length b.length:=by simp [lcmM,zipI]
theorem Zlo {a b:List Int} (ha:Can a) (hb:Can b):Can (lcmM a b):=by
 refine⟨λj=>by rw [Zkm];have:=ha.1 j;omega,?_⟩;rw [Zkm,Zss];rcases Nat.le_total a.length b.length with h | h
 ·rw [Nat.max_eq_right h];rcases hb.2 with g | g
  ·exact .inl g
  ·have:=hb.1 (b.length - 1);exact .inr (by omega)
 ·rw [Nat.max_eq_left h];rcases ha.2 with g | g
  ·exact .inl g
  ·have:=ha.1 (a.length - 1);exact .inr (by omega)
theorem lcm_div {a b:List Int} (ha:Can a) (hb:Can b):divI a (lcmM a b)=true∧divI b (lcmM a b)=true :=
 ⟨(Zlv (Zlo ha hb) ha).2 λj=>by rw [Zkm];omega,(Zlv (Zlo ha hb) hb).2 λj=>by rw [Zkm];omega⟩
structure PS (p:Po):Prop where
 b:PB p 8 4 8
 l:∀t∈p,t.2.length≤64
theorem PS.ld {p:Po} (h:PS p) (h0:p≠[]) (o:Int):TO (ldO o p) 4∧∀j,gI (ldO o p).2 j≤(8:Nat):=by
 have m:=Zfm (o:=o) h.b.s h0;obtain⟨g1,g2,g3⟩:=h.b.k _ m;exact⟨⟨(h.b.s.1 _ m).1,g1,h.b.s.dom _ m,h.l _ m,λj=>by have:=(g3 j).2;omega⟩,λj=>(g3 j).2⟩
def fcT (o:Int) (P Q X:Po):Tm:=(1/(ldO o X).1,quoI (lcmM (ldO o P).2 (ldO o Q).2) (ldO o X).2)
def prZ (o:Int) (P Q:Po):Po:=subM (mlM [fcT o P Q P] P) (mlM [fcT o P Q Q] Q)
def prA (o:Int) (P Q:Po):AV:=if P=[]∨Q=[] then .tup [.v (.slice none 0 0),iv 3] else if bigP (prZ o P Q)=true then .tup [.v (.slice none 0 0),iv 4] else .tup [poA (prZ o P Q),iv 0]
theorem Zpr:Sz (1:Rat) 1:=by simpa using Sz.int (z:=1) (k:=1) (by rw [show Int.natAbs 1=1 from rfl,Zfl];omega) (by omega)
theorem Zp8 {o:Int} {P Q X:Po} (hP:PS P) (hQ:PS Q) (h0:P≠[]) (h1:Q≠[]) (hX:X=P∨X=Q):TO ((1:Rat),lcmM (ldO o P).2 (ldO o Q).2) 1∧divI (ldO o X).2 (lcmM (ldO o P).2 (ldO o Q).2)=true∧PB [fcT o P Q X] 1 5 8:=by
 obtain⟨a,ae⟩:=hP.ld h0 o;obtain⟨b,be⟩:=hQ.ld h1 o;have lt:TO ((1:Rat),lcmM (ldO o P).2 (ldO o Q).2) 1:=⟨by show(1:Rat)≠0;decide,Zpr,Zlo a.c b.c,by show(lcmM _ _).length≤64;rw [Zss];have:=a.l;have:=b.l;omega,λj=>by show gI (lcmM _ _) j≤_;rw [Zkm];have:=ae j;have:=be j;omega⟩;have d:=lcm_div a.c b.c
 have key:∀{c:Tm},TO c 4→divI c.2 (lcmM (ldO o P).2 (ldO o Q).2)=true→PB [((1:Rat)/c.1,quoI (lcmM (ldO o P).2 (ldO o Q).2) c.2)] 1 5 8:=λ{c} hc hd =>
  (lt.quo hc hd).one λj=>by show gI (quoI _ _) j≤_;rw [Zpn hd,Zkm];have:=ae j;have:=be j;have:=hc.c.1 j;omega
 rcases hX with rfl | rfl
 ·exact⟨lt,d.1,key a d.1⟩
 ·exact⟨lt,d.2,key b d.2⟩
theorem prZ_pb {o:Int} {P Q:Po} (hP:PS P) (hQ:PS Q) (h0:P≠[]) (h1:Q≠[]):PB (prZ o P Q) 16 161 16 :=
 ((Zp8 (o:=o) hP hQ h0 h1 (.inl rfl)).2.2.mul hP.b).sub ((Zp8 (o:=o) hP hQ h0 h1 (.inr rfl)).2.2.mul hQ.b)
theorem grPair (o:Int) {P Q:Po} (hP:PS P) (hQ:PS Q) (h0:P≠[]) (h1:Q≠[]) :
 Pure Tryz.prog 39 [poA P,poA Q,.v (.int .i64 o)] (.tup [poA [fcT o P Q P],poA [fcT o P Q Q],.v (.int .i64 0)])∧Pure Tryz.prog 13 [poA P,poA Q,.v (.int .i64 o)] (prA o P Q)∧Pure Tryz.prog 14 [poA P,poA Q,.v (.int .i64 o)] (prA o P Q):=by
 obtain⟨a,ae⟩:=hP.ld h0 o;obtain⟨b,be⟩:=hQ.ld h1 o;obtain⟨lt,d1,f1⟩:=Zp8 (o:=o) hP hQ h0 h1 (.inl rfl);obtain⟨-,d2,f2⟩:=Zp8 (o:=o) hP hQ h0 h1 (.inr rfl);have sP:∀u∈P,Sm u.2:=λu hu=>hP.b.k.sm (by omega) hu;have sQ:∀u∈Q,Sm u.2:=λu hu=>hQ.b.k.sm (by omega) hu;have lP:=hP.b.l;have lQ:=hQ.b.l;have zp:=prZ_pb (o:=o) hP hQ h0 h1;have m1:=hpMul f1 hP.b (by omega) (by omega) (by omega) (by omega) (by omega) (by omega) (by omega) (by omega) (by omega);have m2:=hpMul f2 hQ.b (by omega) (by omega) (by omega) (by omega) (by omega) (by omega) (by omega) (by omega) (by omega);have sb:=hpSub (f1.mul hP.b) (f2.mul hQ.b) (by omega) (by omega) (by omega) (by omega) (by omega) (by omega)
 have lg:=lgB zp (by omega) (by omega);have wa:=a.wd;have wb:=b.wd
 have cl:Pure Tryz.prog 83 [ivs (ldO o P).2,ivs (ldO o Q).2] (ivs (lcmM (ldO o P).2 (ldO o Q).2)):=by
  have:=monLcm (ldO o P).2 (ldO o Q).2 (by have:=a.l;omega) (by have:=b.l;omega)
  rwa [show Zct (zipI max (ldO o P).2 (ldO o Q).2)=lcmM (ldO o P).2 (ldO o Q).2 from Zii (Zlo a.c b.c)] at this
 have fa:=grFactsV P Q [fcT o P Q P] [fcT o P Q Q] o (ldO o P) (ldO o Q) (lcmM (ldO o P).2 (ldO o Q).2) (Zke P o h0 sP (by omega)) (Zke Q o h1 sQ (by omega)) (ratOf 1 (by omega)) cl (Zsy _ _ lt a (by omega) (by omega) d1) (Zsy _ _ lt b (by omega) (by omega) d2);have ra:=rfFactsV P Q [fcT o P Q P] [fcT o P Q Q] o (ldO o P) (ldO o Q) (lcmM (ldO o P).2 (ldO o Q).2) (Zrs P o h0 sP (by omega)) (Zrs Q o h1 sQ (by omega)) (qOf 1 (by omega)) (refLcm _ _ wa wb) (rfFact _ P o lt h0 sP (by omega) a (by omega) (by omega) d1) (rfFact _ Q o lt h1 sQ (by omega) b (by omega) (by omega) d2);have e:prA o P Q=if bigP (prZ o P Q)=true then .tup [.v (.slice none 0 0),iv 4] else .tup [poA (prZ o P Q),iv 0]:=if_neg (by rintro (g | g);exact h0 g;exact h1 g)
 rw [e];exact⟨fa,grPairV P Q _ _ _ _ (prZ o P Q) o _ fa m1.1 m2.1 sb.1 lg.1,rfPairV P Q _ _ _ _ (prZ o P Q) o _ (λg=>h0 (List.length_eq_zero_iff.1 g)) (λg=>h1 (List.length_eq_zero_iff.1 g)) ra m1.2 m2.2 sb.2 lg.2⟩
abbrev rwA (b:Bool) (l d:List Nat) (m:List Int):AV:=.agg [.v (.bool b),lim l,lim d,ivs m]
theorem grFactsN (P Q:Po) (o:Int) (s t:Bool) (h:s=false∨t=false) (b1 b2:Bool) (l1 d1 l2 d2:List Nat) (m1 m2:List Int)
 (c1:Pure Tryz.prog 18 [poA P,.v (.int .i64 o)] (.tup [rwA b1 l1 d1 m1,.v (.bool s)]))
 (c2:Pure Tryz.prog 18 [poA Q,.v (.int .i64 o)] (.tup [rwA b2 l2 d2 m2,.v (.bool t)])) :
 Pure Tryz.prog 39 [poA P,poA Q,.v (.int .i64 o)] (.tup [.v (.slice none 0 0),.v (.slice none 0 0),.v (.int .i64 3)]):=by
 unfold rwA at c1 c2;rcases h with rfl | rfl
 ·refine Zaa (tok:=0) Tryz.func39 rfl Tryz.ntmps39 Tryz.results39 Tryz.call39 (by rfl) (by simp) ?_;(focus (refine wkld w_t (w_2 c1 c2) w_t w_t ?_;(repeat' first|exact w_t|apply w_l);all_goals intros))
 ·cases s
  ·refine Zaa (tok:=0) Tryz.func39 rfl Tryz.ntmps39 Tryz.results39 Tryz.call39 (by rfl) (by simp) ?_;(focus (refine wkld w_t (w_2 c1 c2) w_t w_t ?_;(repeat' first|exact w_t|apply w_l);all_goals intros))
  ·refine Zaa (tok:=0) Tryz.func39 rfl Tryz.ntmps39 Tryz.results39 Tryz.call39 (by rfl) (by simp) ?_;(focus (refine wkld w_t (w_2 c1 c2) w_t w_t ?_;(repeat' first|exact w_t|apply w_l);all_goals intros))
theorem grPairN (P Q:Po) (o:Int) (c1:Pure Tryz.prog 39 [poA P,poA Q,.v (.int .i64 o)] (.tup [.v (.slice none 0 0),.v (.slice none 0 0),.v (.int .i64 3)])) :
 Pure Tryz.prog 13 [poA P,poA Q,.v (.int .i64 o)] (.tup [.v (.slice none 0 0),iv 3]):=by
 refine Zaa (tok:=0) Tryz.func13 rfl Tryz.ntmps13 Tryz.results13 Tryz.call13 (by rfl) (by simp) ?_;(focus (refine wkld w_t (w_1 c1) w_t w_t ?_;(repeat' first|exact w_t|apply w_l);all_goals intros))
theorem rfPairN (P Q:Po) (o:Int) (h:P.length=0∨Q.length=0):Pure Tryz.prog 14 [poA P,poA Q,.v (.int .i64 o)] (.tup [.v (.slice none 0 0),iv 3]):=by
 by_cases h1:P.length=0
 ·refine Zaa (tok:=0) Tryz.func14 rfl Tryz.ntmps14 Tryz.results14 Tryz.call14 (by rfl) (by simp) ?_;(focus (refine wkld (w_2 @Zbb h1) w_t w_t w_t ?_;(repeat' first|exact w_t|apply w_l);all_goals intros))
 ·have h2:Q.length=0:=by omega
  refine Zaa (tok:=0) Tryz.func14 rfl Tryz.ntmps14 Tryz.results14 Tryz.call14 (by rfl) (by simp) ?_;(focus (refine wkld (w_3 @Zbb h1 h2) w_t w_t w_t ?_;(repeat' first|exact w_t|apply w_l);all_goals intros))
theorem pairs12 (o:Int) {P Q:Po} (hP:PS P) (hQ:PS Q):Pure Tryz.prog 13 [poA P,poA Q,.v (.int .i64 o)] (prA o P Q)∧Pure Tryz.prog 14 [poA P,poA Q,.v (.int .i64 o)] (prA o P Q):=by
 by_cases h:P=[]∨Q=[]
 ·rw [show prA o P Q=.tup [.v (.slice none 0 0),iv 3] from if_pos h];have ld:∀{X:Po},PS X→∃(b s:Bool) (l d:List Nat) (m:List Int),Pure Tryz.prog 18 [poA X,.v (.int .i64 o)] (.tup [rwA b l d m,.v (.bool s)])∧(X=[]→s=false):=λ{X} hX=>by
   by_cases e:X=[]
   ·subst e;exact⟨_,_,[],[],[],Zgg (poLeadN o) (Vk.tupL (.cons (Vk.aggL (.cons (.refl _) (.cons (.nil 1) (.cons (.nil 1) (.cons (.nil 1) .nil))))) (.cons (.refl _) .nil))),λ_=>rfl⟩
   ·exact⟨_,_,_,_,_,Zke X o e (λu hu=>hX.b.k.sm (by omega) hu) (by have:=hX.b.l;omega),λh=>absurd h e⟩
  obtain⟨b1,s,l1,d1,m1,c1,k1⟩:=ld hP;obtain⟨b2,t,l2,d2,m2,c2,k2⟩:=ld hQ;exact⟨grPairN P Q o (grFactsN P Q o s t (h.imp k1 k2) b1 b2 l1 d1 l2 d2 m1 m2 c1 c2),rfPairN P Q o (h.imp (λg=>by rw [g];rfl) λg=>by rw [g];rfl)⟩
 ·have h:P≠[]∧Q≠[]:=⟨λg=>h (.inl g),λg=>h (.inr g)⟩;exact(grPair o hP hQ h.1 h.2).2
theorem Zew:szOf Tryz.prog 87=some 2:=by kernel_rfl
theorem Ze6:Zif Tryz.prog 87=some 48:=by kernel_rfl
theorem Zhq:Zb1 Tryz.prog 87=some (.agg #[.slice none 0 0,.slice none 0 0]):=by kernel_rfl
theorem Zhv:szOf Tryz.prog 83=some 1:=by kernel_rfl
theorem zSlE:Zb1 Tryz.prog 83=some (.slice none 0 0):=by kernel_rfl
theorem Zev:szOf Tryz.prog 24=some 1:=by kernel_rfl
theorem Zhp:Zb1 Tryz.prog 24=some (.slice none 0 0):=by kernel_rfl
theorem Zex:szOf Tryz.prog 120=some 4:=by kernel_rfl
theorem Ze7:Zif Tryz.prog 120=some 64:=by kernel_rfl
theorem Zhr:Zb1 Tryz.prog 120=some (.agg #[.int .i64 0,.slice none 0 0,.slice none 0 0,.map none]):=by kernel_rfl
attribute [local go_sem] Zew Ze6 Zhq Zhv zSlE Zev Zhp Zex Ze7 Zhr Tryz.underlying87 Tryz.underlying83 Tryz.underlying120 Tryz.underlying117
abbrev elA (e:Po × List Po):AV:=.agg [poA e.1,.sl 1 (e.2.map poA)]
theorem grAnyL (Cs:List Po) (hl:Cs.length≤1000000) (h:∀c∈Cs,Pure Tryz.prog 29 [poA c] (.v (.bool false))):Pure Tryz.prog 153 [.sl 1 (Cs.map poA),.fn 29 []] (.v (.int .i64 (-1))):=by
 refine Zaa (tok:=0) Tryz.func153 rfl Tryz.ntmps153 Tryz.results153 Tryz.call153 (by rfl) (by simp) ?_;(focus (refine wkad (w_1 @Zbb) w_t w_t ?_;(repeat' first|exact w_t|apply w_l);all_goals intros));refine Zal (ι:=Nat) (λi e' m'=>i≤Cs.length∧e' 0=.sl 1 (Cs.map poA)∧e' 1=.fn 29 []∧e' 7=iv Cs.length∧e' 8=iv i) (λi=>Cs.length - i) 0 (by rfl) ?_ ?_
 ·rintro i e' m' ⟨hi,e0,e1,e7,e8⟩
  by_cases hlt:i < Cs.length
  ·have hg:=Zbu poA hlt;have c:=h _ (List.getElem_mem hlt);generalize Cs[i]=t at *;(focus (refine wkad (w_6 e0 e1 e7 e8 hg @Zbb) (w_1 c) w_t ?_;(repeat' first|exact w_t|apply w_l);all_goals intros));exact⟨i+1,⟨by omega,by exact gW e0,by exact gW e1,by exact gW e7,by exact gS⟩,by omega⟩
  ·(focus (refine wkld (w_5 e0 e1 e7 e8 @Zbb) w_t w_t w_t ?_;(repeat' first|exact w_t|apply w_l);all_goals intros))
 ·exact⟨Nat.zero_le _,by exact gC,by exact gC,by(simp (disch:=omega) only [go_sem,List.length_map]<;>repeat' first|rfl|refine⟨?_,?_⟩),by exact gC⟩
theorem Zs1 (Cs:List Po) (hl:Cs.length≤1000000) (h:∀c∈Cs,Pure Tryz.prog 29 [poA c] (.v (.bool false))):Pure Tryz.prog 101 [.sl 1 (Cs.map poA),.fn 29 []] (.v (.bool false)):=by
 have c:=grAnyL Cs hl h;refine Zaa (tok:=0) Tryz.func101 rfl Tryz.ntmps101 Tryz.results101 Tryz.call101 (by rfl) (by simp) ?_;(focus (refine wkld w_t (w_1 c) w_t w_t ?_;(repeat' first|exact w_t|apply w_l);all_goals intros))
theorem grAdd (σ:Mem) (KB KL KP KC KM gB hM qL qP qC:Nat) (svL svP svC:Value) (o:Int) (L:List (Po × List Po)) (p P:Po) (cm:List AV) (Cs:List Po) (t:Tm) (a:Rat)
 (hB:σ KB=some (.box gB 120 [.v (.int .i64 o),.own KL svL,.own KP svP,.mp KM hM] false)) (hL:σ KL=some (.row svL 87 2 (L.map elA) qL)) (hP:σ KP=some (.row svP 23 1 (L.map λe=>poA e.1) qP)) (hC:σ KC=some (.row svC 23 1 cm qC))
 (n1:KB≠KL) (n2:KB≠KP) (n3:KL≠KP) (hl:L.length≤1000) (hcl:cm.length≤1000) (hCl:Cs.length=cm.length) (hce:∀i,i < cm.length→cm.getD i .u=.v (.slice none 0 0)∨∃q:Po,cm.getD i .u=poA q)
 (c1:Pure Tryz.prog 18 [poA p,.v (.int .i64 o)] (.tup [tmA t,.v (.bool true)])) (c2:Pure Tryz.prog 75 [iv 1] (ratQ 1)) (c3:Pure Tryz.prog 71 [ratQ 1,ratQ t.1] (.tup [ratQ a,iv 0]))
 (c4:Pure Tryz.prog 125 [poA p,ratQ a] (poA P)) (c5:∀i,i < cm.length→Pure Tryz.prog 125 [cm.getD i .u,ratQ a] (poA (Cs.getD i []))) (c6:Pure Tryz.prog 29 [poA P] (.v (.bool false))) (c7:∀c∈Cs,Pure Tryz.prog 29 [poA c] (.v (.bool false))) :
 ACall Tryz.prog 103 [.pbox KB gB 0,poA p,.own KC svC] σ λr σ'=>∃svL' svP',r=iv 0∧σ'=upd (upd (upd σ KL (some (.row svL' 87 2 ((L++[(P,Cs)]).map elA) qL))) KP (some (.row svP' 23 1 ((L++[(P,Cs)]).map λe=>poA e.1) qP))) KB (some (.box gB 120 [.v (.int .i64 o),.own KL svL',.own KP svP',.mp KM hM] false)):=by
 have c8:=Zs1 Cs (by omega) c7;have mB:=Zb7 hB;have mL:=Zb7 hL;have mP:=Zb7 hP;have mC:=Zb7 hC;simp only [Ent.sh,AV.shL,AV.sh] at mB mL mP mC;have hlL:(L.map elA).length=L.length:=List.length_map ..;have hlP:(L.map λe=>poA e.1).length=L.length:=List.length_map ..;have aL:(L++[(P,Cs)]).map elA=L.map elA++[elA (P,Cs)]:=List.map_append ..;have aP:((L++[(P,Cs)]).map λe=>poA e.1)=(L.map λe=>poA e.1)++[poA P]:=List.map_append ..;rw [aL,aP];clear aL aP c7;generalize L.map elA=eL at *;generalize (L.map λe=>poA e.1)=eP at *;obtain⟨t1,t2⟩:=t;simp only at c3;generalize (1:Rat)=one at *
 refine Zc1 Tryz.func103 rfl Tryz.ntmps103 Tryz.results103 Tryz.call103 (by rfl) (by simp) ?_;(focus (refine wkad (w_5 mB mL mP mC @Zcn) (w_4 c1 c2 c3 c4) (w_2 (w_d 2 [(0,ratQ one),(3,.tup [ratQ a,iv 0])] [] [9]) (w_d 99 [] [] [])) ?_;(repeat' first|exact w_t|apply w_l);all_goals intros));rename_i g7 g9 g11;refine Zfo (Frz.nilBox (k:=11) 1 46 1 23 (by exact gC) (by rfl) (by omega)) ?_;refine Zal (ι:=Nat) (λi e m=>i≤cm.length∧e 0=.pbox (KB+1000) gB 0∧e 9=.pbox 9 g9 0∧m 9=some (.box g9 44 [.v (.bool (decide (a.num < 0))),lim (toL a.num.natAbs),lim (toL a.den)] false)∧e 11=.pbox 11 g11 0∧e 34=.own (KC+1000) svC∧e 35=iv cm.length∧e 36=iv i∧Agr m σ∧∃sv,m 11=some (.box g11 87 [poA P,.own 46 sv] false)∧m 46=some (.row sv 23 1 ((Cs.take i).map poA) 0)) (λi=>cm.length - i) 0 (by rfl) ?_ ?_
 ·rintro i e m ⟨hi,e0,e9,m9,e11,e34,e35,e36,hA,sv,m11,m46⟩
  have mB:=hA KB;have mL:=hA KL;have mP:=hA KP;have mC:=hA KC;rw [hB] at mB;rw [hL] at mL;rw [hP] at mP;rw [hC] at mC;simp only [Option.map_some,Ent.sh,AV.shL,AV.sh] at mB mL mP mC;by_cases hlt:i < cm.length
  ·have c:=c5 i hlt
   have hT:(Cs.take (i+1)).map poA=(Cs.take i).map poA++[poA (Cs.getD i [])]:=by
    rw [List.take_succ_eq_append_getElem (by omega),List.map_append,List.getD_eq_getElem?_getD,List.getElem?_eq_getElem (by omega)];rfl
   have hn:((Cs.take i).map poA).length=i:=by rw [List.length_map,List.length_take];omega
   generalize (Cs.take i).map poA=out at *;generalize Cs.getD i []=C at *;have hcc:=hce i hlt;generalize hg:cm.getD i .u=c0 at *;rcases hcc with rfl | ⟨q,rfl⟩
   all_goals
    (focus (refine wkad (w_12 e0 e9 m9 e11 e34 e35 e36 m11 m46 mC hg hn) (w_1 c) (w_1 (w_d 7 [(4,poA C)] [6,8] [45])) ?_;(repeat' first|exact w_t|apply w_l);all_goals intros));exact⟨i+1,⟨by omega,by exact gW e0,by exact gW e9,by exact gW m9,by exact gW e11,by exact gW e34,by exact gW e35,by exact gS,by(repeat' (first|exact hA|refine Agr.own ?_ (by omega))),_,by exact gC,by rw [hT];exact gC⟩,by omega⟩
  ·have hTa:Cs.take i=Cs:=List.take_of_length_le (by omega);rw [hTa] at m46;generalize hcn:Cs.map poA=cn at *
   (repeat' (first|(fail)|(with_reducible first|refine stp ?_|apply gx1|apply gx2|apply gx3|apply gx4|apply gx5|apply gx6|apply gx7|apply gy8|apply gz2|apply gz3|refine gw0 (c6) ?_ ?_|refine gw3 (c6) ?_ ?_ ?_|apply gw1 (c8))|(with_reducible refine Zbi ?_;intro _)|((with_reducible refine gE ?_);(try simp (disch:=omega) only [go_sem,e0,e9,m9,e11,e34,e35,e36,m11,m46,mB,mL,mP,mC,decide_eq_true,decide_eq_false,if_pos,if_neg,Int.reduceAdd,Int.reduceSub,Int.reduceToNat,Int.zero_add])<;>first|rfl|omega)|with_reducible refine Zaf (by decide) ?_|((with_reducible apply gy1);iterate 3 focus rfl)|((with_reducible apply gy2);iterate 3 focus rfl)|((with_reducible apply gy3);iterate 2 focus rfl)|((with_reducible apply gy4);iterate 1 focus rfl)|((with_reducible apply gy5);iterate 4 focus rfl)|((with_reducible apply gy5c);iterate 4 focus rfl)|((with_reducible apply gy6);iterate 4 focus rfl)|((with_reducible apply Zc0);iterate 3 focus rfl)|((with_reducible apply Zcx);iterate 1 focus rfl)|((with_reducible apply gy7);iterate 1 focus rfl)|((with_reducible apply gy9);(focus ((with_reducible refine gE ?_);(try simp (disch:=omega) only [go_sem,e0,e9,m9,e11,e34,e35,e36,m11,m46,mB,mL,mP,mC,decide_eq_true,decide_eq_false,if_pos,if_neg,Int.reduceAdd,Int.reduceSub,Int.reduceToNat,Int.zero_add])<;>rfl)))|((with_reducible apply gz1);(focus first|rfl|(simp (disch:=omega) only [go_sem,e0,e9,m9,e11,e34,e35,e36,m11,m46,mB,mL,mP,mC,decide_eq_true,decide_eq_false,if_pos,if_neg,Int.reduceAdd,Int.reduceSub,Int.reduceToNat,Int.zero_add];done)))|((with_reducible apply Za2 (id:=99) (Zce []) [] []);(focus kernel_rfl);(focus rfl);(focus kernel_rfl);(focus (simp only [List.length_cons,List.length_nil,Nat.reduceAdd];rfl)))|((with_reducible first|apply Zbl|apply Zbv|apply Zbm);all_goals (intro hc;(try simp only [bool_to_prop] at hc);try (exfalso;omega)))))
   refine Zpl (Frz.boxPub (k:=11) (j:=1) (K:=46) (cs:=[poA P,.own 46 sv]) (sv:=sv) (g:=g11) (el:=cn) (mm:=1) (ty:=23) (bt:=87) (pub:=cn.length) (by exact gW m11) (by rfl) (by exact gC) (by omega)) ?_;have k1:(KB+1000 == KL+1000)=false:=by rw [beq_eq_false_iff_ne];omega
   have k2:(KB+1000 == KP+1000)=false:=by rw [beq_eq_false_iff_ne];omega
   have k5:∀c,c < 1000→(KB+1000 == c)=false:=λc h=>by rw [beq_eq_false_iff_ne];omega
   have k3:∀c,c < 1000→(c == KL+1000)=false:=λc h=>by rw [beq_eq_false_iff_ne];omega
   have k4:∀c,c < 1000→(c == KP+1000)=false:=λc h=>by rw [beq_eq_false_iff_ne];omega
   (focus (refine wkad (w_18 e0 e9 m9 e11 e34 e35 e36 m11 m46 mB mL mP mC k1 k2 k3 k4 k5) w_t (w_1 (w_d 11 [] [8,1008,3008,16,1016,3016,19,2019,22] [KL+1000,KP+1000,64,72])) ?_;(repeat' first|exact w_t|apply w_l);all_goals intros));rename_i v64 vl v72 vp;simp (disch:=omega) only [go_sem];refine Zox (Sub.refl _) ⟨vl,vp,rfl,rfl⟩ λk=>?_;have hk:=hA k;by_cases kB:k=KB
   ·subst kB;simp only [Zaz,if_true,Option.map_some,Ent.sh,AV.shL,AV.sh]
   by_cases kP:k=KP
   ·subst kP;simp (disch:=omega) only [Zaz,if_true,if_pos,if_neg,Option.map_some,Ent.sh]
   by_cases kL:k=KL
   ·subst kL;simp (disch:=omega) only [Zaz,if_true,if_pos,if_neg,Option.map_some,Ent.sh];rw [←hcn]
   simp (disch:=omega) only [Zaz,if_neg,hk]
 ·exact⟨Nat.zero_le _,by exact gC,by exact gC,by exact gC,by exact gC,by exact gC,by exact gC,by exact gC,by(repeat' (first|exact Agr.start _|refine Agr.own ?_ (by omega))),_,by exact gC,by(simp (disch:=omega) only [go_sem,List.take_zero,List.map_nil]<;>repeat' first|rfl|refine⟨?_,?_⟩)⟩
section
variable {P:Program} {f:FuncId} {args:List AV} {e:Nat→AV} {m:Mem} {K:St→Prop} {t d:Nat}
theorem o_any {R:AV→Mem→Prop} (c:ACall P f args m R) (h:∀r σ',R r σ'→K ⟨upd e d r,σ'⟩):aRes P t (some d) (.call f args) K ⟨e,m⟩:=c.mono λr σ' h1=>h r σ' h1
end
structure Hid (p:Prop):Prop where
 h:p
theorem Zs3 {l:List Po} {n:Nat} (h:n < l.length):(l.map poA).getD n .u=poA (l.getD n []):=by rw [Zbu poA h,List.getD_eq_getElem?_getD,List.getElem?_eq_getElem h];rfl
theorem Zs2 (σ:Mem) (KB KL KP KM gB hM qP:Nat) (svL svP:Value) (o:Int) (L:List (Po × List Po)) (i k:Nat) (a b:Po) (t u:Tm)
 (hB:σ KB=some (.box gB 120 [.v (.int .i64 o),.own KL svL,.own KP svP,.mp KM hM] false)) (hP:σ KP=some (.row svP 23 1 (L.map λe=>poA e.1) qP))
 (hl:L.length≤1000) (hi:i < L.length) (hk:k < L.length) (ha:(L.getD i ([],[])).1=a) (hb:(L.getD k ([],[])).1=b)
 (c1:Pure Tryz.prog 18 [poA a,.v (.int .i64 o)] (.tup [tmA t,.v (.bool true)])) (c2:Pure Tryz.prog 18 [poA b,.v (.int .i64 o)] (.tup [tmA u,.v (.bool true)])) (c3:Pure Tryz.prog 154 [ivs t.2,ivs u.2] (.v (.bool true))) :
 ACall Tryz.prog 104 [.pbox KB gB 0,iv i,iv k] σ λr σ'=>r=iv 0∧σ'=σ:=by
 have mB:=Zb7 hB;have mP:=Zb7 hP;simp only [Ent.sh,AV.shL,AV.sh] at mB mP;have hlP:(L.map λe=>poA e.1).length=L.length:=List.length_map ..;have g1:(L.map λe=>poA e.1).getD i .u=poA a:=by rw [←ha,List.getD_eq_getElem?_getD,List.getElem?_map,List.getElem?_eq_getElem hi,List.getD_eq_getElem?_getD,List.getElem?_eq_getElem hi];rfl
 have g2:(L.map λe=>poA e.1).getD k .u=poA b:=by rw [←hb,List.getD_eq_getElem?_getD,List.getElem?_map,List.getElem?_eq_getElem hk,List.getD_eq_getElem?_getD,List.getElem?_eq_getElem hk];rfl
 clear ha hb;generalize (L.map λe=>poA e.1)=eP at *;have k5:∀c,c < 1000→(KB+1000 == c)=false:=λc h=>by rw [beq_eq_false_iff_ne];omega
 obtain⟨t1,t2⟩:=t;obtain⟨u1,u2⟩:=u;simp only at c3;refine Zc1 Tryz.func104 rfl Tryz.ntmps104 Tryz.results104 Tryz.call104 (by rfl) (by simp) ?_;(focus (refine wkax (w_7 mB mP @Zcn g1 g2 hlP k5) (w_1 c3) w_t w_t (w_2 c1 c2) w_t (w_r 0) ?_;(repeat' first|exact w_t|apply w_l);all_goals intros));simp (disch:=omega) only [go_sem];refine Zox (Sub.refl _) ⟨rfl,rfl⟩ ?_
 (repeat' (first|exact Agr.start _|(refine Agr.own ?_ (by omega))))
theorem Zfw:Tryz.prog.underlying 151=some (.array 2 3):=by kernel_rfl
theorem Zit:szOf Tryz.prog 151=some 2:=by kernel_rfl
theorem zArr:Zb1 Tryz.prog 151=some (.agg #[.int .i64 0,.int .i64 0]):=by kernel_rfl
theorem Zfv:Tryz.prog.underlying 118=some (.map 151 4):=by kernel_rfl
theorem Zis:szOf Tryz.prog 118=some 1:=by kernel_rfl
theorem zMap:Zb1 Tryz.prog 118=some (.map none):=by kernel_rfl
attribute [local go_sem] Zfw Zit zArr Zfv Zis zMap
abbrev cofL (L:List (Po × List Po)) (i n:Nat):Po:=(L.getD i ([],[])).2.getD n []
set_option maxHeartbeats 32000000 in
theorem grExam (σ:Mem) (KB KL KP KM gB hM qL qP:Nat) (svL svP:Value) (o:Int) (L:List (Po × List Po)) (i k nc:Nat) (a b s r f g:Po) (t u v:Tm) (Q:List Po) (W:Nat→Nat→Po) (P:Po) (Cs:List Po) (x:Rat)
 (hB:σ KB=some (.box gB 120 [.v (.int .i64 o),.own KL svL,.own KP svP,.mp KM hM] false)) (hL:σ KL=some (.row svL 87 2 (L.map elA) qL)) (hP:σ KP=some (.row svP 23 1 (L.map λe=>poA e.1) qP)) (hM0:σ KM=some (.map hM []))
 (n1:KB≠KL) (n2:KB≠KP) (n3:KL≠KP) (n4:KB≠KM) (n5:KL≠KM) (n6:KP≠KM)
 (hl:L.length≤100) (hi:i < L.length) (hk:k < L.length) (ha:(L.getD i ([],[])).1=a) (hb:(L.getD k ([],[])).1=b) (hnc:nc≤100) (hcl:∀e∈L,e.2.length=nc) (hQ:Q.length=L.length) (hr:r.length≠0) (hCl:Cs.length=nc)
 (c1:Pure Tryz.prog 18 [poA a,.v (.int .i64 o)] (.tup [tmA t,.v (.bool true)])) (c2:Pure Tryz.prog 18 [poA b,.v (.int .i64 o)] (.tup [tmA u,.v (.bool true)])) (c3:Pure Tryz.prog 154 [ivs t.2,ivs u.2] (.v (.bool false)))
 (c4:Pure Tryz.prog 13 [poA a,poA b,.v (.int .i64 o)] (.tup [poA s,iv 0])) (c5:Pure Tryz.prog 8 [poA s,.sl 1 (L.map λe=>poA e.1),.v (.int .i64 o)] (.tup [.sl 1 (Q.map poA),poA r,iv 0])) (c6:Pure Tryz.prog 39 [poA a,poA b,.v (.int .i64 o)] (.tup [poA f,poA g,.v (.int .i64 0)]))
 (c7:∀n,n < nc→∃y z,Pure Tryz.prog 17 [poA f,poA (cofL L i n)] (poA y)∧Pure Tryz.prog 17 [poA g,poA (cofL L k n)] (poA z)∧Pure Tryz.prog 31 [poA y,poA z] (poA (W n 0)))
 (c8:∀n,n < nc→∀j,j < L.length→∃z,Pure Tryz.prog 17 [poA (Q.getD j []),poA (cofL L j n)] (poA z)∧Pure Tryz.prog 31 [poA (W n j),poA z] (poA (W n (j+1))))
 (d1:Pure Tryz.prog 18 [poA r,.v (.int .i64 o)] (.tup [tmA v,.v (.bool true)])) (d2:Pure Tryz.prog 75 [iv 1] (ratQ 1)) (d3:Pure Tryz.prog 71 [ratQ 1,ratQ v.1] (.tup [ratQ x,iv 0]))
 (d4:Pure Tryz.prog 125 [poA r,ratQ x] (poA P)) (d5:∀n,n < nc→Pure Tryz.prog 125 [poA (W n L.length),ratQ x] (poA (Cs.getD n []))) (d6:Pure Tryz.prog 29 [poA P] (.v (.bool false))) (d7:∀c∈Cs,Pure Tryz.prog 29 [poA c] (.v (.bool false))) :
 ACall Tryz.prog 104 [.pbox KB gB 0,iv i,iv k] σ λr σ'=>∃svL' svP',r=iv 0∧σ'=upd (upd (upd (upd σ KM (some (.row (.slice none 0 0) 0 0 [] 0))) KL (some (.row svL' 87 2 ((L++[(P,Cs)]).map elA) qL))) KP (some (.row svP' 23 1 ((L++[(P,Cs)]).map λe=>poA e.1) L.length))) KB (some (.box gB 120 [.v (.int .i64 o),.own KL svL',.own KP svP',.mp KM hM] false)):=by
 have mB:=Zb7 hB;have mL:=Zb7 hL;have mP:=Zb7 hP;have mM:=Zb7 hM0;simp only [Ent.sh,AV.shL,AV.sh] at mB mL mP mM;have hlL:(L.map elA).length=L.length:=List.length_map ..;have hlP:(L.map λe=>poA e.1).length=L.length:=List.length_map ..;have gP:∀j,j < L.length→(L.map λe=>poA e.1).getD j .u=poA (L.getD j ([],[])).1:=λj hj=>by rw [List.getD_eq_getElem?_getD,List.getElem?_map,List.getElem?_eq_getElem hj,List.getD_eq_getElem?_getD,List.getElem?_eq_getElem hj];rfl
 have g1:=gP i hi;have g2:=gP k hk;rw [ha] at g1;rw [hb] at g2;have gE:∀j,j < L.length→(L.map elA).getD j .u=.agg [poA (L.getD j ([],[])).1,.sl 1 ((L.getD j ([],[])).2.map poA)]:=λj hj=>by rw [List.getD_eq_getElem?_getD,List.getElem?_map,List.getElem?_eq_getElem hj,List.getD_eq_getElem?_getD,List.getElem?_eq_getElem hj];rfl
 have gC:∀j,j < L.length→((L.getD j ([],[])).2.map poA).length=nc∧∀n,n < nc→((L.getD j ([],[])).2.map poA).getD n .u=poA (cofL L j n):=λj hj=>by
  have hm:L.getD j ([],[])∈L:=by rw [List.getD_eq_getElem?_getD,List.getElem?_eq_getElem hj];exact List.getElem_mem hj
  have he:=hcl _ hm;refine⟨by rw [List.length_map];exact he,λn hn=>?_⟩;exact Zs3 (by omega)
 have gQ:∀j,j < L.length→(Q.map poA).getD j .u=poA (Q.getD j []):=λj hj=>Zs3 (by omega);have lQ:(Q.map poA).length=L.length:=by rw [List.length_map];exact hQ
 generalize heP:(L.map λe=>poA e.1)=eP at *;generalize heL:L.map elA=eL at *;generalize Q.map poA=QQ at *;have G:=Hid.mk (And.intro gP (And.intro gE (And.intro gC gQ)));clear gP gE gC gQ;have k5:∀c,c < 1000→(KB+1000 == c)=false:=λc h=>by rw [beq_eq_false_iff_ne];omega
 obtain⟨t1,t2⟩:=t;obtain⟨u1,u2⟩:=u;simp only at c3;refine Zc1 Tryz.func104 rfl Tryz.ntmps104 Tryz.results104 Tryz.call104 (by rfl) (by simp) ?_;(focus (refine wkax (w_8 mB mP mM @Zcn g1 g2 hlP k5) (w_1 c3) w_t w_t (w_2 c1 c2) w_t (w_r 0) ?_;(repeat' first|exact w_t|apply w_l);all_goals intros))
 (repeat' (first|(fail)|(with_reducible first|refine stp ?_|apply gx1|apply gx2|apply gx3|apply gx4|apply gx5|apply gx6|apply gx7|apply gy8|apply gz2|apply gz3|refine gw0 (c4) ?_ ?_|refine gw3 (c4) ?_ ?_ ?_)|(with_reducible refine Zbi ?_;intro _)|((with_reducible refine gE ?_);(try simp (disch:=omega) only [go_sem,mB,mP,Zcn,k5,decide_eq_true,decide_eq_false,if_pos,if_neg,Int.reduceAdd,Int.reduceSub,Int.reduceToNat,Int.zero_add])<;>first|rfl|omega)|with_reducible refine Zaf (by decide) ?_|((with_reducible apply gy1);iterate 3 focus rfl)|((with_reducible apply gy2);iterate 3 focus rfl)|((with_reducible apply gy3);iterate 2 focus rfl)|((with_reducible apply gy4);iterate 1 focus rfl)|((with_reducible apply gy5);iterate 4 focus rfl)|((with_reducible apply gy5c);iterate 4 focus rfl)|((with_reducible apply gy6);iterate 4 focus rfl)|((with_reducible apply Zc0);iterate 3 focus rfl)|((with_reducible apply Zcx);iterate 1 focus rfl)|((with_reducible apply gy7);iterate 1 focus rfl)|((with_reducible apply gy9);(focus ((with_reducible refine gE ?_);(try simp (disch:=omega) only [go_sem,mB,mP,Zcn,k5,decide_eq_true,decide_eq_false,if_pos,if_neg,Int.reduceAdd,Int.reduceSub,Int.reduceToNat,Int.zero_add])<;>rfl)))|((with_reducible apply gz1);(focus first|rfl|(simp (disch:=omega) only [go_sem,mB,mP,Zcn,k5,decide_eq_true,decide_eq_false,if_pos,if_neg,Int.reduceAdd,Int.reduceSub,Int.reduceToNat,Int.zero_add];done)))|((with_reducible apply Za2 (id:=99) (Zce []) [] []);(focus kernel_rfl);(focus rfl);(focus kernel_rfl);(focus (simp only [List.length_cons,List.length_nil,Nat.reduceAdd];rfl)))|((with_reducible first|apply Zbl|apply Zbv|apply Zbm);all_goals (intro hc;(try simp only [bool_to_prop] at hc);try (exfalso;omega)))))
 refine Zpl (Frz.mark (K:=KP+1000)) ?_;have cR:=rdc_pub (K:=KP+1000) (sv:=svP) (ty:=23) c5 rfl rfl (λ_=>⟨trivial,rfl⟩) (λ_=>⟨trivial,rfl⟩);(focus (refine wkax (w_4 mB mP @Zcn k5) w_t (w_1 (w_d 12 [(9,.tup [.sl 1 QQ,poA r,iv 0])] [] [])) w_t w_t (w_1 cR) (w_r 0) ?_;(repeat' first|exact w_t|apply w_l);all_goals intros));clear cR;have gi:=G.h.2.1 i hi;obtain⟨li,gin⟩:=G.h.2.2.1 i hi;have gk:=G.h.2.1 k hk;obtain⟨lk,gkn⟩:=G.h.2.2.1 k hk;have G2:=Hid.mk (And.intro gin gkn);clear gin gkn c4 c5 c1 c2 c3;(focus (refine wkad (w_8 mB mL mP @Zcn k5 gi li hlL) (w_1 c6) w_t ?_;(repeat' first|exact w_t|apply w_l);all_goals intros))
 have hmA:Agr (upd (upd (Zie σ) (KM+1000) (some (.row (.slice none 0 0) 0 0 [] 0))) (KP+1000) (some (.row svP 23 1 eP eP.length))) (upd (upd σ KM (some (.row (.slice none 0 0) 0 0 [] 0))) KP (some (.row svP 23 1 eP eP.length))):=((Agr.start σ).put (k:=KM) (e:=.row (.slice none 0 0) 0 0 [] 0) rfl rfl).put (k:=KP) (e:=.row svP 23 1 eP eP.length) rfl rfl;refine Zfo (Frz.nilOwn (d:=20) 184 1 23 (by exact gC)) ?_;refine Zal (ι:=Nat) (λn e m=>n≤nc∧e 0=.pbox (KB+1000) gB 0∧e 1=iv i∧e 2=iv k∧e 15=.sl 1 QQ∧e 16=poA r∧e 17=poA f∧e 18=poA g∧e 127=iv nc∧e 128=iv n∧Agr m (upd (upd σ KM (some (.row (.slice none 0 0) 0 0 [] 0))) KP (some (.row svP 23 1 eP eP.length)))∧∃sv,e 20=.own 184 sv∧m 184=some (.row sv 23 1 ((List.range n).map λn=>poA (W n L.length)) 0)) (λn=>nc - n) 0 (by rfl) ?_ ?_
 ·rintro n e m ⟨hn,e0,e1,e2,e15,e16,e17,e18,e127,e128,hA,sv,e20,m184⟩
  have mB:=hA KB;have mL:=hA KL;have mP:=hA KP;have mM:=hA KM;simp (disch:=omega) only [Zaz,if_neg,if_pos,hB,hL,Option.map_some,Ent.sh,AV.shL,AV.sh] at mB mL mP mM;by_cases hlt:n < nc
  ·obtain⟨y,z,p1,p2,p3⟩:=c7 n hlt;have q1:=G2.h.1 n hlt;have q2:=G2.h.2 n hlt;have hst:(List.range (n+1)).map (λn=>poA (W n L.length))=(List.range n).map (λn=>poA (W n L.length))++[poA (W n L.length)]:=by rw [List.range_succ,List.map_append];rfl
   have hol:((List.range n).map λn=>poA (W n L.length)).length=n:=by rw [List.length_map,List.length_range]
   have hc8:=Hid.mk (c8 n hlt);generalize hou:(List.range n).map (λn=>poA (W n L.length))=out at *;generalize (L.getD i ([],[])).2.map poA=ci at *;generalize (L.getD k ([],[])).2.map poA=ck at *;(focus (refine wkad (w_22 e0 e1 e2 e15 e16 e17 e18 e127 e128 e20 m184 mB mL k5 gi gk li lk hlL q1 q2 lQ) (w_3 p1 p2 p3) (w_1 (w_d 22 [(12,poA y),(25,poA z),(26,poA (W n 0))] [] [])) ?_;(repeat' first|exact w_t|apply w_l);all_goals intros));refine Zal (ι:=Nat) (λj e m=>j≤L.length∧e 0=.pbox (KB+1000) gB 0∧e 1=iv i∧e 2=iv k∧e 15=.sl 1 QQ∧e 16=poA r∧e 17=poA f∧e 18=poA g∧e 127=iv nc∧e 128=iv n∧Agr m (upd (upd σ KM (some (.row (.slice none 0 0) 0 0 [] 0))) KP (some (.row svP 23 1 eP eP.length)))∧e 20=.own 184 sv∧m 184=some (.row sv 23 1 out 0)∧e 21=iv n∧e 22=poA (W n j)∧e 158=.sl 1 QQ∧e 159=iv L.length∧e 160=iv j) (λj=>L.length - j) 0 (by rfl) ?_ ?_
   ·rintro j e m ⟨hj,e0,e1,e2,e15,e16,e17,e18,e127,e128,hA,e20,m184,e21,e22,e158,e159,e160⟩
    have mB:=hA KB;have mL:=hA KL;simp (disch:=omega) only [Zaz,if_neg,if_pos,hB,hL,Option.map_some,Ent.sh,AV.shL,AV.sh] at mB mL;by_cases hlj:j < L.length
    ·obtain⟨zj,p4,p5⟩:=hc8.h j hlj;have gj:=G.h.2.1 j hlj;obtain⟨lj,gjn⟩:=G.h.2.2.1 j hlj;have q3:=gjn n hlt;have q4:=G.h.2.2.2 j hlj;clear gjn;generalize (L.getD j ([],[])).2.map poA=cj at *;generalize W n j=w0 at *;generalize hw1:W n (j+1)=w1 at *;generalize Q.getD j []=qj at *;(focus (refine wkad (w_a e0 (w_24 e1 e2 e15 e16 e17 e18 e127 e128 e20 m184 e21 e22 e158 e159 e160 mB mL k5 gj lj hlL q3 q4 lQ)) (w_2 p4 p5) w_t ?_;(repeat' first|exact w_t|apply w_l);all_goals intros));exact⟨j+1,⟨by omega,by exact gW e0,by exact gW e1,by exact gW e2,by exact gW e15,by exact gW e16,by exact gW e17,by exact gW e18,by exact gW e127,by exact gW e128,by(repeat' (first|exact hA|refine Agr.own ?_ (by omega))),by exact gW e20,by exact gW m184,by exact gW e21,by rw [hw1];exact gC,by exact gW e158,by exact gW e159,by exact gS⟩,by omega⟩
    ·obtain rfl:j=L.length:=by omega
     generalize W n L.length=w0 at *;(focus (refine wkad (w_17 e0 e1 e2 e15 e16 e17 e18 e127 e128 e20 m184 e21 e22 e158 e159 e160 hol) w_t w_t ?_;(repeat' first|exact w_t|apply w_l);all_goals intros));exact⟨n+1,⟨by omega,by exact gW e0,by exact gW e1,by exact gW e2,by exact gW e15,by exact gW e16,by exact gW e17,by exact gW e18,by exact gW e127,by exact gS,by(repeat' (first|exact hA|refine Agr.own ?_ (by omega))),_,by exact gC,by rw [hst];exact gC⟩,by omega⟩
   ·exact⟨Nat.zero_le _,by exact gW e0,by exact gW e1,by exact gW e2,by exact gW e15,by exact gW e16,by exact gW e17,by exact gW e18,by exact gW e127,by exact gW e128,by(repeat' (first|exact hA|refine Agr.own ?_ (by omega))),by exact gW e20,by exact gW m184,by exact gC,by exact gC,by exact gW e15,by(simp (disch:=omega) only [go_sem,lQ]<;>repeat' first|rfl|refine⟨?_,?_⟩),by exact gC⟩
  ·obtain rfl:n=nc:=by omega
   generalize hcm:(List.range n).map (λn=>poA (W n L.length))=cm at *;have lcm:cm.length=n:=by rw [←hcm,List.length_map,List.length_range]
   have gcm:∀j,j < n→cm.getD j .u=poA (W j L.length):=λj hj=>by rw [←hcm,List.getD_eq_getElem?_getD,List.getElem?_map,List.getElem?_range hj];rfl
   have add:=fun(m':Mem) (h1:m' (KB+1000)=_) (h2:m' (KL+1000)=_) (h3:m' (KP+1000)=_) (h4:m' 184=_)=>grAdd m' (KB+1000) (KL+1000) (KP+1000) 184 (KM+1000) gB hM qL eP.length 0 svL svP sv o L r P cm Cs v x h1 (by rw [heL];exact h2) (by rw [heP];exact h3) h4 (by omega) (by omega) (by omega) (by omega) (by omega) (by omega) (λj hj=>.inr ⟨_,gcm j (by omega)⟩) d1 d2 d3 d4 (λj hj=>by rw [gcm j (by omega)];exact d5 j (by omega)) d6 d7;have A:=Hid.mk add;clear add gcm c7 c8 d1 d2 d3 d4 d5 d6 d7;(focus (refine wkad (w_11 e0 e1 e2 e15 e16 e17 e18 e127 e128 e20 m184) w_t w_t ?_;(repeat' first|exact w_t|apply w_l);all_goals intros))
   refine o_any (A.h _ (by(simp (disch:=omega) only [go_sem,mB]<;>repeat' first|rfl|refine⟨?_,?_⟩)) (by(simp (disch:=omega) only [go_sem,mL]<;>repeat' first|rfl|refine⟨?_,?_⟩)) (by(simp (disch:=omega) only [go_sem,mP]<;>repeat' first|rfl|refine⟨?_,?_⟩)) (by exact gW m184)) ?_
   rintro r' σ' ⟨vl,vp,rfl,rfl⟩
   (focus (refine wkad w_t w_t w_t ?_;(repeat' first|exact w_t|apply w_l);all_goals intros));simp (disch:=omega) only [go_sem];refine Zox (Sub.refl _) ⟨vl,vp,rfl,rfl⟩ λj=>?_;have hj:=hA j;by_cases kB:j=KB
   ·subst kB;simp (disch:=omega) only [Zaz,if_true,if_pos,Option.map_some,Ent.sh,AV.shL,AV.sh]
   by_cases kP:j=KP
   ·subst kP;simp (disch:=omega) only [Zaz,if_true,if_pos,if_neg,Option.map_some,Ent.sh,hlP]
   by_cases kL:j=KL
   ·subst kL;simp (disch:=omega) only [Zaz,if_true,if_pos,if_neg,Option.map_some,Ent.sh]
   simp (disch:=omega) only [Zaz,if_neg] at hj;simp (disch:=omega) only [Zaz,if_neg,hj]
 ·refine⟨Nat.zero_le _,by exact gC,by exact gC,by exact gC,by exact gC,by exact gC,by exact gC,by exact gC,by exact gW li,by exact gC,?_,_,by exact gC,by(simp (disch:=omega) only [go_sem,List.range_zero,List.map_nil]<;>repeat' first|rfl|refine⟨?_,?_⟩)⟩;refine λj=>?_;have hk:=hmA j;by_cases kP:j=KP
  ·subst kP;simp (disch:=omega) only [go_sem,Zaz,if_true,if_pos,if_neg,mP,Option.map_some,Ent.sh,Ent.mark]
  by_cases kM:j=KM
  ·subst kM;simp (disch:=omega) only [go_sem,Zaz,if_true,if_pos,if_neg,Option.map_some,Ent.sh]
  ·simp (disch:=omega) only [Zaz,if_neg] at hk;simp (disch:=omega) only [go_sem,Zaz,if_neg,hk]
def oneP:Po:=[(1,[])]
theorem Zpp:Pure Tryz.prog 102 [ratQ 1] (poA oneP):=by
 have z0:Sz (0:Rat) 1:=by simpa using Sz.int (z:=0) (k:=1) (by simp [Za4]) (by omega)
 have o0:Pure Tryz.prog 75 [iv 0] (ratQ 0):=ratOf 0 (by omega);have ad:=Zr0 1 0 Zpr z0 (by omega) (by omega);rw [Rat.add_zero] at ad;have sg:Pure Tryz.prog 73 [ratQ 1,.v (.slice none 0 0)] (poA oneP):=Zgh (Zpo 1 [] (by decide) Zpr (by omega)) (.cons (.refl _) (.cons (.nil 1) .nil));generalize (0:Rat)=q0 at *;generalize hr:oneP=r at *;generalize (1:Rat)=q1 at *;refine Zaa (tok:=0) Tryz.func102 rfl Tryz.ntmps102 Tryz.results102 Tryz.call102 (by rfl) (by simp) ?_;(focus (refine wkld w_t (w_3 o0 ad sg) w_t (w_1 (w_d 1 [(1,ratQ q0),(2,ratQ q1),(3,poA r)] [] [])) ?_;(repeat' first|exact w_t|apply w_l);all_goals intros))
structure BSt (σ:Mem) (gB hM:Nat) (svL svP:Value) (o:Int) (L:List (Po × List Po)) (qP:Nat):Prop where
 b:σ 19=some (.box gB 120 [.v (.int .i64 o),.own 301 svL,.own 302 svP,.mp 17 hM] false)
 l:σ 301=some (.row svL 87 2 (L.map elA) 0)
 p:σ 302=some (.row svP 23 1 (L.map λe=>poA e.1) qP)
def AddC (o:Int) (p:Po) (cm:List AV) (e:Po × List Po):Prop:=∃(t:Tm) (a:Rat),(e.2.length=cm.length∧cm.length≤1000∧∀i,i < cm.length→cm.getD i .u=.v (.slice none 0 0)∨∃q:Po,cm.getD i .u=poA q) ∧
 Pure Tryz.prog 18 [poA p,.v (.int .i64 o)] (.tup [tmA t,.v (.bool true)])∧Pure Tryz.prog 71 [ratQ 1,ratQ t.1] (.tup [ratQ a,iv 0])∧Pure Tryz.prog 125 [poA p,ratQ a] (poA e.1) ∧
 (∀i,i < cm.length→Pure Tryz.prog 125 [cm.getD i .u,ratQ a] (poA (e.2.getD i [])))∧Pure Tryz.prog 29 [poA e.1] (.v (.bool false))∧∀c∈e.2,Pure Tryz.prog 29 [poA c] (.v (.bool false))
theorem Zpk:Pure Tryz.prog 75 [iv 1] (ratQ 1):=ratOf 1 (by omega)
theorem AddC.call {o:Int} {p:Po} {cm:List AV} {e:Po × List Po} (h:AddC o p cm e) {σ:Mem} {gB hM KC qC:Nat} {svL svP svC:Value} {L:List (Po × List Po)} {qP:Nat} (hs:BSt σ gB hM svL svP o L qP) (hC:σ KC=some (.row svC 23 1 cm qC)) (hl:L.length≤1000) :
 ACall Tryz.prog 103 [.pbox 19 gB 0,poA p,.own KC svC] σ λr σ'=>∃svL' svP',r=iv 0∧BSt σ' gB hM svL' svP' o (L++[e]) qP∧σ' 17=σ 17:=by
 obtain⟨t,a,⟨h1,h2,h3⟩,h4,h5,h6,h7,h8,h9⟩:=h;refine(grAdd σ 19 301 302 KC 17 gB hM 0 qP qC svL svP svC o L p e.1 cm e.2 t a hs.b hs.l hs.p hC (by omega) (by omega) (by omega) hl h2 h1 h3 h4 Zpk h5 h6 h7 h8 h9).mono ?_
 rintro r σ' ⟨svL',svP',rfl,rfl⟩
 refine⟨svL',svP',rfl,⟨?_,?_,?_⟩,?_⟩;all_goals simp only [Zaz];rfl
def ExC (o:Int) (L:List (Po × List Po)) (e:Po × List Po) (i k:Nat):Prop:=∀(σ:Mem) (gB hM:Nat) (svL svP:Value) (qP:Nat),BSt σ gB hM svL svP o L qP→σ 17=some (.map hM [])→ACall Tryz.prog 104 [.pbox 19 gB 0,iv i,iv k] σ λr σ'=>∃svL' svP',r=iv 0∧BSt σ' gB hM svL' svP' o (L++[e]) L.length
def ExN (o:Int) (L:List (Po × List Po)) (i k:Nat):Prop:=∀(σ:Mem) (gB hM:Nat) (svL svP:Value) (qP:Nat),BSt σ gB hM svL svP o L qP→ACall Tryz.prog 104 [.pbox 19 gB 0,iv i,iv k] σ λr σ'=>r=iv 0∧σ'=σ
theorem grBasis1 (o:Int) (l:List Po) (E:List (Po × List Po)) (hn:l.length=1) (hE:E.length=1) (hlg:∀p∈l,Pure Tryz.prog 29 [poA p] (.v (.bool false))) (h0:∀p∈l,p.length≠0)
 (hA:∀i,i < 1→AddC o (l.getD i []) ((List.replicate 1 (.v (.slice none 0 0))).set i (poA oneP)) (E.getD i ([],[]))) :
 Pure Tryz.prog 57 [.sl 1 (l.map poA),.v (.int .i64 o)] (.tup [.sl 2 ((E).map elA),iv 0]):=by
 have ch:=Zs1 l (by omega) hlg;have co:=Zpp;have c1:=Zpk;have hlm:(l.map poA).length=1:=by rw [List.length_map];exact hn
 have hgl:∀i,i < 1→(l.map poA).getD i .u=poA (l.getD i []):=λi hi=>Zs3 (by omega);generalize hlM:l.map poA=M at *;generalize (1:Rat)=one at *;refine Zaa (tok:=0) Tryz.func57 rfl Tryz.ntmps57 Tryz.results57 Tryz.call57 (by rfl) (by simp) ?_;(focus (refine wkad (w_1 hlm) (w_1 ch) w_t ?_;(repeat' first|exact w_t|apply w_l);all_goals intros));rename_i hM gB;refine Zfo (Frz.nilBox (k:=19) 1 301 2 87 (by exact gC) (by rfl) (by omega)) ?_;refine Zfo (Frz.nilBox (k:=19) 2 302 1 23 (by exact gC) (by rfl) (by omega)) ?_;refine Zal (ι:=Nat) (λi e m=>i≤1∧e 0=.sl 1 M∧e 1=.v (.int .i64 o)∧e 6=.pbox 19 gB 0∧e 20=.sl 1 M∧e 21=iv 1∧e 22=iv i∧m 17=some (.map hM [])∧∃svL svP,BSt m gB hM svL svP o (E.take i) 0) (λi=>1 - i) 0 (by rfl) ?_ ?_
 ·rintro i e m ⟨hi,e0,e1,e6,e20,e21,e22,m17,svL,svP,hs⟩
  by_cases hlt:i < 1
  ·have hg:=hgl i hlt;have hp0:=h0 (l.getD i []) (Zp4 (by omega));have ha:=hA i hlt;have hT:E.take (i+1)=E.take i++[E.getD i ([],[])]:=by rw [List.take_succ_eq_append_getElem (by omega),List.getD_eq_getElem?_getD,List.getElem?_eq_getElem (by omega)];rfl
   have hlt1:(E.take i).length≤1000:=by rw [List.length_take];omega
   have hb:=hs.b;generalize l.getD i []=p at *;have hrl:(List.replicate 1 (AV.v (.slice none 0 0))).length=1:=List.length_replicate ..;(focus (refine wkad (w_11 e0 e1 e6 e20 e21 e22 m17 hb hg hlm hp0) (w_2 c1 co) w_t ?_;(repeat' first|exact w_t|apply w_l);all_goals intros));refine o_any (ha.call (L:=E.take i) (gB:=gB) (hM:=hM) (svL:=svL) (svP:=svP) (qP:=0) (qC:=0) ⟨by exact gW hb,by(simp (disch:=omega) only [go_sem,hs.l]<;>repeat' first|rfl|refine⟨?_,?_⟩),by(simp (disch:=omega) only [go_sem,hs.p]<;>repeat' first|rfl|refine⟨?_,?_⟩)⟩ (by exact gC) hlt1) ?_
   rintro r σ' ⟨vl,vp,rfl,hs',h17⟩
   replace h17:σ' 17=some (.map hM []):=by rw [h17];exact gW m17
   (focus (refine wkad (w_7 e0 e1 e6 e20 e21 e22 h17) w_t w_t ?_;(repeat' first|exact w_t|apply w_l);all_goals intros));exact⟨i+1,⟨by omega,by exact gW e0,by exact gW e1,by exact gW e6,by exact gW e20,by exact gW e21,by exact gS,h17,vl,vp,by rw [hT];exact hs'⟩,by omega⟩
  ·obtain rfl:i=1:=by omega
   rw [List.take_of_length_le (by omega)] at hs;clear hA hlg h0 hgl;have hb:=hs.b;have hl:=hs.l;have hll:(E.map elA).length=1:=by rw [List.length_map];exact hE
   generalize E.map elA=eL at *;(focus (refine wkax (w_9 e0 e1 e6 e20 e21 e22 hb hl hll) w_t w_t w_t w_t w_t (w_r 3) ?_;(repeat' first|exact w_t|apply w_l);all_goals intros))
   (all_goals (try simp (disch:=omega) only [go_sem,hl,decide_eq_true,decide_eq_false,if_pos,if_neg,Int.reduceAdd,Int.reduceSub,Int.reduceToNat,Int.zero_add]));(all_goals first|done|rfl|(congr 2;first|done|omega|(rw [Bool.eq_iff_iff];simp only [bool_to_prop,Bool.false_eq_true,iff_true,true_iff,iff_false,false_iff];omega))|skip)
 ·exact⟨by omega,by exact gC,by exact gC,by exact gC,by exact gC,by exact gW hlm,by exact gC,by exact gC,_,_,⟨by exact gC,by(simp (disch:=omega) only [go_sem,List.take_zero,List.map_nil]<;>repeat' first|rfl|refine⟨?_,?_⟩),by(simp (disch:=omega) only [go_sem,List.take_zero,List.map_nil]<;>repeat' first|rfl|refine⟨?_,?_⟩)⟩⟩
theorem grBasis2 (o:Int) (l:List Po) (E:List (Po × List Po)) (hn:l.length=2) (hE:E.length=2) (hlg:∀p∈l,Pure Tryz.prog 29 [poA p] (.v (.bool false))) (h0:∀p∈l,p.length≠0)
 (hA:∀i,i < 2→AddC o (l.getD i []) ((List.replicate 2 (.v (.slice none 0 0))).set i (poA oneP)) (E.getD i ([],[])))
 (e3:Po × List Po) (x1:ExC o E e3 0 1) (x2:ExN o (E++[e3]) 0 2) (x3:ExN o (E++[e3]) 1 2) :
 Pure Tryz.prog 57 [.sl 1 (l.map poA),.v (.int .i64 o)] (.tup [.sl 2 ((E++[e3]).map elA),iv 0]):=by
 have ch:=Zs1 l (by omega) hlg;have co:=Zpp;have c1:=Zpk;have hlm:(l.map poA).length=2:=by rw [List.length_map];exact hn
 have hgl:∀i,i < 2→(l.map poA).getD i .u=poA (l.getD i []):=λi hi=>Zs3 (by omega);generalize hlM:l.map poA=M at *;generalize (1:Rat)=one at *;refine Zaa (tok:=0) Tryz.func57 rfl Tryz.ntmps57 Tryz.results57 Tryz.call57 (by rfl) (by simp) ?_;(focus (refine wkad (w_1 hlm) (w_1 ch) w_t ?_;(repeat' first|exact w_t|apply w_l);all_goals intros));rename_i hM gB;refine Zfo (Frz.nilBox (k:=19) 1 301 2 87 (by exact gC) (by rfl) (by omega)) ?_;refine Zfo (Frz.nilBox (k:=19) 2 302 1 23 (by exact gC) (by rfl) (by omega)) ?_;refine Zal (ι:=Nat) (λi e m=>i≤2∧e 0=.sl 1 M∧e 1=.v (.int .i64 o)∧e 6=.pbox 19 gB 0∧e 20=.sl 1 M∧e 21=iv 2∧e 22=iv i∧m 17=some (.map hM [])∧∃svL svP,BSt m gB hM svL svP o (E.take i) 0) (λi=>2 - i) 0 (by rfl) ?_ ?_
 ·rintro i e m ⟨hi,e0,e1,e6,e20,e21,e22,m17,svL,svP,hs⟩
  by_cases hlt:i < 2
  ·have hg:=hgl i hlt;have hp0:=h0 (l.getD i []) (Zp4 (by omega));have ha:=hA i hlt;have hT:E.take (i+1)=E.take i++[E.getD i ([],[])]:=by rw [List.take_succ_eq_append_getElem (by omega),List.getD_eq_getElem?_getD,List.getElem?_eq_getElem (by omega)];rfl
   have hlt1:(E.take i).length≤1000:=by rw [List.length_take];omega
   have hb:=hs.b;generalize l.getD i []=p at *;have hrl:(List.replicate 2 (AV.v (.slice none 0 0))).length=2:=List.length_replicate ..;(focus (refine wkad (w_11 e0 e1 e6 e20 e21 e22 m17 hb hg hlm hp0) (w_2 c1 co) w_t ?_;(repeat' first|exact w_t|apply w_l);all_goals intros));refine o_any (ha.call (L:=E.take i) (gB:=gB) (hM:=hM) (svL:=svL) (svP:=svP) (qP:=0) (qC:=0) ⟨by exact gW hb,by(simp (disch:=omega) only [go_sem,hs.l]<;>repeat' first|rfl|refine⟨?_,?_⟩),by(simp (disch:=omega) only [go_sem,hs.p]<;>repeat' first|rfl|refine⟨?_,?_⟩)⟩ (by exact gC) hlt1) ?_
   rintro r σ' ⟨vl,vp,rfl,hs',h17⟩
   replace h17:σ' 17=some (.map hM []):=by rw [h17];exact gW m17
   (focus (refine wkad (w_7 e0 e1 e6 e20 e21 e22 h17) w_t w_t ?_;(repeat' first|exact w_t|apply w_l);all_goals intros));exact⟨i+1,⟨by omega,by exact gW e0,by exact gW e1,by exact gW e6,by exact gW e20,by exact gW e21,by exact gS,h17,vl,vp,by rw [hT];exact hs'⟩,by omega⟩
  ·obtain rfl:i=2:=by omega
   rw [List.take_of_length_le (by omega)] at hs;clear hA hlg h0 hgl;have hb:=hs.b;have hl:=hs.l;have hll:(E.map elA).length=2:=by rw [List.length_map];exact hE
   (focus (refine wkax (w_9 e0 e1 e6 e20 e21 e22 hb hl hll) w_t w_t w_t w_t w_t (w_r 4) ?_;(repeat' first|exact w_t|apply w_l);all_goals intros));refine o_any (x1 _ gB hM svL svP 0 hs m17) ?_
   rintro r σ' ⟨vl,vp,rfl,hs2⟩
   have hb:=hs2.b;have hl:=hs2.l;have hll:((E++[e3]).map elA).length=3:=by rw [List.length_map,List.length_append,hE];rfl
   have X2:=x2 _ gB hM vl vp _ hs2;have X3:=x3 _ gB hM vl vp _ hs2;clear x1 x2 x3 hs hs2;generalize (E++[e3]).map elA=eL at *;(focus (refine wkax (w_9 e0 e1 e6 e20 e21 e22 hb hl hll) w_t w_t w_t w_t w_t (w_r 4) ?_;(repeat' first|exact w_t|apply w_l);all_goals intros));refine Zhf X2 ?_;(focus (refine wkax (w_9 e0 e1 e6 e20 e21 e22 hb hl hll) w_t w_t w_t w_t w_t (w_r 4) ?_;(repeat' first|exact w_t|apply w_l);all_goals intros));refine Zhf X3 ?_;(focus (refine wkax (w_9 e0 e1 e6 e20 e21 e22 hb hl hll) w_t w_t w_t w_t w_t (w_r 4) ?_;(repeat' first|exact w_t|apply w_l);all_goals intros))
   (all_goals (try simp (disch:=omega) only [go_sem,hl,decide_eq_true,decide_eq_false,if_pos,if_neg,Int.reduceAdd,Int.reduceSub,Int.reduceToNat,Int.zero_add]));(all_goals first|done|rfl|(congr 2;first|done|omega|(rw [Bool.eq_iff_iff];simp only [bool_to_prop,Bool.false_eq_true,iff_true,true_iff,iff_false,false_iff];omega))|skip)
 ·exact⟨by omega,by exact gC,by exact gC,by exact gC,by exact gC,by exact gW hlm,by exact gC,by exact gC,_,_,⟨by exact gC,by(simp (disch:=omega) only [go_sem,List.take_zero,List.map_nil]<;>repeat' first|rfl|refine⟨?_,?_⟩),by(simp (disch:=omega) only [go_sem,List.take_zero,List.map_nil]<;>repeat' first|rfl|refine⟨?_,?_⟩)⟩⟩
end Go.Proofs.YtimmnimikmnljaaGreat
namespace Go.Proofs.YtimmnimikmnljaaGreat
open Go Go.RowKit Go.Pg
attribute [-bool_to_prop] Bool.and_eq_decide Bool.or_eq_decide Bool.decide_beq_decide decide_eq_decide
attribute [local go_sem] Tryz.underlying40 Tryz.underlying3 Tryz.underlying104 Tryz.underlying161 Tryz.underlying115 Tryz.underlying21 Tryz.underlying9 Tryz.underlying5 Tryz.underlying126 sz3 by3 z3 szL byL zL
theorem Ztn (x:Nat) (hx:x < 256):Pure Tryz.prog 164 [.v (.int .u64 (x:Int))] (iv (len8 x:Nat)):=by
 refine Zaa (tok:=0) (rs:=[.tmp 2]) Tryz.func164 rfl Tryz.ntmps164 Tryz.results164 Tryz.call164 (by rfl) (by simp) ?_;have b:=Zjj (i:=x) (by omega)
 (repeat' (first|(apply o_tab (g:=len8) (n:=256) (by kernel_rfl) (by kernel_rfl) (by omega))|(with_reducible first|refine stp ?_|apply gx1|apply gx2|apply gx3|apply gx4|apply gx5|apply gx6|apply gx7)|(with_reducible refine Zbi ?_;intro _)|((with_reducible refine gE ?_);(try simp (disch:=omega) only [go_sem])<;>first|rfl|omega)|with_reducible refine Zaf (by decide) ?_))
 simp (disch:=omega) only [go_sem,Int.zero_add]
theorem bitsLen (x:Nat) (hx:x < 256):Pure Tryz.prog 107 [.v (.int .u64 (x:Int))] (iv (len8 x:Nat)):=by
 have c:=Ztn x hx;generalize ((len8 x:Nat):Int)=r at *;refine Zaa (tok:=0) Tryz.func107 rfl Tryz.ntmps107 Tryz.results107 Tryz.call107 (by rfl) (by simp) ?_;(focus (refine wkap w_t (w_1 c) (w_r 0) ?_;(repeat' first|exact w_t|apply w_l);all_goals intros));all_goals exact gL
end Go.Proofs.YtimmnimikmnljaaGreat
