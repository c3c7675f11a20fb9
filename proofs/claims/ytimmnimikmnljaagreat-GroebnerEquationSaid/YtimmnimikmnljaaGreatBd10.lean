/- Contracts of the functions that the law reaches, and the rules by which they are walked. They say what a call hands back for every input within the bounds that each names; no other condition. -/
import Derived.Test.YtimmnimikmnljaaGreatBd9
import Derived.Laws.RangeString
import Derived.Lib.OthersKept
import Derived.Laws.Strings
set_option linter.unusedSimpArgs false
set_option linter.unusedVariables false
set_option maxRecDepth 20000
set_option maxHeartbeats 16000000
namespace Go.Proofs.YtimmnimikmnljaaGreat
open Go Go.RowKit Go.Pg
attribute [-bool_to_prop] Bool.and_eq_decide Bool.or_eq_decide Bool.decide_beq_decide decide_eq_decide
attribute [local go_sem] Tryz.underlying40 Tryz.underlying3 Tryz.underlying104 Tryz.underlying115 Tryz.underlying4 Tryz.underlying42 Tryz.underlying44 Tryz.underlying27 sz3 by3 z3 szL byL zL szB zB Zce zNat Zcf zInt Zcd zRat Tryz.underlying166
theorem ratOf (n:Nat) (hn:n < 9223372036854775808):Pure Tryz.prog 75 [.v (.int .i64 (n:Int))] (ratQ (n:Rat)):=by
 refine Zaa (tok:=0) Tryz.func75 rfl Tryz.ntmps75 Tryz.results75 Tryz.call75 (by rfl) (by simp) ?_;have hd:decide ((n:Rat).num < 0)=false:=decide_eq_false (by show ¬((n:Int) < 0);omega);have hn':(n:Rat).num.natAbs=n:=Int.natAbs_natCast n;unfold ratQ;rw [hd,hn',Rat.den_natCast];(focus (refine wkvp w_t (w_2 (intOf n hn) Zoo) ?_;(repeat' first|exact w_t|apply w_l);all_goals intros));simp (disch:=omega) only [go_sem]
theorem ratMul (a b:Rat) {j k:Nat} (ha:Sz a j) (hb:Sz b k) (hj:j≤2000000) (hk:k≤2000000):Pure Tryz.prog 90 [ratQ a,ratQ b] (ratQ (a*b)):=by
 obtain⟨a1,a2⟩:=id ha;obtain⟨b1,b2⟩:=id hb;have l1:(toL (a.num*b.num).natAbs).length≤j+k:=by rw [Int.natAbs_mul];exact Nat.le_trans (Zfc _ _) (by omega)
 have l2:(toL (a.den*b.den)).length≤j+k:=Nat.le_trans (Zfc _ _) (by omega);have c:=Zgl (decide (a.num*b.num < 0)) (a.num*b.num).natAbs (a.den*b.den) (by omega) (by omega) (Nat.mul_ne_zero a.den_nz b.den_nz);rw [Zch,←Rat.mul_def'] at c;refine Zaa (tok:=0) Tryz.func90 rfl Tryz.ntmps90 Tryz.results90 Tryz.call90 (by rfl) (by simp) ?_;(focus (refine wkvp w_t (w_5 (Zfl a ha (by omega)) (Zfl b hb (by omega)) (iMul a.num b.num (by omega) (by omega)) (nMul a.den b.den (by omega) (by omega)) c) ?_;(repeat' first|exact w_t|apply w_l);all_goals intros));simp (disch:=omega) only [go_sem]
theorem ratAddA (s t:Bool) (n d m c:Nat) {j k:Nat} (a1:(toL n).length≤j) (a2:(toL d).length≤j) (b1:(toL m).length≤k) (b2:(toL c).length≤k) (hd0:d≠0) (hc0:c≠0) (hj:j≤2000000) (hk:k≤2000000) :
 Pure Tryz.prog 74 [ratA s n d,ratA t m c] (ratQ (mkRat (zI s n) d+mkRat (zI t m) c)):=by
 have oa:=Zkp d (by omega);have ob:=Zkp c (by omega);have l2:(toL (d*c)).length≤j+k:=Nat.le_trans (Zfc _ _) (by omega);have z1:=Zdq s n;have w1:=Zdq t m;have pa:=Zi9 s n d (by omega) hd0;have pb:=Zi9 t m c (by omega) hc0;have eq:mkRat (zI s n) d+mkRat (zI t m) c=mkRat (zI s n*c+zI t m*d) (d*c):=Rat.mkRat_add_mkRat _ _ hd0 hc0;have cs0:=Zsp s t n m (by omega) (by omega);have cm1:Pure Tryz.prog 123 [intA s n,intA false c] (intZ (zI s n*c)):=Zqo s false n c (by omega) (by omega);have cm2:Pure Tryz.prog 123 [intA t m,intA false d] (intZ (zI t m*d)):=Zqo t false m d (by omega) (by omega)
 rw [eq]
 have x1:(toL (zI s n*c).natAbs).length≤j+k:=by
  rw [Int.natAbs_mul,Int.natAbs_natCast,z1];exact Nat.le_trans (Zfc _ _) (by omega)
 have x2:(toL (zI t m*d).natAbs).length≤j+k:=by
  rw [Int.natAbs_mul,Int.natAbs_natCast,w1];exact Nat.le_trans (Zfc _ _) (by omega)
 by_cases h1:d=1∧c=1
 ·obtain⟨h1,h2⟩:=h1
  have l1:(toL (zI s n+zI t m).natAbs).length≤j+k+1:=by
   have h3:=Zdl (Zd5 (zI s n) (zI t m));have h4:=Znp (zI s n).natAbs (zI t m).natAbs;rw [z1,w1] at h3 h4;omega
  have c:=Zgl (decide (zI s n+zI t m < 0)) (zI s n+zI t m).natAbs 1 (by omega) (by rw [Zfw];omega) (by omega);rw [Zch] at c;subst h1;subst h2;rw [decide_eq_true rfl] at oa ob;have e1:zI s n*((1:Nat):Int)+zI t m*((1:Nat):Int)=zI s n+zI t m:=by omega
  rw [e1,Nat.mul_one];refine Zaa (tok:=0) Tryz.func74 rfl Tryz.ntmps74 Tryz.results74 Tryz.call74 (by rfl) (by simp) ?_;(focus (refine wkax w_t (w_5 pa pb oa ob c) w_t (w_1 cs0) w_t w_t (w_r 0) ?_;(repeat' first|exact w_t|apply w_l);all_goals intros));simp (disch:=omega) only [go_sem]
 ·have l1:(toL (zI s n*c+zI t m*d).natAbs).length≤j+k+1:=by
   have h3:=Zdl (Zd5 (zI s n*c) (zI t m*d));have h4:=Znp (zI s n*c).natAbs (zI t m*d).natAbs;omega
  have cr:=Zgl (decide (zI s n*c+zI t m*d < 0)) (zI s n*c+zI t m*d).natAbs (d*c) (by omega) (by omega) (Nat.mul_ne_zero hd0 hc0);rw [Zch] at cr;have cs:=ratSum (zI s n*c) (zI t m*d) (by omega) (by omega);have cw1:=Zgk c;have cw2:=Zgk d;have cm:=nMul d c (by omega) (by omega);generalize zI s n*(c:Int)=y1 at *;generalize zI t m*(d:Int)=y2 at *;by_cases h2:d=1
  ·have h3:c≠1:=λh=>h1 ⟨h2,h⟩;rw [decide_eq_true h2] at oa;rw [decide_eq_false h3] at ob;refine Zaa (tok:=0) Tryz.func74 rfl Tryz.ntmps74 Tryz.results74 Tryz.call74 (by rfl) (by simp) ?_;(focus (refine wkax w_t (w_11 pa pb oa ob cw1 cm1 cw2 cm2 cs cm cr) (w_1 (w_d 5 [(2,intA false c),(3,intZ y1),(6,intA false d),(7,intZ y2),(8,.sl 2 [intZ y1,intZ y2]),(9,intZ (y1+y2)),(12,lim (toL (d*c))),(13,ratQ (mkRat (y1+y2) (d*c)))] [] [4])) w_t w_t w_t (w_r 0) ?_;(repeat' first|exact w_t|apply w_l);all_goals intros));simp (disch:=omega) only [go_sem]
  ·rw [decide_eq_false h2] at oa;refine Zaa (tok:=0) Tryz.func74 rfl Tryz.ntmps74 Tryz.results74 Tryz.call74 (by rfl) (by simp) ?_;(focus (refine wkax w_t (w_10 pa pb oa cw1 cm1 cw2 cm2 cs cm cr) (w_1 (w_d 5 [(2,intA false c),(3,intZ y1),(6,intA false d),(7,intZ y2),(8,.sl 2 [intZ y1,intZ y2]),(9,intZ (y1+y2)),(12,lim (toL (d*c))),(13,ratQ (mkRat (y1+y2) (d*c)))] [] [4])) w_t w_t w_t (w_r 0) ?_;(repeat' first|exact w_t|apply w_l);all_goals intros));simp (disch:=omega) only [go_sem]
theorem Zsq (a b:Rat) {j k:Nat} (ha:Sz a j) (hb:Sz b k) (hj:j≤2000000) (hk:k≤2000000):Pure Tryz.prog 74 [ratQ a,ratQ b] (ratQ (a+b)):=by
 have:=ratAddA (decide (a.num < 0)) (decide (b.num < 0)) a.num.natAbs a.den b.num.natAbs b.den ha.1 ha.2 hb.1 hb.2 a.den_nz b.den_nz hj hk
 rwa [Zch,Zch,Rat.mkRat_self,Rat.mkRat_self] at this
theorem ratCmp (a b:Rat) {j k:Nat} (ha:Sz a j) (hb:Sz b k) (hj:j≤2000000) (hk:k≤2000000):Pure Tryz.prog 95 [ratQ a,ratQ b] (.v (.int .i64 (cmpQ a b))):=by
 obtain⟨a1,a2⟩:=id ha;obtain⟨b1,b2⟩:=id hb;have sa:=Zf3 a ha (by omega);have sb:=Zf3 b hb (by omega);have pa:=Zfl a ha (by omega);have pb:=Zfl b hb (by omega);have cm1:=iMulN a.num b.den (by omega) (by omega);have cm2:=iMulN b.num a.den (by omega) (by omega);have x1:(toL (a.num*b.den).natAbs).length≤j+k:=Zc3 a b ha hb;have x2:(toL (b.num*a.den).natAbs).length≤k+j:=Zc3 b a hb ha;have cc:=iCmp (a.num*b.den) (b.num*a.den) (by omega) (by omega);have cw1:=Zgk b.den;have cw2:=Zgk a.den;have dp:(0:Int) < a.den:=by have:=a.den_pos;omega
 have ep:(0:Int) < b.den:=by have:=b.den_pos;omega
 rw [cmpQ_z]
 have sg:∀z:Int,(z.sign=1∧0 < z)∨(z.sign=0∧z=0)∨(z.sign=-1∧z < 0):=by
  intro z;rcases Int.lt_trichotomy z 0 with h | h | h
  ·exact .inr (.inr ⟨Int.sign_eq_neg_one_of_neg h,h⟩)
  ·exact .inr (.inl ⟨by rw [h];rfl,h⟩)
  ·exact .inl ⟨Int.sign_eq_one_of_pos h,h⟩
 have mp:∀z w:Int,0 < z→0 < w→0 < z*w:=λz w=>Int.mul_pos;have mz:∀w:Int,0*w=0:=λw=>Int.zero_mul w;have mn:∀z w:Int,z < 0→0 < w→z*w < 0:=λz w=>Int.mul_neg_of_neg_of_pos
 have sA:(a.num.sign=1→0 < a.num*b.den)∧(a.num.sign=0→a.num*b.den=0)∧(a.num.sign=-1→a.num*b.den < 0):=by
  rcases sg a.num with⟨h,h'⟩ | ⟨h,h'⟩ | ⟨h,h'⟩
  ·exact⟨λ_=>mp _ _ h' ep,λh2=>(by omega),λh2=>(by omega)⟩
  ·exact⟨λh2=>(by omega),λ_=>(by rw [h'];exact mz _),λh2=>(by omega)⟩
  ·exact⟨λh2=>(by omega),λh2=>(by omega),λ_=>mn _ _ h' ep⟩
 have sB:(b.num.sign=1→0 < b.num*a.den)∧(b.num.sign=0→b.num*a.den=0)∧(b.num.sign=-1→b.num*a.den < 0):=by
  rcases sg b.num with⟨h,h'⟩ | ⟨h,h'⟩ | ⟨h,h'⟩
  ·exact⟨λ_=>mp _ _ h' dp,λh2=>(by omega),λh2=>(by omega)⟩
  ·exact⟨λh2=>(by omega),λ_=>(by rw [h'];exact mz _),λh2=>(by omega)⟩
  ·exact⟨λh2=>(by omega),λh2=>(by omega),λ_=>mn _ _ h' dp⟩
 have ga:=sg a.num;have gb:=sg b.num;generalize a.num*(b.den:Int)=y1 at *;generalize b.num*(a.den:Int)=y2 at *;rcases Int.lt_trichotomy a.num.sign b.num.sign with h | h | h
 ·have hc:cmpZ y1 y2=-1:=by
   unfold cmpZ;rw [if_pos (by omega)]
  rw [hc];clear ga gb sA sB;refine Zaa (tok:=0) Tryz.func95 rfl Tryz.ntmps95 Tryz.results95 Tryz.call95 (by rfl) (by simp) ?_;(focus (refine wkvd w_t (w_2 sa sb) (w_1 (w_d 1 [(1,.v (.int .i64 a.num.sign)),(3,.v (.int .i64 b.num.sign))] [] [])) ?_;(repeat' first|exact w_t|apply w_l);all_goals intros));simp (disch:=omega) only [go_sem]
 ·refine Zaa (tok:=0) Tryz.func95 rfl Tryz.ntmps95 Tryz.results95 Tryz.call95 (by rfl) (by simp) ?_;(focus (refine wkvp w_t (w_2 sa sb) ?_;(repeat' first|exact w_t|apply w_l);all_goals intros));apply Za2 (Zcg [(1,.v (.int .i64 a.num.sign)),(3,.v (.int .i64 b.num.sign))]) [] [] (by kernel_rfl) (by rfl) (by kernel_rfl);(focus (simp only [List.length_cons,List.length_nil,Nat.reduceAdd];rfl));(focus (refine wkud w_t (w_4 sa sb pa pb) ?_;(repeat' first|exact w_t|apply w_l);all_goals intros));apply Za2 (Zcg [(2,intA false b.den),(3,intZ y1),(6,intA false a.den),(7,intZ y2),(8,.v (.int .i64 (cmpZ y1 y2)))]) [] [] (by kernel_rfl) (by rfl) (by kernel_rfl);(focus (simp only [List.length_cons,List.length_nil,Nat.reduceAdd];rfl))
  (focus (refine wkud w_t (w_5 cw1 cm1 cw2 cm2 cc) ?_;(repeat' first|exact w_t|apply w_l);all_goals intros));simp (disch:=omega) only [go_sem]
 ·have hc:cmpZ y1 y2=1:=by
   unfold cmpZ;rw [if_neg (by omega),if_pos (by omega)]
  rw [hc];clear ga gb sA sB;refine Zaa (tok:=0) Tryz.func95 rfl Tryz.ntmps95 Tryz.results95 Tryz.call95 (by rfl) (by simp) ?_;(focus (refine wkvd w_t (w_2 sa sb) (w_1 (w_d 1 [(1,.v (.int .i64 a.num.sign)),(3,.v (.int .i64 b.num.sign))] [] [])) ?_;(repeat' first|exact w_t|apply w_l);all_goals intros));simp (disch:=omega) only [go_sem]
theorem ratDiv (a b:Rat) {j k:Nat} (ha:Sz a j) (hb:Sz b k) (hj:j≤2000000) (hk:k≤2000000) (h0:b≠0):Pure Tryz.prog 71 [ratQ a,ratQ b] (.tup [ratQ (a/b),.v (.int .i64 0)]):=by
 obtain⟨a1,a2⟩:=id ha;obtain⟨b1,b2⟩:=id hb;have pa:=Zfl a ha (by omega);have pb:=Zfl b hb (by omega);have cm1:=iMulN a.num b.den (by omega) (by omega);have cm2:=iMulN b.num a.den (by omega) (by omega);have x1:(toL (a.num*b.den).natAbs).length≤j+k:=Zc3 a b ha hb;have x2:(toL (b.num*a.den).natAbs).length≤k+j:=Zc3 b a hb ha;have hb0:b.num≠0:=λe=>h0 (Rat.num_eq_zero.1 e);have hd0:(a.den:Int)≠0:=by have:=a.den_nz;omega
 have hw0:b.num*(a.den:Int)≠0:=Int.mul_ne_zero hb0 hd0;have cM:=ratMake (a.num*b.den) (b.num*a.den) (by omega) (by omega) hw0
 have e:Rat.divInt (a.num*b.den) (b.num*a.den)=a/b:=by
  rw [Rat.div_def,Rat.inv_def];have h1:a=Rat.divInt a.num a.den:=(Rat.num_divInt_den a).symm;rw [show a*Rat.divInt (b.den:Int) b.num=Rat.divInt a.num a.den*Rat.divInt (b.den:Int) b.num by rw [←h1],Rat.divInt_mul_divInt,Int.mul_comm b.num]
 rw [e] at cM;have cw1:=Zgk b.den;have cw2:=Zgk a.den;generalize a/b=q at *;generalize a.num*(b.den:Int)=y1 at *;generalize b.num*(a.den:Int)=y2 at *;refine Zaa (tok:=0) Tryz.func71 rfl Tryz.ntmps71 Tryz.results71 Tryz.call71 (by rfl) (by simp) ?_
 (repeat' (first|(with_reducible first|refine stp ?_|apply gx1|apply gx2|apply gx3|apply gx4|apply gx5|apply gx6|apply gx7|apply gy8|apply gz2|apply gz3|refine gw0 (pa) ?_ ?_|refine gw3 (pa) ?_ ?_ ?_|refine gw0 (pb) ?_ ?_|refine gw3 (pb) ?_ ?_ ?_|refine gw0 (cw1) ?_ ?_|refine gw3 (cw1) ?_ ?_ ?_|refine gw0 (cm1) ?_ ?_|refine gw3 (cm1) ?_ ?_ ?_|refine gw0 (cw2) ?_ ?_|refine gw3 (cw2) ?_ ?_ ?_|refine gw0 (cm2) ?_ ?_|refine gw3 (cm2) ?_ ?_ ?_|refine gw0 (cM) ?_ ?_|refine gw3 (cM) ?_ ?_ ?_)|(with_reducible refine Zbf ?_;intro _)|((with_reducible refine gE ?_);(try simp (disch:=omega) only [go_sem])<;>first|rfl|omega)|with_reducible refine Zaf (by decide) ?_|((with_reducible apply gy1);iterate 3 focus rfl)|((with_reducible apply gy2);iterate 3 focus rfl)|((with_reducible apply gy3);iterate 2 focus rfl)|((with_reducible apply gy4);iterate 1 focus rfl)|((with_reducible apply gy5);iterate 4 focus rfl)|((with_reducible apply gy5c);iterate 4 focus rfl)|((with_reducible apply gy6);iterate 4 focus rfl)|((with_reducible apply Zc0);iterate 3 focus rfl)|((with_reducible apply Zcz);iterate 1 focus rfl)|((with_reducible apply gy7);iterate 1 focus rfl)|((with_reducible apply gy9);(focus ((with_reducible refine gE ?_);(try simp (disch:=omega) only [go_sem])<;>rfl)))|((with_reducible apply gz1);(focus first|rfl|(simp (disch:=omega) only [go_sem];done)))|((with_reducible apply Za2 (Zcg [(2,intA false b.den),(3,intZ y1),(6,intA false a.den),(7,intZ y2),(8,.tup [ratQ q,.v (.int .i64 0)])]) [] [4]);(focus kernel_rfl);(focus rfl);(focus kernel_rfl);(focus (simp only [List.length_cons,List.length_nil,Nat.reduceAdd];rfl)))))
 simp (disch:=omega) only [go_sem]
theorem Zgr {z:Int} (h:z < 0):intZ z=intA true z.natAbs:=by unfold intZ;rw [decide_eq_true h]
theorem Zfq {z:Int} (h:¬z < 0):intZ z=intA false z.natAbs:=by unfold intZ;rw [decide_eq_false h]
theorem zOf' (s:Bool) (n:Nat) (hn:(toL n).length≤100000000):Pure Tryz.prog 151 [.v (.bool s),lim (toL n)] (intZ (zI s n)):=by
 rw [Zh7];have hp:=@Zbo n;cases s
 ·refine Zaa (tok:=0) Tryz.func151 rfl Tryz.ntmps151 Tryz.results151 Tryz.call151 (by rfl) (by simp) ?_;(focus (refine wkvp w_t (w_1 (rNorm n hn)) ?_;(repeat' first|exact w_t|apply w_l);all_goals intros));simp (disch:=omega) only [go_sem,Bool.false_and]
 ·by_cases h:0 < n
  ·have h2:=hp.2 h;refine Zaa (tok:=0) Tryz.func151 rfl Tryz.ntmps151 Tryz.results151 Tryz.call151 (by rfl) (by simp) ?_;(focus (refine wkvp w_t (w_1 (rNorm n hn)) ?_;(repeat' first|exact w_t|apply w_l);all_goals intros));simp (disch:=omega) only [go_sem,decide_eq_true h]
  ·have h2:¬0 < (toL n).length:=λh3=>h (hp.1 h3);refine Zaa (tok:=0) Tryz.func151 rfl Tryz.ntmps151 Tryz.results151 Tryz.call151 (by rfl) (by simp) ?_;(focus (refine wkvp w_t (w_1 (rNorm n hn)) ?_;(repeat' first|exact w_t|apply w_l);all_goals intros));simp (disch:=omega) only [go_sem,decide_eq_false h]
theorem zNorm (s:Bool) (n:Nat) (hn:(toL n).length≤100000000):Pure Tryz.prog 150 [intA s n] (intZ (zI s n)):=by
 refine Zaa (tok:=0) Tryz.func150 rfl Tryz.ntmps150 Tryz.results150 Tryz.call150 (by rfl) (by simp) ?_;(focus (refine wkvp w_t (w_1 (zOf' s n hn)) ?_;(repeat' first|exact w_t|apply w_l);all_goals intros));simp (disch:=omega) only [go_sem]
theorem Zrz (z:Int) (hz:(toL z.natAbs).length≤100000000):Pure Tryz.prog 150 [intZ z] (intZ z):=by
 have:=zNorm (decide (z < 0)) z.natAbs hz
 rwa [Zch] at this
theorem zOf (n:Nat) (hn:n < 9223372036854775808):Pure Tryz.prog 99 [.v (.int .i64 (n:Int))] (intA false n):=by
 have l4:(toL n).length≤4:=Zai.2 (by omega);have hm:=zOf' false n (by omega);rw [Zh7,Bool.false_and] at hm;refine Zaa (tok:=0) Tryz.func99 rfl Tryz.ntmps99 Tryz.results99 Tryz.call99 (by rfl) (by simp) ?_;(focus (refine wkvp w_t (w_2 (Zim n (by omega)) hm) ?_;(repeat' first|exact w_t|apply w_l);all_goals intros));simp (disch:=omega) only [go_sem]
theorem zNeg (s:Bool) (n:Nat) (hn:(toL n).length≤100000000):Pure Tryz.prog 171 [intA s n] (intZ (-zI s n)):=by
 have e:-zI s n=zI (!s) n:=by cases s<;>simp [zI]
 rw [e];refine Zaa (tok:=0) Tryz.func171 rfl Tryz.ntmps171 Tryz.results171 Tryz.call171 (by rfl) (by simp) ?_;(focus (refine wkvp w_t (w_1 (zOf' (!s) n hn)) ?_;(repeat' first|exact w_t|apply w_l);all_goals intros));simp (disch:=omega) only [go_sem]
theorem zSign (z:Int) (hz:(toL z.natAbs).length≤100000000):Pure Tryz.prog 114 [intZ z] (.v (.int .i64 z.sign)):=by
 have cn:=Zrz z hz;have hp:=@Zbo z.natAbs;rcases Int.lt_trichotomy z 0 with h | h | h
 ·rw [Int.sign_eq_neg_one_of_neg h];have h2:=hp.2 (by omega);rw [Zgr h] at cn ⊢;refine Zaa (tok:=0) Tryz.func114 rfl Tryz.ntmps114 Tryz.results114 Tryz.call114 (by rfl) (by simp) ?_;(focus (refine wkvp w_t (w_1 cn) ?_;(repeat' first|exact w_t|apply w_l);all_goals intros));simp (disch:=omega) only [go_sem]
 ·have h2:¬0 < (toL z.natAbs).length:=λh3=>by have:=hp.1 h3;omega
  have hs:z.sign=0:=by rw [h];rfl
  rw [hs];rw [Zfq (by omega)] at cn ⊢;refine Zaa (tok:=0) Tryz.func114 rfl Tryz.ntmps114 Tryz.results114 Tryz.call114 (by rfl) (by simp) ?_;(focus (refine wkvp w_t (w_1 cn) ?_;(repeat' first|exact w_t|apply w_l);all_goals intros));simp (disch:=omega) only [go_sem]
 ·rw [Int.sign_eq_one_of_pos h];have h2:=hp.2 (by omega);rw [Zfq (by omega)] at cn ⊢;refine Zaa (tok:=0) Tryz.func114 rfl Tryz.ntmps114 Tryz.results114 Tryz.call114 (by rfl) (by simp) ?_;(focus (refine wkvp w_t (w_1 cn) ?_;(repeat' first|exact w_t|apply w_l);all_goals intros));simp (disch:=omega) only [go_sem]
theorem zCmp (z w:Int) (hz:(toL z.natAbs).length≤100000000) (hw:(toL w.natAbs).length≤100000000):Pure Tryz.prog 135 [intZ z,intZ w] (.v (.int .i64 (cmpZ z w))):=by
 have c1:=Zrz z hz;have c2:=Zrz w hw;have ca:=rCmp z.natAbs w.natAbs hz hw;have cb:=rCmp w.natAbs z.natAbs hw hz;by_cases h1:z < 0
 ·by_cases h2:w < 0
  ·have hc:cmpZ z w=cmpN w.natAbs z.natAbs:=by
    unfold cmpZ cmpN;have e1:(z < w)↔(w.natAbs < z.natAbs):=by omega
    have e2:(w < z)↔(z.natAbs < w.natAbs):=by omega
    simp only [e1,e2]
   rw [hc];rw [Zgr h1] at c1 ⊢;rw [Zgr h2] at c2 ⊢;refine Zaa (tok:=0) Tryz.func135 rfl Tryz.ntmps135 Tryz.results135 Tryz.call135 (by rfl) (by simp) ?_;(focus (refine wkvd w_t (w_3 c1 c2 cb) (w_1 (w_d 1 [(1,.agg [.v (.bool true),lim (toL z.natAbs)]),(3,.agg [.v (.bool true),lim (toL w.natAbs)])] [4,5] [])) ?_;(repeat' first|exact w_t|apply w_l);all_goals intros));simp (disch:=omega) only [go_sem]
  ·have hc:cmpZ z w=-1:=if_pos (by omega);rw [hc];rw [Zgr h1] at c1 ⊢;rw [Zfq h2] at c2 ⊢;refine Zaa (tok:=0) Tryz.func135 rfl Tryz.ntmps135 Tryz.results135 Tryz.call135 (by rfl) (by simp) ?_;(focus (refine wkvd w_t (w_2 c1 c2) (w_1 (w_d 1 [(1,.agg [.v (.bool true),lim (toL z.natAbs)]),(3,.agg [.v (.bool false),lim (toL w.natAbs)])] [4,5] [])) ?_;(repeat' first|exact w_t|apply w_l);all_goals intros));simp (disch:=omega) only [go_sem]
 ·by_cases h2:w < 0
  ·have hc:cmpZ z w=1:=by unfold cmpZ;rw [if_neg (by omega),if_pos (by omega)]
   rw [hc];rw [Zfq h1] at c1 ⊢;rw [Zgr h2] at c2 ⊢;refine Zaa (tok:=0) Tryz.func135 rfl Tryz.ntmps135 Tryz.results135 Tryz.call135 (by rfl) (by simp) ?_;(focus (refine wkvd w_t (w_2 c1 c2) (w_1 (w_d 1 [(1,.agg [.v (.bool false),lim (toL z.natAbs)]),(3,.agg [.v (.bool true),lim (toL w.natAbs)])] [4,5] [])) ?_;(repeat' first|exact w_t|apply w_l);all_goals intros));simp (disch:=omega) only [go_sem]
  ·have hc:cmpZ z w=cmpN z.natAbs w.natAbs:=by
    unfold cmpZ cmpN;have e1:(z < w)↔(z.natAbs < w.natAbs):=by omega
    have e2:(w < z)↔(w.natAbs < z.natAbs):=by omega
    simp only [e1,e2]
   rw [hc];rw [Zfq h1] at c1 ⊢;rw [Zfq h2] at c2 ⊢;refine Zaa (tok:=0) Tryz.func135 rfl Tryz.ntmps135 Tryz.results135 Tryz.call135 (by rfl) (by simp) ?_;(focus (refine wkvd w_t (w_3 c1 c2 ca) (w_1 (w_d 1 [(1,.agg [.v (.bool false),lim (toL z.natAbs)]),(3,.agg [.v (.bool false),lim (toL w.natAbs)])] [4,5] [])) ?_;(repeat' first|exact w_t|apply w_l);all_goals intros));simp (disch:=omega) only [go_sem]
theorem zMul (s t:Bool) (n m:Nat) (hn:(toL n).length≤40000000) (hm:(toL m).length≤40000000):Pure Tryz.prog 111 [intA s n,intA t m] (intZ (zI s n*zI t m)):=by
 have e:zI s n*zI t m=zI (s != t) (n*m):=by cases s<;>cases t<;>simp [zI,Int.mul_neg,Int.neg_mul]
 have lm:=Zfc n m;have hne:(!(s == t))=(s != t):=rfl;rw [e];refine Zaa (tok:=0) Tryz.func111 rfl Tryz.ntmps111 Tryz.results111 Tryz.call111 (by rfl) (by simp) ?_;(focus (refine wkvd (w_1 hne) (w_2 (rMul n m (by omega) (by omega)) (zOf' (s != t) (n*m) (by omega))) (w_1 (w_d 1 [(9,lim (toL (n*m))),(10,intZ (zI (s != t) (n*m)))] [11] [])) ?_;(repeat' first|exact w_t|apply w_l);all_goals intros));simp (disch:=omega) only [go_sem]
theorem zAdd (s t:Bool) (n m:Nat) (hn:(toL n).length≤40000000) (hm:(toL m).length≤40000000):Pure Tryz.prog 110 [intA s n,intA t m] (intZ (zI s n+zI t m)):=by
 by_cases hst:s=t
 ·subst hst;have e:zI s n+zI s m=zI s (n+m):=by cases s<;>simp [zI]<;>omega
  have la:=Znp n m;rw [e];have hb:(s == s)=true:=by cases s<;>rfl
  refine Zaa (tok:=0) Tryz.func110 rfl Tryz.ntmps110 Tryz.results110 Tryz.call110 (by rfl) (by simp) ?_;(focus (refine wkvd (w_1 hb) (w_2 (rAdd n m (by omega) (by omega)) (zOf' s (n+m) (by omega))) (w_1 (w_d 2 [(6,lim (toL (n+m))),(7,intZ (zI s (n+m)))] [8] [])) ?_;(repeat' first|exact w_t|apply w_l);all_goals intros));simp (disch:=omega) only [go_sem]
 ·have hb:(s == t)=false:=by cases s<;>cases t<;>first|rfl|exact absurd rfl hst
  have ht:t=!s:=by cases s<;>cases t<;>first|rfl|exact absurd rfl hst
  have c1:=rSub n m (by omega) (by omega);have c2:=rSub m n (by omega) (by omega);by_cases hlt:n < m
  ·have e:zI s n+zI t m=zI t (m - n):=by rw [ht];cases s<;>simp [zI]<;>omega
   have ls:(toL (m - n)).length≤100000000:=Nat.le_trans (Zdl (Nat.sub_le _ _)) (by omega);rw [if_pos hlt,if_pos hlt] at c1;rw [if_neg (by omega),if_neg (by omega)] at c2;rw [e];refine Zaa (tok:=0) Tryz.func110 rfl Tryz.ntmps110 Tryz.results110 Tryz.call110 (by rfl) (by simp) ?_;(focus (refine wkvd (w_1 hb) (w_3 c1 c2 (zOf' t (m - n) ls)) w_t ?_;(repeat' first|exact w_t|apply w_l);all_goals intros));simp (disch:=omega) only [go_sem]
  ·have e:zI s n+zI t m=zI s (n - m):=by rw [ht];cases s<;>simp [zI]<;>omega
   have ls:(toL (n - m)).length≤100000000:=Nat.le_trans (Zdl (Nat.sub_le _ _)) (by omega);rw [if_neg hlt,if_neg hlt] at c1;rw [e];refine Zaa (tok:=0) Tryz.func110 rfl Tryz.ntmps110 Tryz.results110 Tryz.call110 (by rfl) (by simp) ?_;(focus (refine wkvd (w_1 hb) (w_2 c1 (zOf' s (n - m) ls)) w_t ?_;(repeat' first|exact w_t|apply w_l);all_goals intros));simp (disch:=omega) only [go_sem]
theorem gcd_le_l (n m:Nat) (h:m≠0):Nat.gcd n m≠0:=Nat.ne_of_gt (Nat.gcd_pos_of_pos_right _ (Nat.pos_of_ne_zero h))
theorem intZ_div (s:Bool) (n g:Nat) (hg:g ∣ n) (h0:g≠0):intZ (zI s (n/g))=.agg [.v (.bool (decide (zI s n < 0))),lim (toL (n/g))]:=by
 rw [Zh7,zI_lt]
 have:(0 < n/g)↔(0 < n):=by
  obtain⟨k,rfl⟩:=hg;rw [Nat.mul_div_cancel_left _ (Nat.pos_of_ne_zero h0)];constructor
  ·intro h;exact Nat.mul_pos (Nat.pos_of_ne_zero h0) h
  ·intro h;exact Nat.pos_of_ne_zero λe=>by rw [e] at h;simp at h
 simp only [this]
theorem Zos (s:Bool) (n m:Nat) (hn:(toL n).length≤10000000) (hm:(toL m).length≤10000000) (h0:m≠0):Pure Tryz.prog 98 [intA s n,lim (toL m)] (ratQ (mkRat (zI s n) m)):=by
 rw [Zop _ _ h0,Zdq];have g0:=gcd_le_l n m h0;have hgd:=Nat.gcd_dvd_left n m;have hmp:=Zbo.2 (Nat.pos_of_ne_zero h0);have hg:(toL (Nat.gcd n m)).length≤10000000:=Nat.le_trans (Zdl (Nat.le_of_dvd (by omega) (Nat.gcd_dvd_right _ _))) hm;have hq:(toL (n/Nat.gcd n m)).length≤10000000:=Nat.le_trans (Zdl (Nat.div_le_self _ _)) hn;have cg:=rGcd n m (by omega) (by omega);have c1:=Zss n (Nat.gcd n m) (by omega) (by omega) g0;have c2:=Zss m (Nat.gcd n m) (by omega) (by omega) g0;have cn:=zNorm s (n/Nat.gcd n m) (by omega);rw [intZ_div s n _ hgd g0] at cn;refine Zaa (tok:=0) Tryz.func98 rfl Tryz.ntmps98 Tryz.results98 Tryz.call98 (by rfl) (by simp) ?_
 (focus (refine wkvp w_t (w_5 (rNorm m (by omega)) cg c1 c2 cn) ?_;(repeat' first|exact w_t|apply w_l);all_goals intros));simp (disch:=omega) only [go_sem]
theorem Zm2 (q:Rat) {k:Nat} (h:Sz q k) (hk:k≤10000000):Pure Tryz.prog 97 [ratQ q] (ratQ q):=by
 have c:=Zos (decide (q.num < 0)) q.num.natAbs q.den (Nat.le_trans h.1 hk) (Nat.le_trans h.2 hk) q.den_nz;rw [Zch,Rat.mkRat_self] at c;refine Zaa (tok:=0) Tryz.func97 rfl Tryz.ntmps97 Tryz.results97 Tryz.call97 (by rfl) (by simp) ?_;(focus (refine wkvp w_t (w_1 c) ?_;(repeat' first|exact w_t|apply w_l);all_goals intros));simp (disch:=omega) only [go_sem]
theorem Zkq (n:Nat):Pure Tryz.prog 112 [lim (toL n)] (intA false n):=by
 refine Zaa (tok:=0) Tryz.func112 rfl Tryz.ntmps112 Tryz.results112 Tryz.call112 (by rfl) (by simp) ?_;(focus (refine wkvp w_t w_t ?_;(repeat' first|exact w_t|apply w_l);all_goals intros));simp (disch:=omega) only [go_sem]
theorem qMake (z w:Int) (hz:(toL z.natAbs).length≤10000000) (hw:(toL w.natAbs).length≤10000000) (h0:w≠0):Pure Tryz.prog 132 [intZ z,intZ w] (.tup [ratQ (Rat.divInt z w),.v (.int .i64 0)]):=by
 have cs:=zSign w (by omega);have hs:w.sign≠0:=λh=>h0 (Int.sign_eq_zero_iff_zero.1 h);rcases (by omega:w < 0∨0 < w) with h | h
 ·have e:Rat.divInt z w=mkRat (-z) w.natAbs:=by
   have hw1:w=-((w.natAbs:Nat):Int):=by omega
   rw [show Rat.divInt z w=Rat.divInt z (-((w.natAbs:Nat):Int)) by rw [←hw1],Rat.divInt_neg',Rat.divInt_ofNat]
  have cn:=zNeg (decide (z < 0)) z.natAbs (by omega);have c:=Zos (decide (-z < 0)) (-z).natAbs w.natAbs (by rw [Int.natAbs_neg];omega) hw (by omega);rw [Zch] at c cn;rw [←e] at c;generalize -z=y at *;generalize Rat.divInt z w=q at *;rw [Zgr h] at cs ⊢;refine Zaa (tok:=0) Tryz.func132 rfl Tryz.ntmps132 Tryz.results132 Tryz.call132 (by rfl) (by simp) ?_;(focus (refine wkvp w_t (w_3 cs cn c) ?_;(repeat' first|exact w_t|apply w_l);all_goals intros));simp (disch:=omega) only [go_sem]
 ·have e:Rat.divInt z w=mkRat z w.natAbs:=by
   have hw1:w=((w.natAbs:Nat):Int):=by omega
   rw [show Rat.divInt z w=Rat.divInt z ((w.natAbs:Nat):Int) by rw [←hw1],Rat.divInt_ofNat]
  have c:=Zos (decide (z < 0)) z.natAbs w.natAbs hz hw (by omega);rw [Zch,←e] at c;generalize Rat.divInt z w=q at *;rw [Zfq (by omega:¬w < 0)] at cs ⊢;refine Zaa (tok:=0) Tryz.func132 rfl Tryz.ntmps132 Tryz.results132 Tryz.call132 (by rfl) (by simp) ?_;(focus (refine wkvp w_t (w_2 cs c) ?_;(repeat' first|exact w_t|apply w_l);all_goals intros));simp (disch:=omega) only [go_sem]
theorem qOf (n:Nat) (hn:n < 9223372036854775808):Pure Tryz.prog 56 [.v (.int .i64 (n:Int))] (ratQ (n:Rat)):=by
 have l4:(toL n).length≤4:=Zai.2 (by omega);have c:=Zos false n 1 (by omega) (by rw [Zfw];omega) (by omega)
 have e:mkRat (zI false n) 1=(n:Rat):=by
  have:=Rat.mkRat_self (n:Rat);exact this
 rw [e] at c;refine Zaa (tok:=0) Tryz.func56 rfl Tryz.ntmps56 Tryz.results56 Tryz.call56 (by rfl) (by simp) ?_;(focus (refine wkvp w_t (w_3 (zOf n hn) (Zim 1 (by omega)) c) ?_;(repeat' first|exact w_t|apply w_l);all_goals intros));simp (disch:=omega) only [go_sem]
theorem qMul (a b:Rat) {j k:Nat} (ha:Sz a j) (hb:Sz b k) (hj:j≤2000000) (hk:k≤2000000):Pure Tryz.prog 115 [ratQ a,ratQ b] (ratQ (a*b)):=by
 obtain⟨a1,a2⟩:=id ha;obtain⟨b1,b2⟩:=id hb;have l1:(toL (a.num*b.num).natAbs).length≤j+k:=by rw [Int.natAbs_mul];exact Nat.le_trans (Zfc _ _) (by omega)
 have l2:(toL (a.den*b.den)).length≤j+k:=Nat.le_trans (Zfc _ _) (by omega);have c:=Zos (decide (a.num*b.num < 0)) (a.num*b.num).natAbs (a.den*b.den) (by omega) (by omega) (Nat.mul_ne_zero a.den_nz b.den_nz);rw [Zch,←Rat.mul_def'] at c;have cz:=zMul (decide (a.num < 0)) (decide (b.num < 0)) a.num.natAbs b.num.natAbs (by omega) (by omega);rw [Zch,Zch] at cz;have cd:=rMul a.den b.den (by omega) (by omega);generalize a*b=q at *;generalize a.num*b.num=y at *;refine Zaa (tok:=0) Tryz.func115 rfl Tryz.ntmps115 Tryz.results115 Tryz.call115 (by rfl) (by simp) ?_;(focus (refine wkvd w_t (w_3 cz cd c) (w_1 (w_d 1 [(4,intZ y),(9,lim (toL (a.den*b.den))),(10,ratQ q)] [11] [])) ?_;(repeat' first|exact w_t|apply w_l);all_goals intros))
 simp (disch:=omega) only [go_sem]
theorem qAdd (a b:Rat) {j k:Nat} (ha:Sz a j) (hb:Sz b k) (hj:j≤2000000) (hk:k≤2000000):Pure Tryz.prog 63 [ratQ a,ratQ b] (ratQ (a+b)):=by
 obtain⟨a1,a2⟩:=id ha;obtain⟨b1,b2⟩:=id hb;have na:=Zm2 a ha (by omega);have nb:=Zm2 b hb (by omega);have cm1:=zMul (decide (a.num < 0)) false a.num.natAbs b.den (by omega) (by omega);have cm2:=zMul (decide (b.num < 0)) false b.num.natAbs a.den (by omega) (by omega);rw [Zch] at cm1 cm2;have cm1:Pure Tryz.prog 111 [intZ a.num,intA false b.den] (intZ (a.num*b.den)):=cm1;have cm2:Pure Tryz.prog 111 [intZ b.num,intA false a.den] (intZ (b.num*a.den)):=cm2;have x1:(toL (a.num*b.den).natAbs).length≤j+k:=Zc3 a b ha hb;have x2:(toL (b.num*a.den).natAbs).length≤k+j:=Zc3 b a hb ha
 have l1:(toL (a.num*b.den+b.num*a.den).natAbs).length≤j+k+1:=by
  have h3:=Zdl (Zd5 (a.num*b.den) (b.num*a.den));have h4:=Znp (a.num*b.den).natAbs (b.num*a.den).natAbs;omega
 have l2:(toL (a.den*b.den)).length≤j+k:=Nat.le_trans (Zfc _ _) (by omega);have ca:=zAdd (decide (a.num*b.den < 0)) (decide (b.num*a.den < 0)) (a.num*b.den).natAbs (b.num*a.den).natAbs (by omega) (by omega);rw [Zch,Zch] at ca;have c:=Zos (decide (a.num*b.den+b.num*a.den < 0)) (a.num*b.den+b.num*a.den).natAbs (a.den*b.den) (by omega) (by omega) (Nat.mul_ne_zero a.den_nz b.den_nz);rw [Zch,←Rat.add_def'] at c;have cw1:=Zkq b.den;have cw2:=Zkq a.den;have cd:=rMul a.den b.den (by omega) (by omega);generalize a+b=q at *;generalize a.num*(b.den:Int)=y1 at *;generalize b.num*(a.den:Int)=y2 at *
 refine Zaa (tok:=0) Tryz.func63 rfl Tryz.ntmps63 Tryz.results63 Tryz.call63 (by rfl) (by simp) ?_;(focus (refine wkvp w_t w_t ?_;(repeat' first|exact w_t|apply w_l);all_goals intros));apply Za2 (Zcg [(1,ratQ a),(3,ratQ b)]) [4,5] [] (by kernel_rfl) (by rfl) (by kernel_rfl);(focus (simp only [List.length_cons,List.length_nil,Nat.reduceAdd];rfl));(focus (refine wkud w_t (w_2 na nb) ?_;(repeat' first|exact w_t|apply w_l);all_goals intros));apply Za2 (Zcg [(4,intA false b.den),(5,intZ y1),(10,intA false a.den),(11,intZ y2),(12,intZ (y1+y2)),(17,lim (toL (a.den*b.den))),(18,ratQ q)]) [19] [] (by kernel_rfl) (by rfl) (by kernel_rfl);(focus (simp only [List.length_cons,List.length_nil,Nat.reduceAdd];rfl))
 (focus (refine wkud w_t (w_7 cw1 cm1 cw2 cm2 ca cd c) ?_;(repeat' first|exact w_t|apply w_l);all_goals intros));simp (disch:=omega) only [go_sem]
theorem qCmp (a b:Rat) {j k:Nat} (ha:Sz a j) (hb:Sz b k) (hj:j≤2000000) (hk:k≤2000000):Pure Tryz.prog 80 [ratQ a,ratQ b] (.v (.int .i64 (cmpQ a b))):=by
 obtain⟨a1,a2⟩:=id ha;obtain⟨b1,b2⟩:=id hb;have na:=Zm2 a ha (by omega);have nb:=Zm2 b hb (by omega);have cm1:=zMul (decide (a.num < 0)) false a.num.natAbs b.den (by omega) (by omega);have cm2:=zMul (decide (b.num < 0)) false b.num.natAbs a.den (by omega) (by omega);rw [Zch] at cm1 cm2;have cm1:Pure Tryz.prog 111 [intZ a.num,intA false b.den] (intZ (a.num*b.den)):=cm1;have cm2:Pure Tryz.prog 111 [intZ b.num,intA false a.den] (intZ (b.num*a.den)):=cm2;have x1:(toL (a.num*b.den).natAbs).length≤j+k:=Zc3 a b ha hb;have x2:(toL (b.num*a.den).natAbs).length≤k+j:=Zc3 b a hb ha;have cc:=zCmp (a.num*b.den) (b.num*a.den) (by omega) (by omega)
 rw [cmpQ_z];have cw1:=Zkq b.den;have cw2:=Zkq a.den;generalize a.num*(b.den:Int)=y1 at *;generalize b.num*(a.den:Int)=y2 at *;refine Zaa (tok:=0) Tryz.func80 rfl Tryz.ntmps80 Tryz.results80 Tryz.call80 (by rfl) (by simp) ?_;(focus (refine wkvp w_t w_t ?_;(repeat' first|exact w_t|apply w_l);all_goals intros));apply Za2 (Zcg [(1,ratQ a),(3,ratQ b)]) [4,5] [] (by kernel_rfl) (by rfl) (by kernel_rfl);(focus (simp only [List.length_cons,List.length_nil,Nat.reduceAdd];rfl));(focus (refine wkud w_t (w_2 na nb) ?_;(repeat' first|exact w_t|apply w_l);all_goals intros));apply Za2 (Zcg [(4,intA false b.den),(5,intZ y1),(10,intA false a.den),(11,intZ y2),(12,.v (.int .i64 (cmpZ y1 y2)))]) [] [] (by kernel_rfl) (by rfl) (by kernel_rfl);(focus (simp only [List.length_cons,List.length_nil,Nat.reduceAdd];rfl))
 (focus (refine wkud w_t (w_5 cw1 cm1 cw2 cm2 cc) ?_;(repeat' first|exact w_t|apply w_l);all_goals intros));simp (disch:=omega) only [go_sem]
theorem qDiv (a b:Rat) {j k:Nat} (ha:Sz a j) (hb:Sz b k) (hj:j≤2000000) (hk:k≤2000000) (h0:b≠0):Pure Tryz.prog 78 [ratQ a,ratQ b] (.tup [ratQ (a/b),.v (.int .i64 0)]):=by
 obtain⟨a1,a2⟩:=id ha;obtain⟨b1,b2⟩:=id hb;have na:=Zm2 a ha (by omega);have nb:=Zm2 b hb (by omega);have cm1:=zMul (decide (a.num < 0)) false a.num.natAbs b.den (by omega) (by omega);have cm2:=zMul (decide (b.num < 0)) false b.num.natAbs a.den (by omega) (by omega);rw [Zch] at cm1 cm2;have cm1:Pure Tryz.prog 111 [intZ a.num,intA false b.den] (intZ (a.num*b.den)):=cm1;have cm2:Pure Tryz.prog 111 [intZ b.num,intA false a.den] (intZ (b.num*a.den)):=cm2;have x1:(toL (a.num*b.den).natAbs).length≤j+k:=Zc3 a b ha hb;have x2:(toL (b.num*a.den).natAbs).length≤k+j:=Zc3 b a hb ha;have hb0:b.num≠0:=λe=>h0 (Rat.num_eq_zero.1 e)
 have hd0:(a.den:Int)≠0:=by have:=a.den_nz;omega
 have hw0:b.num*(a.den:Int)≠0:=Int.mul_ne_zero hb0 hd0;have cM:=qMake (a.num*b.den) (b.num*a.den) (by omega) (by omega) hw0
 have e:Rat.divInt (a.num*b.den) (b.num*a.den)=a/b:=by
  rw [Rat.div_def,Rat.inv_def];have h1:a=Rat.divInt a.num a.den:=(Rat.num_divInt_den a).symm;rw [show a*Rat.divInt (b.den:Int) b.num=Rat.divInt a.num a.den*Rat.divInt (b.den:Int) b.num by rw [←h1],Rat.divInt_mul_divInt,Int.mul_comm b.num]
 rw [e] at cM;have cw1:=Zkq b.den;have cw2:=Zkq a.den;generalize a/b=q at *;generalize a.num*(b.den:Int)=y1 at *;generalize b.num*(a.den:Int)=y2 at *;refine Zaa (tok:=0) Tryz.func78 rfl Tryz.ntmps78 Tryz.results78 Tryz.call78 (by rfl) (by simp) ?_;(focus (refine wkvp w_t w_t ?_;(repeat' first|exact w_t|apply w_l);all_goals intros));apply Za2 (Zcg [(1,ratQ a),(3,ratQ b)]) [4,5] [] (by kernel_rfl) (by rfl) (by kernel_rfl);(focus (simp only [List.length_cons,List.length_nil,Nat.reduceAdd];rfl));(focus (refine wkud w_t (w_2 na nb) ?_;(repeat' first|exact w_t|apply w_l);all_goals intros))
 apply Za2 (Zcg [(4,intA false b.den),(5,intZ y1),(10,intA false a.den),(11,intZ y2),(12,.tup [ratQ q,.v (.int .i64 0)])]) [15] [] (by kernel_rfl) (by rfl) (by kernel_rfl);(focus (simp only [List.length_cons,List.length_nil,Nat.reduceAdd];rfl));(focus (refine wkud w_t (w_5 cw1 cm1 cw2 cm2 cM) ?_;(repeat' first|exact w_t|apply w_l);all_goals intros));simp (disch:=omega) only [go_sem]
structure RQ where
 s:Bool
 l:List Nat
 d:List Nat
def RQ.lm (r:RQ) (k:Nat):Prop:=Lm r.l∧Lm r.d∧r.l.length≤k∧r.d.length≤k
abbrev RQ.av (r:RQ):AV:=.agg [.v (.bool r.s),lim r.l,lim r.d]
def RQ.zok (s:Bool) (l:List Nat):Bool:=valL l && !(s && decide (l.length=0))
def RQ.ok (r:RQ):Bool:=RQ.zok r.s r.l && valL r.d && (Nat.gcd (nv r.l) (nv r.d) == 1) && decide (0 < r.d.length)
def RQ.q (r:RQ):Rat:=mkRat (zI r.s (nv r.l)) (nv r.d)
theorem RQ.ok_av {r:RQ} {k:Nat} (hl:r.lm k) (h:r.ok=true):r.av=ratQ r.q∧Sz r.q k:=by
 obtain⟨s,l,d⟩:=r;obtain⟨h1,h2,h3,h4⟩:=hl;simp only [RQ.ok,RQ.zok,Bool.and_eq_true,decide_eq_true_eq,Bool.not_eq_true',beq_iff_eq] at h;obtain⟨⟨⟨⟨v1,v2⟩,v3⟩,v4⟩,v5⟩:=h;have e1:=(Ziq h1).1 v1;have e2:=(Ziq h2).1 v3;simp only [RQ.av,RQ.q] at *;generalize nv l=n at *;generalize nv d=m at *;subst e1;subst e2;have hm:m≠0:=by have:=Zbo.1 v5;omega
 have hs:decide (zI s n < 0)=s:=by
  rw [zI_lt];cases s
  ·rfl
  ·have:(toL n).length≠0:=by simpa using v2
   rw [decide_eq_true (Zbo.1 (by omega))];rfl
 refine⟨?_,Sz.mk (by rw [Zdq];exact h3) h4 (by omega)⟩;rw [Zop _ _ hm,Zdq,v4,Nat.div_one,Nat.div_one,hs]
theorem Zob {a b:Nat}:toL a=toL b↔a=b:=⟨λh=>by rw [←Zat a,h,Zat],λh=>by rw [h]⟩
theorem zRight (s:Bool) (l:List Nat) (hs:l.length≤100000000) (hl:Lm l):Pure Tryz.prog 136 [.agg [.v (.bool s),lim l]] (.v (.bool (RQ.zok s l))):=by
 have cv:=Zp5 l (by omega) hl;unfold RQ.zok;generalize valL l=v at *;cases v
 ·refine Zaa (tok:=0) Tryz.func136 rfl Tryz.ntmps136 Tryz.results136 Tryz.call136 (by rfl) (by simp) ?_;(focus (refine wkvp (w_1 @Bool.false_and) (w_1 cv) ?_;(repeat' first|exact w_t|apply w_l);all_goals intros));simp (disch:=omega) only [go_sem,Bool.false_and]
 ·cases s
  ·refine Zaa (tok:=0) Tryz.func136 rfl Tryz.ntmps136 Tryz.results136 Tryz.call136 (by rfl) (by simp) ?_;(focus (refine wkvp (w_1 @Bool.false_and) (w_1 cv) ?_;(repeat' first|exact w_t|apply w_l);all_goals intros));simp (disch:=omega) only [go_sem,Bool.false_and]
  ·by_cases h0:l.length=0
   ·refine Zaa (tok:=0) Tryz.func136 rfl Tryz.ntmps136 Tryz.results136 Tryz.call136 (by rfl) (by simp) ?_;(focus (refine wkvp (w_2 h0 @Int.natCast_zero) (w_1 cv) ?_;(repeat' first|exact w_t|apply w_l);all_goals intros));simp (disch:=omega) only [go_sem,h0]
   ·refine Zaa (tok:=0) Tryz.func136 rfl Tryz.ntmps136 Tryz.results136 Tryz.call136 (by rfl) (by simp) ?_;(focus (refine wkvp w_t (w_1 cv) ?_;(repeat' first|exact w_t|apply w_l);all_goals intros));simp (disch:=omega) only [go_sem,h0,decide_eq_false h0]
theorem qRight (s:Bool) (l d:List Nat) (h1:Lm l) (h2:Lm d) (h3:l.length≤100000000) (h4:d.length≤100000000):Pure Tryz.prog 81 [.agg [.v (.bool s),lim l,lim d]] (.v (.bool (RQ.ok ⟨s,l,d⟩))):=by
 have cz:=zRight s l h3 h1;have cv:=Zp5 d (by omega) h2;have cg:=refGcd l d (by omega) (by omega) h1 h2
 have hgl:(toL (Nat.gcd (nv l) (nv d))).length≤100000000:=by
  have l1:=Zax h1;have l2:=Zax h2;by_cases hd:nv d=0
  ·rw [hd,Nat.gcd_zero_right];omega
  ·exact Nat.le_trans (Zdl (Nat.gcd_le_right _ (by omega))) (by omega)
 have cs:=refSameN (toL (Nat.gcd (nv l) (nv d))) (toL 1) (by omega) (by rw [Zfw];omega) (Zau _) (Zau _);rw [show decide (toL (Nat.gcd (nv l) (nv d))=toL 1)=(Nat.gcd (nv l) (nv d) == 1) from by rw [Bool.eq_iff_iff,decide_eq_true_eq,beq_iff_eq];exact Zob] at cs;unfold RQ.ok;generalize RQ.zok s l=v at *;simp only;generalize Nat.gcd (nv l) (nv d)=g at *;cases v
 ·refine Zaa (tok:=0) Tryz.func81 rfl Tryz.ntmps81 Tryz.results81 Tryz.call81 (by rfl) (by simp) ?_;(focus (refine wkvp (w_1 @Bool.false_and) (w_1 cz) ?_;(repeat' first|exact w_t|apply w_l);all_goals intros));simp (disch:=omega) only [go_sem,Bool.false_and]
 ·generalize valL d=v at *;cases v
  ·refine Zaa (tok:=0) Tryz.func81 rfl Tryz.ntmps81 Tryz.results81 Tryz.call81 (by rfl) (by simp) ?_;(focus (refine wkvp (w_1 @Bool.false_and) (w_2 cz cv) ?_;(repeat' first|exact w_t|apply w_l);all_goals intros));simp (disch:=omega) only [go_sem,Bool.false_and]
  ·by_cases hg:g=1
   ·have hgb:(g == 1)=true:=by rw [beq_iff_eq];exact hg
    rw [hgb] at cs ⊢;by_cases hd:0 < d.length
    ·rw [decide_eq_true hd];refine Zaa (tok:=0) Tryz.func81 rfl Tryz.ntmps81 Tryz.results81 Tryz.call81 (by rfl) (by simp) ?_;(focus (refine wkvp w_t (w_5 cz cv cg (Zim 1 (by omega)) cs) ?_;(repeat' first|exact w_t|apply w_l);all_goals intros));simp (disch:=omega) only [go_sem]
    ·rw [decide_eq_false hd];refine Zaa (tok:=0) Tryz.func81 rfl Tryz.ntmps81 Tryz.results81 Tryz.call81 (by rfl) (by simp) ?_;(focus (refine wkvp w_t (w_5 cz cv cg (Zim 1 (by omega)) cs) ?_;(repeat' first|exact w_t|apply w_l);all_goals intros));simp (disch:=omega) only [go_sem,Bool.and_false]
   ·have hgb:(g == 1)=false:=by rw [beq_eq_false_iff_ne];exact hg
    rw [hgb] at cs ⊢;refine Zaa (tok:=0) Tryz.func81 rfl Tryz.ntmps81 Tryz.results81 Tryz.call81 (by rfl) (by simp) ?_;(focus (refine wkvp (w_2 @Bool.and_false @Bool.false_and) (w_5 cz cv cg (Zim 1 (by omega)) cs) ?_;(repeat' first|exact w_t|apply w_l);all_goals intros));simp (disch:=omega) only [go_sem,Bool.and_false,Bool.false_and]
section
variable {N n:Nat} {cs:List AV}
theorem agN16:Zf0 Tryz.prog 104=false:=by kernel_rfl
theorem cs16:Tryz.prog.cellsOf 104=1:=by kernel_rfl
theorem shNat (h:Zc1 Tryz.prog N n 40 cs):∃l:List Nat,cs=[lim l]∧Lm l∧l.length≤N:=by
 obtain⟨bs,rfl,hl,hq⟩:=Zd4 (g:=λk:Nat=>[AV.v (.int .u16 (k:Int))]) (Q:=λk=>k < 65536) Tryz.underlying40 h λm x hx=>by
  obtain⟨i,rfl,hw⟩:=Zhk Tryz.underlying104 hx;have:=wf_u16 hw;exact⟨i.toNat,by rw [Int.toNat_of_nonneg this.1],by omega⟩
 refine⟨bs,?_,hq,hl⟩;rw [cs16];have:(bs.map λb:Nat=>Zdf Tryz.prog 104 [AV.v (.int .u16 (b:Int))])=u16s bs:=List.map_congr_left λb _=>Zda agN16 _;rw [this]
theorem shInt (h:Zc1 Tryz.prog N n 42 cs):∃(s:Bool) (l:List Nat),cs=[.v (.bool s),lim l]∧Lm l∧l.length≤N:=by
 obtain⟨m,rfl,hs⟩:=Zf2 Tryz.underlying42 (by kernel_rfl) h;obtain⟨x,y,rfl,h1,hs⟩:=hs.inv;obtain⟨z,y,rfl,h2,hs⟩:=hs.inv;obtain rfl:=hs.inv0;obtain⟨s,rfl⟩:=Zq5 Tryz.underlying4 h1;obtain⟨l,rfl,h3,h4⟩:=shNat h2;exact⟨s,l,rfl,h3,h4⟩
theorem shRat (h:Zc1 Tryz.prog N n 44 cs):∃r:RQ,cs=[.v (.bool r.s),lim r.l,lim r.d]∧r.lm N:=by
 obtain⟨m,rfl,hs⟩:=Zf2 Tryz.underlying44 (by kernel_rfl) h;obtain⟨x,y,rfl,h1,hs⟩:=hs.inv;obtain⟨z,y,rfl,h2,hs⟩:=hs.inv;obtain rfl:=hs.inv0;obtain⟨s,l,rfl,h3,h4⟩:=shInt h1;obtain⟨d,rfl,h5,h6⟩:=shNat h2;exact⟨⟨s,l,d⟩,rfl,h3,h5,h4,h6⟩
structure RP where
 x:RQ
 y:RQ
abbrev RP.av (p:RP):AV:=.agg [.v (.bool p.x.s),lim p.x.l,lim p.x.d,.v (.bool p.y.s),lim p.y.l,lim p.y.d]
def RP.lm (p:RP) (k:Nat):Prop:=p.x.lm k∧p.y.lm k
end
abbrev iv (n:Int):AV:=.v (.int .i64 n)
abbrev strA (s:ByteArray):AV:=.v (.string s)
abbrev ivs (l:List Int):AV:=.sl 1 (l.map iv)
abbrev Vt:=Int × Int × Int
abbrev Vt.av (v:Vt):AV:=.agg [iv v.1,iv v.2.1,iv v.2.2]
theorem getD_mem {α:Type} {l:List α} {j:Nat} {d:α} (h:j < l.length):l.getD j d∈l:=by
 rw [List.getD_eq_getElem?_getD,List.getElem?_eq_getElem h];exact List.getElem_mem h
theorem Zbb {α:Type} (f:α→AV) {l:List α} {k:Nat} (h:k < l.length):(l.map f).getD k .u=f l[k]:=by
 rw [List.getD_eq_getElem?_getD,List.getElem?_map,List.getElem?_eq_getElem h];rfl
theorem szErr:szOf Tryz.prog 27=some 1:=by kernel_rfl
theorem zErr:Zb4 Tryz.prog 27=some (.int .i64 0):=by kernel_rfl
theorem szStr:szOf Tryz.prog 9=some 1:=by kernel_rfl
theorem byStr:Zio Tryz.prog 9=some 16:=by kernel_rfl
theorem zStr:Zb4 Tryz.prog 9=some (.string ByteArray.empty):=by kernel_rfl
theorem Zbq:szOf Tryz.prog 48=some 4:=by kernel_rfl
theorem Zbt:Zio Tryz.prog 48=some 80:=by kernel_rfl
theorem Zcs:Zb4 Tryz.prog 48=some (.agg #[.bool false,.slice none 0 0,.slice none 0 0,.slice none 0 0]):=by kernel_rfl
theorem Zbr:szOf Tryz.prog 23=some 1:=by kernel_rfl
theorem Zbu:Zio Tryz.prog 23=some 24:=by kernel_rfl
theorem Zct:Zb4 Tryz.prog 23=some (.slice none 0 0):=by kernel_rfl
theorem Zbs:szOf Tryz.prog 46=some 1:=by kernel_rfl
theorem Zbv:Zio Tryz.prog 46=some 24:=by kernel_rfl
theorem Zcu:Zb4 Tryz.prog 46=some (.slice none 0 0):=by kernel_rfl
theorem szSlI:szOf Tryz.prog 45=some 1:=by kernel_rfl
theorem zSlI:Zb4 Tryz.prog 45=some (.slice none 0 0):=by kernel_rfl
end Go.Proofs.YtimmnimikmnljaaGreat
namespace Go.Proofs.YtimmnimikmnljaaGreat
open Go Go.RowKit Go.Pg Go.Pol
attribute [-bool_to_prop] Bool.and_eq_decide Bool.or_eq_decide Bool.decide_beq_decide decide_eq_decide
abbrev Tm:=Rat × List Int
abbrev Po:=List Tm
abbrev tmA (t:Tm):AV:=.agg [.v (.bool (decide (t.1.num < 0))),lim (toL t.1.num.natAbs),lim (toL t.1.den),ivs t.2]
abbrev poA (p:Po):AV:=.sl 4 (p.map tmA)
abbrev SrtM (p:Po):Prop:=Srt Can ltM p
abbrev addM (p q:Po):Po:=addP ltM p q
abbrev subM (p q:Po):Po:=subP ltM p q
abbrev mlM (p q:Po):Po:=mulR ltM mulM p q
def sclM (a:Rat) (p:Po):Po:=if a=0 then [] else Zbg a p
def PK (p:Po) (k e:Nat):Prop:=∀t∈p,Sz t.1 k∧t.2.length≤1000∧∀j,0≤gI t.2 j∧gI t.2 j≤(e:Int)
theorem PK.mono {p:Po} {k j e f:Nat} (h:PK p k e) (hk:k≤j) (he:e≤f):PK p j f:=λt ht=>⟨(h t ht).1.mono hk,(h t ht).2.1,λi=>by have:=(h t ht).2.2 i;omega⟩
theorem PK.sm {p:Po} {k e:Nat} (h:PK p k e) (he:e≤16777216) {t:Tm} (ht:t∈p):Sm t.2:=⟨(h t ht).2.1,λi=>by have:=(h t ht).2.2 i;omega⟩
theorem PK.nil {k e:Nat}:PK [] k e:=λt ht=>by simp at ht
theorem PK.tail {t:Tm} {p:Po} {k e:Nat} (h:PK (t :: p) k e):PK p k e:=λu hu=>h u (.tail _ hu)
theorem PK.drop {p:Po} {k e:Nat} (h:PK p k e) (i:Nat):PK (p.drop i) k e:=λu hu=>h u (List.mem_of_mem_drop hu)
theorem PK.add {p q:Po} {j k e:Nat} (hp:PK p j e) (hq:PK q k e):PK (addM p q) (j+k+1) e:=λt ht=>by
 rcases Zht ht with h | h | ⟨s,hs,u,hu,rfl⟩
 ·exact⟨(hp t h).1.mono (by omega),(hp t h).2⟩
 ·exact⟨(hq t h).1.mono (by omega),(hq t h).2⟩
 ·exact⟨(hp s hs).1.add (hq u hu).1,(hp s hs).2⟩
theorem PK.times {p:Po} {t:Tm} {j k e f:Nat} (hp:PK p j e) (ht:PK [t] k f):PK (Zao mulM p t) (j+k) (e+f):=λu hu=>by
 obtain⟨s,hs,rfl⟩:=List.mem_map.1 hu;have h1:=hp s hs;have h2:=ht t (.head _);refine⟨h1.1.mul h2.1,by rw [Zd6];have:=h1.2.1;have:=h2.2.1;omega,λi=>?_⟩;show 0≤gI (mulM s.2 t.2) i∧gI (mulM s.2 t.2) i≤_;rw [Zdi _ rfl];have:=h1.2.2 i;have:=h2.2.2 i;omega
theorem Zh6 {a b:List Int} (ha:Can a) (hb:Can b):(ltM a b∧lexC a b (max a.length b.length)=-1)∨(¬ltM a b∧¬ltM b a∧a=b∧lexC a b (max a.length b.length)=0)∨(ltM b a∧¬ltM a b∧lexC a b (max a.length b.length)=1):=by
 rcases @Zfd a b (max a.length b.length) with⟨h,h2⟩ | h | h
 ·have e:a=b:=Zmj ha hb λj=>by
   by_cases hj:j < max a.length b.length
   ·exact h2 j hj
   ·rw [Zbi (by omega),Zbi (by omega)]
  refine .inr (.inl ⟨?_,?_,e,h⟩)
  ·unfold ltM;rw [h];decide
  ·subst e;unfold ltM;rw [h];decide
 ·exact .inl ⟨h,h⟩
 ·have h3:ltM b a:=by unfold ltM;rw [Nat.max_comm,Zgq,h]
  refine .inr (.inr ⟨h3,?_,h⟩);unfold ltM;rw [h];decide
theorem Zir {l:List Int} (h:Can l):Zcx l=l:=by
 unfold Zcx;rcases h.2 with h0 | h0
 ·have:l=[]:=List.length_eq_zero_iff.1 h0;subst this;rfl
 ·rcases Nat.eq_zero_or_pos l.length with h1 | h1
  ·have:l=[]:=List.length_eq_zero_iff.1 h1;subst this;rfl
  ·rw [Zh0 h1 h0,List.take_length]
theorem can_nil:Can []:=⟨λj=>by rw [Zbi (Nat.zero_le _)];omega,.inl rfl⟩
theorem mulM_nil (a:List Int):mulM a []=a:=by
 refine List.ext_getElem (by rw [Zd6];simp) λj h1 h2=>?_;have:=Zdi (·+·) rfl a [] j;rw [Zfr h1,Zfr h2,Zbi (Nat.zero_le _),Int.add_zero] at this;exact this
theorem Zq1 (p:Po) (a:Rat):Zao mulM p (a,[])=Zbg a p:=by
 unfold Zao Zbg;exact List.map_congr_left λs _=>by rw [mulM_nil]
def Zgx (v:Nat):List Int:=List.replicate v 0++[1]
theorem Zf1 (v:Nat):(Zgx v).length=v+1:=by simp [Zgx]
theorem Zl7 (v j:Nat):gI (Zgx v) j=if j=v then 1 else 0:=by
 by_cases h:j < v+1
 ·rw [Zfr (by rw [Zf1];exact h)];unfold Zgx;rw [List.getElem_append];by_cases hj:j < v
  ·rw [dif_pos (by simpa using hj),List.getElem_replicate,if_neg (by omega)]
  ·rw [dif_neg (by simpa using hj),if_pos (by omega)];simp
 ·rw [Zbi (by rw [Zf1];omega),if_neg (by omega)]
theorem can_unit (v:Nat):Can (Zgx v):=by
 refine⟨λj=>by rw [Zl7];split<;>omega,.inr ?_⟩;rw [Zf1,Zl7,if_pos (by omega)];omega
def varM (v:Nat):Po:=if v < 64 then [(1,Zgx v)] else []
theorem Zpp (v:Nat):SrtM (varM v):=by
 unfold varM;split
 ·exact Srt.nil.cons (by show(1:Rat)≠0;decide) (can_unit v) (by simp)
 ·exact .nil
end Go.Proofs.YtimmnimikmnljaaGreat
namespace Go.Proofs.YtimmnimikmnljaaGreat
open Go Go.RowKit Go.Pg Go.Pol
def dgI (a:List Int):Int:=sumT a a.length
theorem Zlb (a:List Int):∀k,sumT a (a.length+k)=dgI a
 | 0=>rfl
 | k+1=>by show sumT a (a.length+k)+gI a (a.length+k)=_;rw [Zlb a k,Zbi (by omega),Int.add_zero]
theorem Zpv (a b:List Int):∀n,sumT (zipI (·+·) a b) n=sumT a n+sumT b n
 | 0=>rfl
 | n+1=>by
   show sumT (zipI (·+·) a b) n+gI (zipI (·+·) a b) n=(sumT a n+gI a n)+(sumT b n+gI b n);rw [Zpv a b n,Zdi _ rfl];omega
theorem Zt0 (a b:List Int):dgI (mulM a b)=dgI a+dgI b:=by
 show sumT (mulM a b) (mulM a b).length=_;rw [Zd6,Zpv];rcases Nat.le_total a.length b.length with h | h
 ·rw [Nat.max_eq_right h];have:=Zlb a (b.length - a.length);rw [show a.length+(b.length - a.length)=b.length by omega] at this;rw [this];rfl
 ·rw [Nat.max_eq_left h];have:=Zlb b (a.length - b.length);rw [show b.length+(a.length - b.length)=a.length by omega] at this;rw [this];rfl
def ltO (o:Int) (a b:List Int):Prop:=cmpI a b o=-1
instance (o:Int):DecidableRel (ltO o):=λa b=>inferInstanceAs (Decidable (cmpI a b o=-1))
theorem Zf6 {o:Int} {a b:List Int}:ltO o a b↔(o=1∧dgI a < dgI b)∨((o=1→dgI a=dgI b)∧ltM a b):=by
 show cmpI a b o=-1↔_;unfold cmpI;by_cases h:o=1∧sumT a a.length≠sumT b b.length
 ·rw [if_pos h];unfold lt1;constructor
  ·intro g;refine .inl ⟨h.1,?_⟩;by_cases h2:sumT a a.length < sumT b b.length
   ·exact h2
   ·rw [if_neg h2] at g;exact absurd g (by decide)
  ·rintro (⟨_,g⟩ | ⟨g,_⟩)
   ·exact if_pos g
   ·exact absurd (g h.1) h.2
 ·rw [if_neg h];constructor
  ·intro g;exact .inr ⟨λho=>Classical.byContradiction λhn=>h ⟨ho,hn⟩,g⟩
  ·rintro (⟨ho,g⟩ | ⟨_,g⟩)
   ·exact absurd ⟨ho,by unfold dgI at g;omega⟩ h
   ·exact g
theorem Zt6 {o:Int} {a b:List Int}:0 < cmpI a b o↔ltO o b a:=by
 show _↔cmpI b a o=-1;unfold cmpI;by_cases h:o=1∧sumT a a.length≠sumT b b.length
 ·rw [if_pos h,if_pos ⟨h.1,h.2.symm⟩];unfold lt1;have:=h.2;split<;>split<;>omega
 ·rw [if_neg h,if_neg (λg=>h ⟨g.1,g.2.symm⟩),Nat.max_comm b.length,Zgq (b:=b)];rcases @Zfd a b (max a.length b.length) with⟨g,_⟩ | g | g<;>rw [g]<;>decide
theorem ordO (o:Int):KO Can (ltO o) where
 irr x h:=by
  rcases Zf6.1 h with⟨_,h⟩ | ⟨_,h⟩
  ·omega
  ·exact ordM.irr x h
 tr x y z h g:=by
  rw [Zf6] at *;rcases h with⟨h1,h2⟩ | ⟨h1,h2⟩<;>rcases g with⟨g1,g2⟩ | ⟨g1,g2⟩
  ·exact .inl ⟨h1,by omega⟩
  ·exact .inl ⟨h1,by have:=g1 h1;omega⟩
  ·exact .inl ⟨g1,by have:=h1 g1;omega⟩
  ·exact .inr ⟨λho=>by have:=h1 ho;have:=g1 ho;omega,ordM.tr x y z h2 g2⟩
 tri x y hx hy:=by
  rw [Zf6,Zf6];by_cases ho:o=1
  ·rcases Int.lt_trichotomy (dgI x) (dgI y) with h | h | h
   ·exact .inl (.inl ⟨ho,h⟩)
   ·rcases ordM.tri x y hx hy with g | g | g
    ·exact .inl (.inr ⟨λ_=>h,g⟩)
    ·exact .inr (.inl g)
    ·exact .inr (.inr (.inr ⟨λ_=>h.symm,g⟩))
   ·exact .inr (.inr (.inl ⟨ho,h⟩))
  ·rcases ordM.tri x y hx hy with g | g | g
   ·exact .inl (.inr ⟨λh=>absurd h ho,g⟩)
   ·exact .inr (.inl g)
   ·exact .inr (.inr (.inr ⟨λh=>absurd h ho,g⟩))
theorem ltO_mul {o:Int} {x y:List Int} (z:List Int) (hx:Can x) (hy:Can y) (hz:Can z) (h:ltO o x y):ltO o (mulM x z) (mulM y z):=by
 rw [Zf6] at *;rw [Zt0,Zt0];rcases h with⟨h1,h2⟩ | ⟨h1,h2⟩
 ·exact .inl ⟨h1,by omega⟩
 ·exact .inr ⟨λho=>by have:=h1 ho;omega,mulK.mono x y z hx hy hz h2⟩
theorem Zhe {p:Po} (h:SrtM p) {t:Tm} (ht:t∈p):cof p t.2=t.1:=by
 induction p with
 | nil=>cases ht
 | cons s p ih =>
   rcases List.mem_cons.1 ht with rfl | ht
   ·exact Zft ordM h
   ·show(if s.2=t.2 then s.1 else 0)+cof p t.2=t.1;have hl:=h.head_lt t ht;rw [if_neg (λe=>by rw [e] at hl;exact ordM.irr _ hl),Rat.zero_add];exact ih h.tail ht
theorem Zjp {p:Po} {x:List Int} (h:cof p x≠0):∃t∈p,t.2=x:=by
 induction p with
 | nil=>exact absurd rfl h
 | cons s p ih =>
   by_cases e:s.2=x
   ·exact⟨s,.head _,e⟩
   ·obtain⟨t,ht,e2⟩:=ih (λg=>h (by show(if s.2=x then s.1 else 0)+cof p x=0;rw [if_neg e,g,Rat.zero_add]));exact⟨t,.tail _ ht,e2⟩
def ldF (o:Int) (m u:Tm):Tm:=if 0 < cmpI u.2 m.2 o then u else m
def ldO (o:Int):Po→Tm
 | []=>(0,[])
 | t :: p=>p.foldl (ldF o) t
theorem Zl2 (o:Int):∀(p:Po) (t:Tm),Can t.2→(∀u∈p,Can u.2)→(p.foldl (ldF o) t=t∨p.foldl (ldF o) t∈p)∧(∀u,u=t∨u∈p→u.2=(p.foldl (ldF o) t).2∨ltO o u.2 (p.foldl (ldF o) t).2)
 | [],t,_,_=>⟨.inl rfl,λu hu=>by rcases hu with rfl | hu;exact .inl rfl;cases hu⟩
 | s :: p,t,h1,h2=>by
   have hs:=h2 s (.head _)
   have key:Can (ldF o t s).2∧(ldF o t s=t∨ldF o t s=s)∧(t.2=(ldF o t s).2∨ltO o t.2 (ldF o t s).2)∧(s.2=(ldF o t s).2∨ltO o s.2 (ldF o t s).2):=by
    unfold ldF;by_cases h:0 < cmpI s.2 t.2 o
    ·rw [if_pos h];exact⟨hs,.inr rfl,.inr (Zt6.1 h),.inl rfl⟩
    ·rw [if_neg h];refine⟨h1,.inl rfl,.inl rfl,?_⟩;rcases (ordO o).tri s.2 t.2 hs h1 with g | g | g
     ·exact .inr g
     ·exact .inl g
     ·exact absurd (Zt6.2 g) h
   obtain⟨k1,k2,k3,k4⟩:=key;obtain⟨i1,i2⟩:=Zl2 o p (ldF o t s) k1 λu hu=>h2 u (.tail _ hu);show(p.foldl (ldF o) (ldF o t s)=t∨p.foldl (ldF o) (ldF o t s)∈s :: p)∧_
   have up:∀u:Tm,(u.2=(ldF o t s).2∨ltO o u.2 (ldF o t s).2)→u.2=(p.foldl (ldF o) (ldF o t s)).2∨ltO o u.2 (p.foldl (ldF o) (ldF o t s)).2:=by
    intro u hu;have hm:=i2 (ldF o t s) (.inl rfl);rcases hu with hu | hu
    ·rw [hu];exact hm
    ·rcases hm with hm | hm
     ·rw [←hm];exact .inr hu
     ·exact .inr ((ordO o).tr _ _ _ hu hm)
   refine⟨?_,λu hu=>?_⟩
   ·rcases i1 with i1 | i1
    ·rw [i1];rcases k2 with k2 | k2
     ·exact .inl k2
     ·rw [k2];exact .inr (.head _)
    ·exact .inr (.tail _ i1)
   ·rcases hu with rfl | hu
    ·exact up _ k3
    ·rcases List.mem_cons.1 hu with rfl | hu
     ·exact up _ k4
     ·exact i2 u (.inr hu)
theorem Zez {o:Int} {p:Po} (h:SrtM p) (h0:p≠[]):ldO o p∈p:=by
 cases p with
 | nil=>exact absurd rfl h0
 | cons t p =>
   rcases (Zl2 o p t (h.1 t (.head _)).2 λu hu=>(h.1 u (.tail _ hu)).2).1 with g | g
   ·show p.foldl (ldF o) t∈_;rw [g];exact .head _
   ·exact .tail _ g
theorem Zth {o:Int} {p:Po} (h:SrtM p) {u:Tm} (hu:u∈p):u.2=(ldO o p).2∨ltO o u.2 (ldO o p).2:=by
 cases p with
 | nil=>cases hu
 | cons t p=>exact(Zl2 o p t (h.1 t (.head _)).2 λu hu=>(h.1 u (.tail _ hu)).2).2 u (List.mem_cons.1 hu)
theorem Zpx {o:Int} {p q:Po} (hp:SrtM p) (hq:SrtM q) (h0:p≠[]) (hm:∀u∈q,u.2=(ldO o p).2∨ltO o u.2 (ldO o p).2) (hc:cof q (ldO o p).2=(ldO o p).1):∀v∈subM p q,ltO o v.2 (ldO o p).2:=by
 intro v hv;have hs:=Zoe ordM hp hq;have c1:=Zhe hs hv;have c2:=Zlc ordM hp hq v.2;have hv0:=(hs.1 v hv).1;have ht:=Zez (o:=o) hp h0;have ct:=Zhe hp ht;have hne:v.2≠(ldO o p).2:=λe=>by
  rw [e,ct,hc,Rat.sub_self] at c2;rw [e,c2] at c1;exact hv0 c1.symm
 by_cases g:cof p v.2=0
 ·have:cof q v.2≠0:=λg2=>by rw [g,g2,Rat.sub_self] at c2;rw [c2] at c1;exact hv0 c1.symm
  obtain⟨u,hu,e⟩:=Zjp this;rw [←e] at hne ⊢;exact(hm u hu).resolve_left hne
 ·obtain⟨u,hu,e⟩:=Zjp g;rw [←e] at hne ⊢;exact(Zth hp hu).resolve_left hne
theorem Zg8 (l:List Int):∀n,Zdj l n≤n∧(∀j,Zdj l n≤j→j < n→gI l j=0)∧(Zdj l n=0∨gI l (Zdj l n - 1)≠0)
 | 0=>⟨Nat.le_refl _,λj _ h=>absurd h (by omega),.inl rfl⟩
 | n+1=>by
   obtain⟨h1,h2,h3⟩:=Zg8 l n;simp only [Zdj];by_cases h:gI l n=0
   ·rw [if_pos h];refine⟨by omega,λj a b=>?_,h3⟩;by_cases e:j=n
    ·rw [e];exact h
    ·exact h2 j a (by omega)
   ·rw [if_neg h];exact⟨Nat.le_refl _,λj a b=>absurd a (by omega),.inr h⟩
theorem gI_tk (l:List Int) {n j:Nat} (h:j < n):gI (l.take n) j=gI l j:=by
 unfold gI;simp only [List.getD_eq_getElem?_getD];rw [List.getElem?_take_of_lt h]
theorem Zoa (l:List Int) (j:Nat):gI (Zcx l) j=gI l j:=by
 obtain⟨h1,h2,_⟩:=Zg8 l l.length;unfold Zcx;by_cases h:j < Zdj l l.length
 ·exact gI_tk l h
 ·rw [Zbi (by rw [List.length_take];omega)];by_cases g:j < l.length
  ·rw [h2 j (by omega) g]
  ·rw [Zbi (by omega)]
theorem trim_Can {l:List Int} (h:∀j,0≤gI l j):Can (Zcx l):=by
 refine⟨λj=>by rw [Zoa];exact h j,?_⟩;obtain⟨h1,_,h3⟩:=Zg8 l l.length;have e:(Zcx l).length=Zdj l l.length:=by unfold Zcx;rw [List.length_take];omega
 rw [e,Zoa];exact h3
theorem Zmd {a b:List Int} (ha:Can a) (hb:Can b):divI b a=true↔∀j,gI b j≤gI a j:=by
 unfold divI;rw [List.all_eq_true];constructor
 ·intro h j;by_cases g:j < b.length
  ·simpa using h j (List.mem_range.2 g)
  ·rw [Zbi (l:=b) (by omega)];exact ha.1 j
 ·intro h j _;simpa using h j
theorem Zqb {a b:List Int} (h:divI b a=true) (j:Nat):gI (quoI a b) j=gI a j - gI b j:=by
 unfold quoI;rw [if_pos h,Zoa,Zdi _ rfl]
theorem Zor {a b:List Int} (ha:Can a) (hb:Can b) (h:divI b a=true):Can (quoI a b):=by
 unfold quoI;rw [if_pos h];refine trim_Can λj=>?_;rw [Zdi _ rfl];have:=(Zmd ha hb).1 h j;omega
theorem Zqa {a b:List Int} (ha:Can a) (hb:Can b) (h:divI b a=true):mulM b (quoI a b)=a :=
 Zmj (mulK.dom _ _ hb (Zor ha hb h)) ha λj=>by rw [Zdi _ rfl,Zqb h];omega
theorem quoR_quo {a b:List Int} (ha:Can a) (hb:Can b):quoR a b=quoI a b:=by
 by_cases h:divI b a=true
 ·have hl:b.length≤a.length:=by
   rcases hb.2 with g | g
   ·omega
   ·refine Classical.byContradiction λn=>g ?_;have h1:=(Zmd ha hb).1 h (b.length - 1);rw [Zbi (l:=a) (by omega)] at h1;have h2:=hb.1 (b.length - 1);omega
  unfold quoR quoI;rw [if_pos h,if_pos h];show Zcx _=Zcx ((List.range (max a.length b.length)).map λi=>gI a i - gI b i);rw [Nat.max_eq_left hl]
 ·unfold quoR quoI;rw [if_neg h,if_neg h]
theorem BQ.szk {D B k:Nat} {q:Rat} (h:BQ D B q) (h0:0 < D) (hD:D < 65536 ^ k) (hB:B*D < 65536 ^ k):Sz q k:=by
 have h1:=Nat.le_of_dvd h0 h.1;have h2:B*q.den≤B*D:=Nat.mul_le_mul_left _ h1;have h3:=h.2;exact⟨Zai.2 (by omega),Zai.2 (by omega)⟩
theorem sz_bq {q:Rat} {k:Nat} (h:Sz q k):q.den < 65536 ^ k∧BQ q.den (65536 ^ k) q:=by
 have h1:=Zai.1 h.1;have h2:=Zai.1 h.2;refine⟨h2,Nat.dvd_refl _,?_⟩;have:=Nat.mul_le_mul_left (65536 ^ k) (Rat.den_pos q);omega
theorem Zme {k:Nat}:∀(p:Po),(∀t∈p,Sz t.1 k)→∃D,0 < D∧D≤65536 ^ (k*p.length)∧∀t∈p,BQ D (65536 ^ k) t.1
 | [],_=>⟨1,by omega,Nat.pow_pos (by omega),λt h=>absurd h (by simp)⟩
 | t :: p,h=>by
   obtain⟨D,h1,h2,h3⟩:=Zme p λu hu=>h u (.tail _ hu);obtain⟨g1,g2⟩:=sz_bq (h t (.head _));refine⟨t.1.den*D,Nat.mul_pos (Rat.den_pos _) h1,?_,λu hu=>?_⟩
   ·rw [List.length_cons,Nat.mul_succ,Nat.pow_add,Nat.mul_comm];exact Nat.mul_le_mul h2 (Nat.le_of_lt g1)
   ·rcases List.mem_cons.1 hu with rfl | hu
    ·exact g2.mono (Nat.dvd_mul_right _ _) (Nat.le_refl _)
    ·exact(h3 u hu).mono (Nat.dvd_mul_left _ _) (Nat.le_refl _)
theorem inv_bq {q:Rat} {k:Nat} (h:Sz q k) (h0:q≠0):∃E,0 < E∧E≤65536 ^ k∧BQ E (65536 ^ k) q⁻¹:=by
 obtain⟨g1,g2⟩:=sz_bq h.inv;exact⟨q⁻¹.den,Rat.den_pos _,Nat.le_of_lt g1,g2⟩
theorem den_div {p:Po} {k n:Nat} (h:∀t∈p,Sz t.1 k) (hn:p.length≤n) {q:Rat} (hq:Sz q k) (h0:q≠0):∃D,0 < D∧D≤65536 ^ (k*n+k)∧(∀t∈p,BQ D (65536 ^ (2*k)) (t.1/q))∧BQ D (65536 ^ (2*k)) q⁻¹:=by
 obtain⟨D,a1,a2,a3⟩:=Zme p h;obtain⟨E,b1,b2,b3⟩:=inv_bq hq h0;refine⟨D*E,Nat.mul_pos a1 b1,?_,λt ht=>?_,b3.mono (Nat.dvd_mul_left _ _) (Nat.pow_le_pow_right (by omega) (by omega))⟩
 ·rw [Nat.pow_add];exact Nat.mul_le_mul (Nat.le_trans a2 (Nat.pow_le_pow_right (by omega) (Nat.mul_le_mul_left _ hn))) b2
 ·rw [Rat.div_def];exact((a3 t ht).mul b3).mono (Nat.dvd_refl _) (by rw [←Nat.pow_add];exact Nat.pow_le_pow_right (by omega) (by omega))
def CQ (p:Po) (D B:Nat):Prop:=∀t∈p,BQ D B t.1
theorem CQ.sub {p q:Po} {D B C:Nat} (h:CQ p D B) (g:CQ q D C):CQ (subM p q) D (B+C):=by
 intro t ht;rcases Zht ht with h1 | h1 | ⟨s,hs,u,hu,rfl⟩
 ·exact(h t h1).mono (Nat.dvd_refl _) (by omega)
 ·obtain⟨u,hu,rfl⟩:=List.mem_map.1 h1;show BQ _ _ (u.1*-1);rw [Rat.mul_neg,Rat.mul_one];exact(g u hu).neg.mono (Nat.dvd_refl _) (by omega)
 ·obtain⟨v,hv,rfl⟩:=List.mem_map.1 hu;show BQ _ _ (s.1+v.1*-1);rw [Rat.mul_neg,Rat.mul_one];exact(h s hs).add (g v hv).neg
theorem CQ.step {p b:Po} {D B E F:Nat} {t f:Tm} {L:Rat} (h:CQ p D B) (ht:t∈p) (hb:∀s∈b,BQ E F (s.1/L)) (hf:f.1=t.1/L):CQ (subM p (Zao mulM b f)) (D*E) (B+B*F):=by
 refine CQ.sub (λu hu=>(h u hu).mono (Nat.dvd_mul_right _ _) (Nat.le_refl _)) λu hu=>?_;obtain⟨s,hs,rfl⟩:=List.mem_map.1 hu;show BQ _ _ (s.1*f.1);have e:s.1*f.1=t.1*(s.1/L):=by rw [hf,Rat.div_def,Rat.div_def,←Rat.mul_assoc,Rat.mul_comm s.1,Rat.mul_assoc]
 rw [e];exact(h t ht).mul (hb s hs)
theorem dg3 {m:List Int} (h:m.length≤3):dgI m=gI m 0+gI m 1+gI m 2:=by
 have:=Zlb m (3 - m.length);rw [show m.length+(3 - m.length)=3 by omega] at this;rw [←this];show((0+gI m 0)+gI m 1)+gI m 2=_;omega
def wtO (m:List Int):Int:=gI m 0+2*gI m 1+4*gI m 2
theorem wt_mul (a b:List Int):wtO (mulM a b)=wtO a+wtO b:=by
 unfold wtO;rw [Zdi _ rfl,Zdi _ rfl,Zdi _ rfl];omega
def Bx (o:Int) (m:List Int):Prop:=m.length≤3∧(o=1→dgI m≤4)∧(o≠1→wtO m≤16)
theorem Bx.e {o:Int} {m:List Int} (h:Bx o m) (c:Can m) (j:Nat):gI m j≤16:=by
 obtain⟨h1,h2,h3⟩:=h;rw [dg3 h1] at h2;unfold wtO at h3;have c0:=c.1 0;have c1:=c.1 1;have c2:=c.1 2
 have key:gI m 0≤16∧gI m 1≤16∧gI m 2≤16:=by
  by_cases ho:o=1
  ·have:=h2 ho;omega
  ·have:=h3 ho;omega
 match j with
 | 0=>exact key.1
 | 1=>exact key.2.1
 | 2=>exact key.2.2
 | j+3=>rw [Zbi (by omega)];omega
theorem bx_start {o:Int} {m:List Int} (hl:m.length≤3) (c:Can m) (h:dgI m≤4):Bx o m:=by
 refine⟨hl,λ_=>h,λ_=>?_⟩;rw [dg3 hl] at h;unfold wtO;have c0:=c.1 0;have c1:=c.1 1;have c2:=c.1 2;omega
theorem bx_step {o:Int} {s l m:List Int} (hs:s.length≤3) (hl:l.length≤3) (cs:Can s) (cl:Can l) (ds:dgI s≤2) (dl:dgI l≤2) (h:s=l∨ltO o s l) (g:Bx o (mulM l m)):Bx o (mulM s m):=by
 obtain⟨g1,g2,g3⟩:=g;rw [Zd6] at g1;refine⟨by rw [Zd6];omega,λho=>?_,λho=>?_⟩
 ·have:=g2 ho;rw [Zt0] at *;rcases h with rfl | h
  ·exact this
  ·rcases Zf6.1 h with⟨_,h⟩ | ⟨h,_⟩
   ·omega
   ·have:=h ho;omega
 ·have:=g3 ho;rw [wt_mul] at *;rcases h with rfl | h
  ·exact this
  ·rcases Zf6.1 h with⟨h,_⟩ | ⟨_,h⟩
   ·exact absurd h ho
   ·obtain⟨k,h1,h2⟩:=Zf7.1 h;rw [dg3 hs] at ds;rw [dg3 hl] at dl;unfold wtO at *;have a0:=cs.1 0;have a1:=cs.1 1;have a2:=cs.1 2;have b0:=cl.1 0;have b1:=cl.1 1;have b2:=cl.1 2
    match k with
    | 0=>have:=h2 1 (by omega);have:=h2 2 (by omega);omega
    | 1=>have:=h2 2 (by omega);omega
    | 2=>omega
    | k+3=>rw [Zbi (l:=s) (by omega),Zbi (l:=l) (by omega)] at h1;omega
def enO (o:Int) (m:List Int):Nat:=((if o=1 then dgI m*4913 else 0)+gI m 0+17*gI m 1+289*gI m 2).toNat
theorem en_le {o:Int} {m:List Int} (h:Bx o m) (c:Can m):enO o m≤20808:=by
 obtain⟨h1,h2,h3⟩:=h;have d:=dg3 h1;unfold wtO at h3;unfold enO;have c0:=c.1 0;have c1:=c.1 1;have c2:=c.1 2;by_cases ho:o=1
 ·rw [if_pos ho];have:=h2 ho;omega
 ·rw [if_neg ho];have:=h3 ho;omega
theorem en_lt {o:Int} {a b:List Int} (ha:Bx o a) (hb:Bx o b) (ca:Can a) (cb:Can b) (h:ltO o a b):enO o a < enO o b:=by
 have x0:=ha.e ca 0;have x1:=ha.e ca 1;have x2:=ha.e ca 2;have y0:=hb.e cb 0;have y1:=hb.e cb 1;have y2:=hb.e cb 2;have a0:=ca.1 0;have a1:=ca.1 1;have a2:=ca.1 2;have b0:=cb.1 0;have b1:=cb.1 1;have b2:=cb.1 2;have da:=dg3 ha.1;have db:=dg3 hb.1;have lex:ltM a b→gI a 0+17*gI a 1+289*gI a 2 < gI b 0+17*gI b 1+289*gI b 2:=λh=>by
  obtain⟨k,h1,h2⟩:=Zf7.1 h
  match k with
  | 0=>have:=h2 1 (by omega);have:=h2 2 (by omega);omega
  | 1=>have:=h2 2 (by omega);omega
  | 2=>omega
  | k+3=>rw [Zbi (l:=a) (by have:=ha.1;omega),Zbi (l:=b) (by have:=hb.1;omega)] at h1;omega
 unfold enO;rcases Zf6.1 h with⟨ho,h⟩ | ⟨ho,h⟩
 ·rw [if_pos ho,if_pos ho];omega
 ·have:=lex h;by_cases o1:o=1
  ·rw [if_pos o1,if_pos o1];have:=ho o1;omega
  ·rw [if_neg o1,if_neg o1];omega
def Zet (o:Int) (t:Tm) (b:Po):Option Tm:=if divI (ldO o b).2 t.2=true then some (t.1/(ldO o b).1,quoI t.2 (ldO o b).2) else none
def fstO (o:Int) (t:Tm):List Po→Option (Nat × Tm)
 | []=>none
 | b :: bs=>match Zet o t b with
   | some f=>some (0,f)
   | none=>(fstO o t bs).map λr=>(r.1+1,r.2)
theorem Zqq {o:Int} {t:Tm}:∀{bs:List Po},(∀b∈bs,Zet o t b=none)→fstO o t bs=none
 | [],_=>rfl
 | b :: bs,h=>by
   simp only [fstO,h b (.head _),Zqq λc hc=>h c (.tail _ hc),Option.map_none]
theorem fst_at {o:Int} {t f:Tm}:∀{bs:List Po} {i:Nat},(∀j,j < i→Zet o t (bs.getD j [])=none)→i < bs.length→Zet o t (bs.getD i [])=some f→fstO o t bs=some (i,f)
 | [],i,_,h,_=>absurd h (by simp)
 | b :: bs,0,_,_,h=>by
   have h':Zet o t b=some f:=h;simp only [fstO,h']
 | b :: bs,i+1,h1,h2,h3=>by
   have h':Zet o t b=none:=h1 0 (by omega);have h4:=fst_at (bs:=bs) (i:=i) (λj hj=>h1 (j+1) (by omega)) (by simpa using h2) h3;simp only [fstO,h',h4,Option.map_some]
theorem Zl8 {o:Int} {t f:Tm}:∀{bs:List Po} {i:Nat},fstO o t bs=some (i,f)→i < bs.length∧Zet o t (bs.getD i [])=some f
 | [],i,h=>by simp [fstO] at h
 | b :: bs,i,h=>by
   simp only [fstO] at h
   cases e:Zet o t b with
   | some g =>
     rw [e] at h;simp only [Option.some.injEq,Prod.mk.injEq] at h;obtain⟨h1,h2⟩:=h;subst h1 h2;exact⟨by simp,e⟩
   | none =>
     rw [e] at h;simp only at h
     cases e2:fstO o t bs with
     | none=>rw [e2] at h;simp at h
     | some r =>
       rw [e2] at h;obtain⟨k,g⟩:=r;simp only [Option.map_some,Option.some.injEq,Prod.mk.injEq] at h;obtain⟨h1,h2⟩:=h;subst h1 h2;obtain⟨h3,h4⟩:=Zl8 e2;exact⟨by simpa using h3,h4⟩
theorem fst_no {o:Int} {t:Tm}:∀{bs:List Po},fstO o t bs=none→∀b∈bs,Zet o t b=none
 | [],_,b,hb=>by cases hb
 | b :: bs,h,c,hc=>by
   simp only [fstO] at h
   cases e:Zet o t b with
   | some g=>rw [e] at h;simp at h
   | none =>
     rw [e] at h;simp only [Option.map_eq_none_iff] at h;rcases List.mem_cons.1 hc with rfl | hc
     ·exact e
     ·exact fst_no h c hc
def bigP (p:Po):Bool:=decide (4000 < p.length) || p.any λt=>t.2.any λx=>decide (1048576 < x)
structure DS where
 p:Po
 q:List Po
 r:Po
def Ze2 (o:Int) (bs:List Po) (s:DS):Option DS :=
 match fstO o (ldO o s.p) bs with
 | some (i,f)=>if bigP (subM s.p (mlM [f] (bs.getD i []))) || bigP (addM (s.q.getD i []) [f]) then none else some ⟨subM s.p (mlM [f] (bs.getD i [])),s.q.set i (addM (s.q.getD i []) [f]),s.r⟩
 | none=>if bigP (addM s.r [ldO o s.p]) then none else some ⟨subM s.p [ldO o s.p],s.q,addM s.r [ldO o s.p]⟩
def Zkh (o:Int) (bs:List Po):Nat→DS→Option DS
 | 0,s=>some s
 | n+1,s=>if s.p=[] then some s else (Ze2 o bs s).bind (Zkh o bs n)
def dvM (o:Int) (s:DS):Nat:=if s.p=[] then 0 else enO o (ldO o s.p).2+1
theorem Ztb {f:Tm} {b:Po} (hb:SrtM b) (h0:f.1≠0) (hc:Can f.2):mlM [f] b=Zao mulM b f:=by
 have hs:SrtM [f]:=Srt.cons .nil h0 hc (by simp);have:=Znj ordM mulK hs hb;show mulR ltM mulM [f] b=_;rw [this];show addM [] (Zao mulM b f)=_;simp [addP]
theorem mulM_e {a:List Int} (h:Can a):mulM a []=a:=Zmj (mulK.dom _ _ h ⟨λj=>by rw [Zbi (by simp)];omega,.inl rfl⟩) h λj=>by rw [Zdi _ rfl,Zbi (l:=[]) (by simp)];omega
theorem add_new {q:Po} {f:Tm} (hq:SrtM q) (hf:SrtM [f]) (hn:∀s∈q,s.2≠f.2) {t:Tm} (ht:t∈addM q [f]):t∈q∨t=f:=by
 have hs:=Zd8 ordM hq hf;have c:=Zhe hs ht;rw [show cof (addM q [f]) t.2=cof q t.2+cof [f] t.2 from Zgu ordM t.2 hq.dom hf.dom] at c;have cf:cof [f] t.2=if f.2=t.2 then f.1 else 0:=by show(if f.2=t.2 then f.1 else 0)+0=_;rw [Rat.add_zero]
 rw [cf] at c;by_cases e:f.2=t.2
 ·rw [if_pos e] at c;have z:cof q t.2=0:=Classical.byContradiction λh=>by
   obtain⟨s,h1,h2⟩:=Zjp h;exact hn s h1 (by rw [h2,e])
  rw [z,Rat.zero_add] at c;exact .inr (Prod.ext c.symm e.symm)
 ·rw [if_neg e,Rat.add_zero] at c;obtain⟨s,h1,h2⟩:=Zjp (p:=q) (x:=t.2) (by rw [c];exact(hs.1 t ht).1);have:=Zhe hq h1;rw [h2,c] at this;exact .inl (by rw [show t=s from Prod.ext this h2.symm];exact h1)
structure BO (b:Po):Prop where
 s:SrtM b
 n:b≠[]
 l:b.length≤4
 z:∀t∈b,Sz t.1 1
 x:∀t∈b,t.2.length≤3∧dgI t.2≤2
structure QO (o:Int) (p:Po) (l:List Int) (k D B:Nat) (q:Po):Prop where
 s:SrtM q
 z:CQ q D B
 x:∀t∈q,t.2.length≤3∧∀j,gI t.2 j≤16
 n:q.length≤k
 g:∀t∈q,∀u∈p,ltO o u.2 (mulM t.2 l)
structure DI (o:Int) (bs:List Po) (k:Nat) (s:DS):Prop where
 sp:SrtM s.p
 bp:∀t∈s.p,Bx o t.2
 lp:s.p.length≤8+4*k
 lq:s.q.length=bs.length
 hd:∀t∈s.r,∀b∈bs,divI (ldO o b).2 t.2=false
 c:∃D,0 < D∧D≤65536 ^ (8+5*k)∧CQ s.p D (65536 ^ (1+3*k))∧(∀i,i < bs.length→QO o s.p (ldO o (bs.getD i [])).2 k D (65536 ^ (1+3*k)) (s.q.getD i []))∧QO o s.p [] k D (65536 ^ (1+3*k)) s.r
theorem bqSz {D k:Nat} {q:Rat} (h:BQ D (65536 ^ (1+3*k)) q) (h1:0 < D) (h2:D≤65536 ^ (8+5*k)):Sz q (10+8*k):=by
 refine BQ.szk h h1 (Nat.lt_of_le_of_lt h2 (Nat.pow_lt_pow_right (by omega) (by omega))) (Nat.lt_of_le_of_lt (Nat.mul_le_mul_left _ h2) ?_);rw [←Nat.pow_add];exact Nat.pow_lt_pow_right (by omega) (by omega)
theorem DI.sz {o:Int} {bs:List Po} {k:Nat} {s:DS} (h:DI o bs k s):∀t∈s.p,Sz t.1 (10+8*k):=by
 obtain⟨D,h1,h2,h3,_⟩:=h.c;exact λt ht=>bqSz (h3 t ht) h1 h2
theorem DI.pk {o:Int} {bs:List Po} {k:Nat} {s:DS} (h:DI o bs k s):PK s.p (10+8*k) 16:=λt ht =>
 ⟨h.sz t ht,by have:=(h.bp t ht).1;omega,λj=>⟨(h.sp.dom t ht).1 j,(h.bp t ht).e (h.sp.dom t ht) j⟩⟩
theorem QO.pk {o:Int} {p:Po} {l:List Int} {k D:Nat} {q:Po} (h:QO o p l k D (65536 ^ (1+3*k)) q) (h1:0 < D) (h2:D≤65536 ^ (8+5*k)):PK q (10+8*k) 16:=λt ht =>
 ⟨bqSz (h.z t ht) h1 h2,by have:=(h.x t ht).1;omega,λj=>⟨(h.s.dom t ht).1 j,(h.x t ht).2 j⟩⟩
theorem DI.pq {o:Int} {bs:List Po} {k:Nat} {s:DS} (h:DI o bs k s) {i:Nat} (hi:i < bs.length):SrtM (s.q.getD i [])∧PK (s.q.getD i []) (10+8*k) 16∧(s.q.getD i []).length≤k:=by
 obtain⟨D,h1,h2,_,h4,_⟩:=h.c;exact⟨(h4 i hi).s,(h4 i hi).pk h1 h2,(h4 i hi).n⟩
theorem DI.pr {o:Int} {bs:List Po} {k:Nat} {s:DS} (h:DI o bs k s):SrtM s.r∧PK s.r (10+8*k) 16∧s.r.length≤k:=by
 obtain⟨D,h1,h2,_,_,h5⟩:=h.c;exact⟨h5.s,h5.pk h1 h2,h5.n⟩
theorem QO.mono {o:Int} {p p':Po} {l:List Int} {k i D B E C:Nat} {q:Po} (h:QO o p l k D B q) (hk:k≤i) (hD:D ∣ E) (hB:B≤C) {m:Tm} (hm:m∈p) (hp:∀u∈p',ltO o u.2 m.2):QO o p' l i E C q :=
 ⟨h.s,λt ht=>(h.z t ht).mono hD hB,h.x,Nat.le_trans h.n hk,λt ht u hu=>(ordO o).tr _ _ _ (hp u hu) (h.g t ht m hm)⟩
theorem QO.mem {o:Int} {p:Po} {l:List Int} {k D B:Nat} {q:Po} (h:QO o p l k D B q) {m f:Tm} (hm:m∈p) (h0:f.1≠0) (hc:Can f.2) (he:mulM f.2 l=m.2):∀t∈addM q [f],t∈q∨t=f:=λt ht =>
 add_new h.s (Srt.cons .nil h0 hc (by simp)) (λs hs e=>by
  have:=h.g s hs m hm;rw [e,he] at this;exact(ordO o).irr _ this) ht
theorem QO.add {o:Int} {p p':Po} {l:List Int} {k D B E C:Nat} {q:Po} (h:QO o p l k D B q) (hD:D ∣ E) (hB:B≤C) {m f:Tm} (hm:m∈p) (hp:∀u∈p',ltO o u.2 m.2) (h0:f.1≠0) (hc:Can f.2) (hk:BQ E C f.1) (hx:f.2.length≤3∧∀j,gI f.2 j≤16) (he:mulM f.2 l=m.2):QO o p' l (k+1) E C (addM q [f]):=by
 have hf:SrtM [f]:=Srt.cons .nil h0 hc (by simp);have mem:=h.mem hm h0 hc he;refine⟨Zd8 ordM h.s hf,λt ht=>?_,λt ht=>?_,?_,λt ht u hu=>?_⟩
 ·rcases mem t ht with g | rfl
  ·exact(h.z t g).mono hD hB
  ·exact hk
 ·rcases mem t ht with g | rfl
  ·exact h.x t g
  ·exact hx
 ·have:=Ziy (lt:=ltM) q [f];have:=h.n;show(addP ltM q [f]).length≤_;simp only [List.length_singleton] at *;omega
 ·rcases mem t ht with g | rfl
  ·exact(ordO o).tr _ _ _ (hp u hu) (h.g t g m hm)
  ·rw [he];exact hp u hu
theorem getD_set {α:Type} (l:List α) (i j:Nat) (x d:α) (h:i < l.length):(l.set i x).getD j d=if j=i then x else l.getD j d:=by
 simp only [List.getD_eq_getElem?_getD,List.getElem?_set];by_cases e:i=j
 ·subst e;rw [if_pos rfl,if_pos rfl,if_pos h];rfl
 ·rw [if_neg e,if_neg (λg=>e g.symm)]
theorem dvM_lt {o:Int} {s s':DS} (hs:SrtM s.p) (hb:∀t∈s.p,Bx o t.2) (hs':SrtM s'.p) (hb':∀t∈s'.p,Bx o t.2) (h0:s.p≠[]) (h:∀u∈s'.p,ltO o u.2 (ldO o s.p).2):dvM o s' < dvM o s:=by
 unfold dvM;rw [if_neg h0];by_cases e:s'.p=[]
 ·rw [if_pos e];omega
 ·rw [if_neg e];have m:=Zez (o:=o) hs h0;have m':=Zez (o:=o) hs' e;have:=en_lt (hb' _ m') (hb _ m) (hs'.dom _ m') (hs.dom _ m) (h _ m');omega
theorem Zpl {o:Int} {p b:Po} {f:Tm} {k:Nat} (hp:SrtM p) (h0:p≠[]) (hb:BO b) (hx:∀t∈p,Bx o t.2) (hz:∀t∈p,Sz t.1 (10+8*k)) (h:Zet o (ldO o p) b=some f) :
 f.1≠0∧Can f.2∧f.2.length≤3∧(∀j,gI f.2 j≤16)∧Sz f.1 (11+8*k)∧mulM (ldO o b).2 f.2=(ldO o p).2∧f.1=(ldO o p).1/(ldO o b).1:=by
 have m:=Zez (o:=o) hp h0;have n:=Zez (o:=o) hb.s hb.n;have c1:=hp.dom _ m;have c2:=hb.s.dom _ n;unfold Zet at h;by_cases d:divI (ldO o b).2 (ldO o p).2=true
 ·rw [if_pos d] at h;have h:=Option.some.inj h;subst h;have n1:=(hp.1 _ m).1;have n2:=(hb.s.1 _ n).1;have em:=Zqa c1 c2 d;refine⟨?_,Zor c1 c2 d,?_,λj=>?_,((hz _ m).div (hb.z _ n)).mono (by omega),em,rfl⟩
  ·show(ldO o p).1/(ldO o b).1≠0;rw [Rat.div_def];intro e;rcases Rat.mul_eq_zero.1 e with e | e
   ·exact n1 e
   ·have:=Rat.mul_inv_cancel _ n2;rw [e,Rat.mul_zero] at this;exact absurd this (by decide)
  ·have h1:=Zd6 (ldO o b).2 (quoI (ldO o p).2 (ldO o b).2);rw [em] at h1;have:=(hx _ m).1;show(quoI (ldO o p).2 (ldO o b).2).length≤3;omega
  ·show gI (quoI _ _) j≤16;rw [Zqb d];have:=(hx _ m).e c1 j;have:=c2.1 j;omega
 ·rw [if_neg d] at h;cases h
theorem Zty {o:Int} {bs:List Po} {k:Nat} {s s':DS} (hb:∀b∈bs,BO b) (h:DI o bs k s) (hk:k≤20808) (h0:s.p≠[]) (hs:Ze2 o bs s=some s'):DI o bs (k+1) s'∧dvM o s' < dvM o s:=by
 have m:=Zez (o:=o) h.sp h0;have cm:=h.sp.dom _ m;have nm:=(h.sp.1 _ m).1;unfold Ze2 at hs
 cases e:fstO o (ldO o s.p) bs with
 | none =>
   rw [e] at hs;simp only at hs;have hs1:SrtM [ldO o s.p]:=Srt.cons .nil nm cm (by simp);have low:∀v∈subM s.p [ldO o s.p],ltO o v.2 (ldO o s.p).2:=Zpx h.sp hs1 h0 (λu hu=>by rw [List.mem_singleton] at hu;subst hu;exact .inl rfl) (by show(if (ldO o s.p).2=(ldO o s.p).2 then (ldO o s.p).1 else 0)+0=_;rw [if_pos rfl,Rat.add_zero]);have ss:=Zoe ordM h.sp hs1;have mem:∀v∈subM s.p [ldO o s.p],v∈s.p:=λv hv=>by
    have c1:=Zhe ss hv;rw [show cof (subP ltM s.p [ldO o s.p]) v.2=cof s.p v.2 - cof [ldO o s.p] v.2 from Zlc ordM h.sp hs1 v.2] at c1
    have cf:cof [ldO o s.p] v.2=0:=by
     show(if (ldO o s.p).2=v.2 then (ldO o s.p).1 else 0)+0=_;rw [if_neg (λg=>by have:=low v hv;rw [←g] at this;exact(ordO o).irr _ this),Rat.add_zero]
    rw [cf,Rat.sub_eq_add_neg,Rat.neg_zero,Rat.add_zero] at c1;obtain⟨u,hu,e2⟩:=Zjp (p:=s.p) (x:=v.2) (by rw [c1];exact(ss.1 v hv).1);have:=Zhe h.sp hu;rw [e2,c1] at this;rw [show v=u from Prod.ext this e2.symm];exact hu
   by_cases g:bigP (addM s.r [ldO o s.p])=true
   ·rw [if_pos g] at hs;cases hs
   ·rw [if_neg g] at hs;have hs:=Option.some.inj hs;subst hs;have hbp:∀t∈subM s.p [ldO o s.p],Bx o t.2:=λt ht=>h.bp t (mem t ht);obtain⟨D,h1,h2,h3,h4,h5⟩:=h.c;have hB:65536 ^ (1+3*k)≤65536 ^ (1+3*(k+1)):=Nat.pow_le_pow_right (by omega) (by omega);refine⟨⟨ss,hbp,?_,h.lq,λt ht b hb'=>?_,D,h1,Nat.le_trans h2 (Nat.pow_le_pow_right (by omega) (by omega)),λt ht=>(h3 t (mem t ht)).mono (Nat.dvd_refl _) hB,λi hi=>(h4 i hi).mono (by omega) (Nat.dvd_refl _) hB m low,
     h5.add (Nat.dvd_refl _) hB m low nm cm ((h3 _ m).mono (Nat.dvd_refl _) hB) ⟨(h.bp _ m).1,(h.bp _ m).e cm⟩ (mulM_e cm)⟩,dvM_lt h.sp h.bp ss hbp h0 low⟩
    ·have h1:=Ziy (lt:=ltM) s.p (Zbg (-1) [ldO o s.p]);have h2:=h.lp;show(addP ltM s.p (Zbg (-1) [ldO o s.p])).length≤_;simp only [Zbg,List.map_cons,List.map_nil,List.length_singleton] at *;omega
    ·rcases h5.mem m nm cm (mulM_e cm) t ht with g | rfl
     ·exact h.hd t g b hb'
     ·have:=fst_no e b hb';unfold Zet at this;cases d:divI (ldO o b).2 (ldO o s.p).2
      ·rfl
      ·rw [if_pos d] at this;cases this
 | some r =>
   obtain⟨i,f⟩:=r;rw [e] at hs;simp only at hs;obtain⟨hi,hf⟩:=Zl8 e;have hbi:BO (bs.getD i []):=hb _ (by rw [List.getD_eq_getElem?_getD,List.getElem?_eq_getElem hi];exact List.getElem_mem hi);obtain⟨f0,fc,fl,fe,fz,fm,fq⟩:=Zpl h.sp h0 hbi h.bp h.sz hf;generalize hB0:bs.getD i []=b at *;rw [Ztb hbi.s f0 fc] at hs;have n:=Zez (o:=o) hbi.s hbi.n;have cn:=hbi.s.dom _ n;have ts:SrtM (Zao mulM b f):=Zds mulK hbi.s f0 fc;have low:∀v∈subM s.p (Zao mulM b f),ltO o v.2 (ldO o s.p).2:=Zpx h.sp ts h0 (λu hu=>by
    obtain⟨w,hw,rfl⟩:=List.mem_map.1 hu;show mulM w.2 f.2=_∨ltO o (mulM w.2 f.2) _;rw [←fm];rcases Zth (o:=o) hbi.s hw with g | g
    ·exact .inl (by rw [g])
    ·exact .inr (ltO_mul f.2 (hbi.s.dom _ hw) cn fc g)) (by
    have hin:((ldO o b).1*f.1,mulM (ldO o b).2 f.2)∈Zao mulM b f:=List.mem_map_of_mem n;have:=Zhe ts hin;simp only at this;rw [fm] at this;rw [this,fq,Rat.div_def,Rat.mul_comm,Rat.mul_assoc,Rat.inv_mul_cancel _ (hbi.s.1 _ n).1,Rat.mul_one])
   have ss:=Zoe ordM h.sp ts;have hbp:∀t∈subM s.p (Zao mulM b f),Bx o t.2:=λt ht=>by
    have old:∀w∈b,Bx o (mulM w.2 f.2):=λw hw=>by
     have g:Bx o (mulM (ldO o b).2 f.2):=by rw [fm];exact h.bp _ m
     exact bx_step (hbi.x _ hw).1 (hbi.x _ n).1 (hbi.s.dom _ hw) cn (hbi.x _ hw).2 (hbi.x _ n).2 (Zth hbi.s hw) g
    rcases Ziu ht with⟨u,hu,e3⟩
    rw [e3];rcases List.mem_append.1 hu with hu | hu
    ·exact h.bp u hu
    ·obtain⟨w,hw,rfl⟩:=List.mem_map.1 hu;obtain⟨v,hv,rfl⟩:=List.mem_map.1 hw;exact old v hv
   by_cases g:(bigP (subM s.p (Zao mulM b f)) || bigP (addM (s.q.getD i []) [f]))=true
   ·rw [if_pos g] at hs;cases hs
   ·rw [if_neg g] at hs;have hs:=Option.some.inj hs;subst hs;obtain⟨D,h1,h2,h3,h4,h5⟩:=h.c;obtain⟨E,g1,g2,g3,g4⟩:=den_div hbi.z hbi.l (hbi.z _ n) (hbi.s.1 _ n).1
    have hB:65536 ^ (1+3*k)+65536 ^ (1+3*k)*65536 ^ (2*1)≤65536 ^ (1+3*(k+1)):=by
     rw [show 1+3*(k+1)=(1+3*k)+3 by omega,Nat.pow_add 65536 (1+3*k) 3];have:0 < 65536 ^ (1+3*k):=Nat.pow_pos (by omega);generalize 65536 ^ (1+3*k)=X at *;have e1:(65536:Nat) ^ 3=281474976710656:=by decide
     have e2:(65536:Nat) ^ (2*1)=4294967296:=by decide
     rw [e1,e2];omega
    have hB1:65536 ^ (1+3*k)≤65536 ^ (1+3*(k+1)):=by omega
    have fB:BQ (D*E) (65536 ^ (1+3*(k+1))) f.1:=by
     rw [fq,Rat.div_def];exact((h3 _ m).mul g4).mono (Nat.dvd_refl _) (by omega)
    refine⟨⟨ss,hbp,?_,by simp only [List.length_set];exact h.lq,h.hd,D*E,Nat.mul_pos h1 g1,?_,λt ht=>(CQ.step h3 m g3 fq t ht).mono (Nat.dvd_refl _) hB,λj hj=>?_,h5.mono (by omega) (Nat.dvd_mul_right _ _) hB1 m low⟩,dvM_lt h.sp h.bp ss hbp h0 low⟩
    ·have h1:=Ziy (lt:=ltM) s.p (Zbg (-1) (Zao mulM b f));have h2:=h.lp;have h3:=hbi.l;show(addP ltM s.p (Zbg (-1) (Zao mulM b f))).length≤_;simp only [Zbg,Zao,List.length_map] at *;omega
    ·rw [show 8+5*(k+1)=(8+5*k)+(1*4+1) by omega,Nat.pow_add];exact Nat.mul_le_mul h2 g2
    ·show QO o _ _ _ _ _ ((s.q.set i _).getD j []);rw [getD_set _ _ _ _ _ (by rw [h.lq];exact hi)];by_cases ej:j=i
     ·subst ej;rw [if_pos rfl,hB0];have hq:=h4 j hj;rw [hB0] at hq;exact hq.add (Nat.dvd_mul_right _ _) hB1 m low f0 fc fB ⟨fl,fe⟩ (by rw [mulK.comm,fm])
     ·rw [if_neg ej];exact(h4 j hj).mono (by omega) (Nat.dvd_mul_right _ _) hB1 m low
theorem Zj2 {o:Int} {s:DS} (h:s.p≠[]):0 < dvM o s:=by unfold dvM;rw [if_neg h];omega
theorem Zkl {o:Int} {bs:List Po} (hb:∀b∈bs,BO b):∀(d:Nat) (k:Nat) (s:DS),dvM o s≤d→DI o bs k s→k+dvM o s≤20809→∀n m,dvM o s≤n→dvM o s≤m→Zkh o bs n s=Zkh o bs m s
 | 0,k,s,hd,h,hk,n,m,hn,hm=>by
   have h0:s.p=[]:=Classical.byContradiction λg=>by have:=Zj2 (o:=o) g;omega
   cases n<;>cases m<;>simp only [Zkh,if_pos h0]
 | d+1,k,s,hd,h,hk,n,m,hn,hm=>by
   by_cases h0:s.p=[]
   ·cases n<;>cases m<;>simp only [Zkh,if_pos h0]
   ·have:=Zj2 (o:=o) h0;obtain⟨n,rfl⟩:∃i,n=i+1:=⟨n - 1,by omega⟩;obtain⟨m,rfl⟩:∃i,m=i+1:=⟨m - 1,by omega⟩;simp only [Zkh,if_neg h0]
    cases e:Ze2 o bs s with
    | none=>rfl
    | some s' =>
      obtain⟨g1,g2⟩:=Zty hb h (by omega) h0 e;exact Zkl hb d (k+1) s' (by omega) g1 (by omega) n m (by omega) (by omega)
def Zdn (o:Int) (bs:List Po) (s:DS):Option DS:=Zkh o bs (dvM o s) s
theorem Zj3 {o:Int} {bs:List Po} {s:DS} (h:s.p=[]):Zdn o bs s=some s:=by
 unfold Zdn;cases dvM o s<;>simp only [Zkh,if_pos h]
theorem Zj4 {o:Int} {bs:List Po} {s:DS} (h0:s.p≠[]) (h:Ze2 o bs s=none):Zdn o bs s=none:=by
 unfold Zdn;have:=Zj2 (o:=o) h0;obtain⟨n,e⟩:∃i,dvM o s=i+1:=⟨dvM o s - 1,by omega⟩;rw [e];simp only [Zkh,if_neg h0,h,Option.bind_none]
theorem Zh9 {o:Int} {bs:List Po} {k:Nat} {s s':DS} (hb:∀b∈bs,BO b) (h:DI o bs k s) (hk:k+dvM o s≤20809) (h0:s.p≠[]) (e:Ze2 o bs s=some s'):Zdn o bs s=Zdn o bs s'∧DI o bs (k+1) s'∧k+1+dvM o s'≤20809∧dvM o s' < dvM o s:=by
 have:=Zj2 (o:=o) h0;obtain⟨g1,g2⟩:=Zty hb h (by omega) h0 e;refine⟨?_,g1,by omega,g2⟩;unfold Zdn;obtain⟨n,e2⟩:∃i,dvM o s=i+1:=⟨dvM o s - 1,by omega⟩;rw [e2];simp only [Zkh,if_neg h0,e,Option.bind_some];exact Zkl hb (dvM o s') (k+1) s' (Nat.le_refl _) g1 (by omega) _ _ (by omega) (Nat.le_refl _)
theorem Zmc {o:Int} {bs:List Po} (hb:∀b∈bs,BO b) (I:DS→Prop) (hI:∀k s s',DI o bs k s→I s→s.p≠[]→Ze2 o bs s=some s'→I s'):∀(d k:Nat) (s s':DS),dvM o s≤d→DI o bs k s→I s→k+dvM o s≤20809→Zdn o bs s=some s'→∃j,j≤20809∧DI o bs j s'∧I s'∧s'.p=[]
 | d,k,s,s',hd,h,hi,hk,e=>by
   by_cases h0:s.p=[]
   ·rw [Zj3 h0] at e;cases e;exact⟨k,by omega,h,hi,h0⟩
   ·have:=Zj2 (o:=o) h0
    cases e2:Ze2 o bs s with
    | none=>rw [Zj4 h0 e2] at e;cases e
    | some s2 =>
      obtain⟨g1,g2,g3,g4⟩:=Zh9 hb h hk h0 e2;rw [g1] at e
      match d,hd with
      | d+1,hd=>exact Zmc hb I hI d (k+1) s2 s' (by omega) g2 (hI k s s2 h hi h0 e2) g3 e
      | 0,hd=>omega
theorem rep_get {α:Type} (n i:Nat) (x:α):(List.replicate n x).getD i x=x:=by
 rw [List.getD_eq_getElem?_getD,List.getElem?_replicate];by_cases h:i < n
 ·rw [if_pos h];rfl
 ·rw [if_neg h];rfl
theorem Zmb {o:Int} {bs:List Po} {p:Po} (hp:SrtM p) (hl:p.length≤8) (hz:∀t∈p,Sz t.1 1) (hx:∀t∈p,t.2.length≤3∧dgI t.2≤4):DI o bs 0 ⟨p,List.replicate bs.length [],[]⟩∧0+dvM o ⟨p,List.replicate bs.length [],[]⟩≤20809:=by
 have nilQ:∀l D,QO o p l 0 D (65536 ^ (1+3*0)) []:=λl D=>⟨.nil,λt h=>absurd h (by simp),λt h=>absurd h (by simp),Nat.le_refl _,λt h=>absurd h (by simp)⟩;have hb:∀t∈p,Bx o t.2:=λt ht=>bx_start (hx t ht).1 (hp.dom t ht) (hx t ht).2;refine⟨⟨hp,hb,by show p.length≤_;omega,by simp,λt h=>absurd h (by simp),?_⟩,?_⟩
 ·obtain⟨D,h1,h2,h3⟩:=Zme p hz;refine⟨D,h1,Nat.le_trans h2 (Nat.pow_le_pow_right (by omega) (by omega)),h3,λi hi=>?_,nilQ _ _⟩;show QO o p _ _ _ _ ((List.replicate bs.length []).getD i []);rw [rep_get];exact nilQ _ _
 ·unfold dvM;by_cases e:p=[]
  ·simp only [e,if_true];omega
  ·simp only [if_neg e];have m:=Zez (o:=o) hp e;have:=en_le (hb _ m) (hp.dom _ m);omega
theorem Zrr (p:Po) (t:Tm) (x:List Int):cof (Zao mulM p t) x=t.1*cof (Zao mulM p (1,t.2)) x:=by
 induction p with
 | nil=>show(0:Rat)=t.1*0;rw [Rat.mul_zero]
 | cons s p ih =>
   show(if mulM s.2 t.2=x then s.1*t.1 else 0)+cof (Zao mulM p t) x=t.1*((if mulM s.2 t.2=x then s.1*1 else 0)+cof (Zao mulM p (1,t.2)) x);rw [ih,Rat.mul_add];by_cases h:mulM s.2 t.2=x
   ·rw [if_pos h,if_pos h,Rat.mul_one,Rat.mul_comm]
   ·rw [if_neg h,if_neg h,Rat.mul_zero]
theorem Zmi (p:Po) (x:List Int):∀q:Po,cofM mulM p q x=evl (λy=>cof (Zao mulM p (1,y)) x) q
 | []=>rfl
 | t :: q=>by
   show cof (Zao mulM p t) x+cofM mulM p q x=t.1*_+evl _ q;rw [Zrr,Zmi p x q]
theorem cofM_add {p q r:Po} (hq:SrtM q) (hr:SrtM r) (x:List Int):cofM mulM p (addM q r) x=cofM mulM p q x+cofM mulM p r x:=by
 rw [Zmi,Zmi,Zmi];exact evl_addP ordM _ hq.dom hr.dom
def cofS (x:List Int):List Po→List Po→Rat
 | b :: bs,q :: qs=>cofM mulM b q x+cofS x bs qs
 | _,_=>0
theorem Zqu {x:List Int} {f:Tm} (hf:SrtM [f]):∀{bs qs:List Po} {i:Nat},bs.length=qs.length→i < bs.length→SrtM (qs.getD i [])→cofS x bs (qs.set i (addM (qs.getD i []) [f]))=cofS x bs qs+cof (Zao mulM (bs.getD i []) f) x
 | [],_,i,_,h,_=>absurd h (by simp)
 | b :: bs,[],i,h,_,_=>by simp at h
 | b :: bs,q :: qs,0,h,_,hq=>by
   show cofM mulM b (addM q [f]) x+cofS x bs qs=cofM mulM b q x+cofS x bs qs+cof (Zao mulM b f) x;rw [cofM_add (show SrtM q from hq) hf];have:cofM mulM b [f] x=cof (Zao mulM b f) x:=by show cof (Zao mulM b f) x+0=_;rw [Rat.add_zero]
   rw [this];simp only [Rat.add_assoc,Rat.add_comm (cofS x bs qs)]
 | b :: bs,q :: qs,i+1,h,hi,hq=>by
   show cofM mulM b q x+cofS x bs (qs.set i (addM (qs.getD i []) [f]))=cofM mulM b q x+cofS x bs qs+cof (Zao mulM (bs.getD i []) f) x;have hq':SrtM (qs.getD i []):=hq;rw [Zqu hf (by simpa using h) (by simpa using hi) hq',Rat.add_assoc]
theorem Zqv (x:List Int):∀(bs:List Po),cofS x bs (List.replicate bs.length [])=0
 | []=>rfl
 | b :: bs=>by
   show 0+cofS x bs (List.replicate bs.length [])=0;rw [Zqv x bs,Rat.add_zero]
def totO (bs:List Po) (s:DS) (x:List Int):Rat:=cof s.p x+cofS x bs s.q+cof s.r x
theorem tot_step {o:Int} {bs:List Po} {k:Nat} {s s':DS} (hb:∀b∈bs,BO b) (h:DI o bs k s) (h0:s.p≠[]) (e:Ze2 o bs s=some s') (x:List Int):totO bs s' x=totO bs s x:=by
 have m:=Zez (o:=o) h.sp h0;have cm:=h.sp.dom _ m;have nm:=(h.sp.1 _ m).1;unfold Ze2 at e
 cases e1:fstO o (ldO o s.p) bs with
 | none =>
   rw [e1] at e;simp only at e;have hs1:SrtM [ldO o s.p]:=Srt.cons .nil nm cm (by simp);by_cases g:bigP (addM s.r [ldO o s.p])=true
   ·rw [if_pos g] at e;cases e
   ·rw [if_neg g] at e;cases e;show cof (subP ltM s.p [ldO o s.p]) x+cofS x bs s.q+cof (addP ltM s.r [ldO o s.p]) x=cof s.p x+cofS x bs s.q+cof s.r x;rw [Zlc ordM h.sp hs1,Zgu ordM x h.pr.1.dom hs1.dom];generalize cof s.p x=a;generalize cof [ldO o s.p] x=b;generalize cofS x bs s.q=c;generalize cof s.r x=d
    grind
 | some r =>
   obtain⟨i,f⟩:=r;rw [e1] at e;simp only at e;obtain⟨hi,hf⟩:=Zl8 e1;have hbi:BO (bs.getD i []):=hb _ (by rw [List.getD_eq_getElem?_getD,List.getElem?_eq_getElem hi];exact List.getElem_mem hi);obtain⟨f0,fc,_⟩:=Zpl h.sp h0 hbi h.bp h.sz hf;have hfs:SrtM [f]:=Srt.cons .nil f0 fc (by simp);rw [Ztb hbi.s f0 fc] at e;have ts:SrtM (Zao mulM (bs.getD i []) f):=Zds mulK hbi.s f0 fc;by_cases g:(bigP (subM s.p (Zao mulM (bs.getD i []) f)) || bigP (addM (s.q.getD i []) [f]))=true
   ·rw [if_pos g] at e;cases e
   ·rw [if_neg g] at e;cases e;show cof (subP ltM s.p (Zao mulM (bs.getD i []) f)) x+cofS x bs (s.q.set i (addM (s.q.getD i []) [f]))+cof s.r x=cof s.p x+cofS x bs s.q+cof s.r x;rw [Zlc ordM h.sp ts,Zqu hfs h.lq.symm hi (h.pq hi).1];generalize cof s.p x=a;generalize cof (Zao mulM (bs.getD i []) f) x=b;generalize cofS x bs s.q=c;generalize cof s.r x=d
    grind
end Go.Proofs.YtimmnimikmnljaaGreat
namespace Go.Proofs.YtimmnimikmnljaaGreat
open Go Go.RowKit Go.Pg Go.Pol
attribute [-bool_to_prop] Bool.and_eq_decide Bool.or_eq_decide Bool.decide_beq_decide decide_eq_decide
structure RS where
 k:Int
 nm:ByteArray
 ar:List Int
 r:RQ
structure RG where
 k:Int
 ar:List Int
 r:RQ
abbrev RS.av (s:RS):AV:=.agg [iv s.k,strA s.nm,ivs s.ar,.v (.bool s.r.s),lim s.r.l,lim s.r.d]
abbrev RG.av (g:RG):AV:=.agg [iv g.k,ivs g.ar,.v (.bool g.r.s),lim g.r.l,lim g.r.d]
abbrev figA (ss:List RS) (gs:List RG):AV:=.agg [.sl 6 (ss.map RS.av),.sl 5 (gs.map RG.av)]
def RQ.none (r:RQ):Bool:=!r.s && (decide (r.l.length=0) && decide (r.d.length=0))
structure FS where
 cs:List (Po × Po)
 vs:List Vt
 fr:Nat
abbrev coA (c:Po × Po):AV:=.agg [poA c.1,poA c.2]
def FS.at (f:FS) (s:RS) (k:Nat):Po × Po:=f.cs.getD (gI s.ar k).toNat ([],[])
def FS.nxt (f:FS) (i:Nat) (s:RS):List Vt × (Po × Po) :=
 let v:=f.vs.length
 let a:=f.at s 0
 let b:=f.at s 1
 let c:=f.at s 2
 if s.k=1 then
  (if f.fr=0 then ([],([],[]))
   else if f.fr=1 then ([(1,(i:Int),0)],(varM v,[]))
   else ([(1,(i:Int),0),(1,(i:Int),1)],(varM v,varM (v+1))))
 else if s.k=2 then ([],(addM a.1 (sclM s.r.q (subM b.1 a.1)),addM a.2 (sclM s.r.q (subM b.2 a.2))))
 else if s.k=3 then ([],(addM a.1 (subM c.1 b.1),addM a.2 (subM c.2 b.2)))
 else if s.k=4 then ([],(addM a.1 (subM b.2 c.2),addM a.2 (subM c.1 b.1)))
 else if s.k=5 then ([(1,(i:Int),0)],(addM a.1 (mlM (subM b.1 a.1) (varM v)),addM a.2 (mlM (subM b.2 a.2) (varM v))))
 else if s.k=6 then ([(1,(i:Int),0),(2,(i:Int),1),(2,(i:Int),2)],(varM (v+1),varM (v+2)))
 else ([(2,(i:Int),0),(2,(i:Int),1)],(varM v,varM (v+1)))
def FS.push (f:FS) (i:Nat) (s:RS):FS:=⟨f.cs++[(f.nxt i s).2],f.vs++(f.nxt i s).1,if s.k=1 then f.fr+1 else f.fr⟩
def frN (ss:List RS):Nat→FS
 | 0=>⟨[],[],0⟩
 | i+1=>(frN ss i).push i (ss.getD i ⟨0,.empty,[],⟨false,[],[]⟩⟩)
def bigN (ss:List RS) (i:Nat):Bool :=
 decide (64 < (frN ss (i+1)).vs.length) || decide (4000 < ((frN ss i).nxt i (ss.getD i ⟨0,.empty,[],⟨false,[],[]⟩⟩)).2.1.length) || decide (4000 < ((frN ss i).nxt i (ss.getD i ⟨0,.empty,[],⟨false,[],[]⟩⟩)).2.2.length)
def BB (n:Nat):Nat:=65536 ^ (3*n)
theorem BB_pos (n:Nat):1≤BB n:=Nat.one_le_pow _ _ (by omega)
theorem BB_succ (n:Nat):BB (n+1)=BB n*65536 ^ 3:=by unfold BB;rw [←Nat.pow_add];rfl
def GP (n D v:Nat) (p:Po):Prop:=SrtM p∧∀t∈p,BQ D (BB n) t.1∧t.2.length≤v∧∀j,gI t.2 j≤1
theorem GP.nil {n D v:Nat}:GP n D v []:=⟨.nil,λt h=>by simp at h⟩
theorem GP.mono {n D v m E w:Nat} {p:Po} (h:GP n D v p) (hn:n≤m) (hd:D ∣ E) (hv:v≤w):GP m E w p :=
 ⟨h.1,λt ht=>⟨(h.2 t ht).1.mono hd (Nat.pow_le_pow_right (by omega) (by omega)),by have:=(h.2 t ht).2.1;omega,(h.2 t ht).2.2⟩⟩
theorem bq_sz {D B d b:Nat} {q:Rat} (h:BQ D B q) (h0:D≠0) (hd:D < 65536 ^ d) (hb:B < 65536 ^ b):Sz q (d+b):=by
 have h1:q.den≤D:=Nat.le_of_dvd (Nat.pos_of_ne_zero h0) h.1;refine⟨Zai.2 ?_,Nat.le_trans (Zai.2 (Nat.lt_of_le_of_lt h1 hd)) (by omega)⟩;have hp:0 < q.den:=q.den_pos
 calc q.num.natAbs≤B*q.den:=h.2
  _≤B*D:=Nat.mul_le_mul_left _ h1
  _ < 65536 ^ b*65536 ^ d:=Nat.mul_lt_mul_of_lt_of_lt hb hd
  _=65536 ^ (d+b):=by rw [Nat.mul_comm,←Nat.pow_add]
theorem GP.pk {n D v:Nat} {p:Po} (h:GP n D v p) (hv:v≤1000) (h0:D≠0) (hd:D < 65536 ^ (2*n+1)) (hn:n≤20):PK p 110 1:=λt ht=>by
 obtain⟨h1,h2,h3⟩:=h.2 t ht;refine⟨(bq_sz (b:=3*n+1) h1 h0 hd (by unfold BB;exact Nat.pow_lt_pow_right (by omega) (by omega))).mono (by omega),by omega,λj=>⟨(h.1.1 t ht).2.1 j,h3 j⟩⟩
def GB (B D v:Nat) (p:Po):Prop:=SrtM p∧∀t∈p,BQ D B t.1∧t.2.length≤v∧∀j,gI t.2 j≤1
theorem GB.mono {B D v C E w:Nat} {p:Po} (h:GB B D v p) (hn:B≤C) (hd:D ∣ E) (hv:v≤w):GB C E w p :=
 ⟨h.1,λt ht=>⟨(h.2 t ht).1.mono hd hn,by have:=(h.2 t ht).2.1;omega,(h.2 t ht).2.2⟩⟩
theorem GB.add {B C D v:Nat} {p q:Po} (h:GB B D v p) (k:GB C D v q):GB (B+C) D v (addM p q):=by
 refine⟨Zd8 ordM h.1 k.1,λt ht=>?_⟩;rcases Zht ht with h1 | h1 | ⟨s,hs,u,hu,rfl⟩
 ·exact⟨(h.2 t h1).1.mono (Nat.dvd_refl _) (by omega),(h.2 t h1).2⟩
 ·exact⟨(k.2 t h1).1.mono (Nat.dvd_refl _) (by omega),(k.2 t h1).2⟩
 ·exact⟨(h.2 s hs).1.add (k.2 u hu).1,(h.2 s hs).2⟩
theorem GB.neg {B D v:Nat} {p:Po} (h:GB B D v p):GB B D v (Zbg (-1) p):=by
 refine⟨Zei h.1 neg1,λt ht=>?_⟩;obtain⟨s,hs,rfl⟩:=List.mem_map.1 ht;refine⟨?_,(h.2 s hs).2⟩;have e:s.1*-1=-s.1:=by grind
 show BQ D B (s.1*-1);rw [e];exact(h.2 s hs).1.neg
theorem GB.sub {B C D v:Nat} {p q:Po} (h:GB B D v p) (k:GB C D v q):GB (B+C) D v (subM p q):=h.add k.neg
theorem GB.scl {B C D E v:Nat} {p:Po} {a:Rat} (h:GB B D v p) (ha:BQ E C a):GB (B*C) (D*E) v (sclM a p):=by
 unfold sclM;split
 ·exact⟨.nil,λt h=>by simp at h⟩
 ·rename_i h0;refine⟨Zei h.1 h0,λt ht=>?_⟩;obtain⟨s,hs,rfl⟩:=List.mem_map.1 ht;exact⟨(h.2 s hs).1.mul ha,(h.2 s hs).2⟩
theorem mul_var (p:Po) (v:Nat):mlM p (varM v)=if v < 64 then Zao mulM p (1,Zgx v) else []:=by
 unfold varM;split
 ·show addP ltM [] (Zao mulM p (1,Zgx v))=_;simp [addP]
 ·rfl
theorem GB.var {B D v:Nat} {p:Po} (h:GB B D v p):GB B D (v+1) (mlM p (varM v)):=by
 refine⟨Zgp ordM mulK h.1 (Zpp v),λt ht=>?_⟩;rw [mul_var] at ht;split at ht
 ·obtain⟨s,hs,rfl⟩:=List.mem_map.1 ht;obtain⟨h1,h2,h3⟩:=h.2 s hs;refine⟨by show BQ D B (s.1*1);rw [Rat.mul_one];exact h1,by show(mulM s.2 (Zgx v)).length≤v+1;rw [Zd6,Zf1];omega,λj=>?_⟩;show gI (mulM s.2 (Zgx v)) j≤1;rw [Zdi _ rfl,Zl7];split
  ·rename_i hj;rw [Zbi (by omega)];omega
  ·have:=h3 j;omega
 ·simp at ht
theorem GB.one {B D v w:Nat} (hB:1≤B) (h:v < w):GB B D w (varM v):=by
 refine⟨Zpp v,λt ht=>?_⟩;unfold varM at ht;split at ht
 ·rw [List.mem_singleton] at ht;subst ht;refine⟨BQ.int 1 (by simpa using hB),by show(Zgx v).length≤w;rw [Zf1];omega,λj=>?_⟩;show gI (Zgx v) j≤1;rw [Zl7];split<;>omega
 ·simp at ht
theorem GB.nil {B D v:Nat}:GB B D v []:=⟨.nil,λt h=>by simp at h⟩
structure FI (f:FS) (n D:Nat):Prop where
 D0:D≠0
 Dl:D < 65536 ^ (2*n+1)
 nv:f.vs.length≤64
 cs:∀c∈f.cs,GP n D f.vs.length c.1∧GP n D f.vs.length c.2
 ln:∀c∈f.cs,c.1.length≤4000∧c.2.length≤4000
theorem FI.at {f:FS} {n D:Nat} (h:FI f n D) (s:RS) (k:Nat):(GP n D f.vs.length (f.at s k).1∧GP n D f.vs.length (f.at s k).2)∧(f.at s k).1.length≤4000∧(f.at s k).2.length≤4000:=by
 unfold FS.at;by_cases hk:(gI s.ar k).toNat < f.cs.length
 ·have:=getD_mem (d:=(([],[]):Po × Po)) hk;exact⟨h.cs _ this,h.ln _ this⟩
 ·rw [List.getD_eq_getElem?_getD,List.getElem?_eq_none (by omega)];exact⟨⟨.nil,.nil⟩,by simp,by simp⟩
def RQ.bd (r:RQ):Prop:=r.ok=true→r.q.den < 65536 ^ 2∧r.q.num.natAbs < 65536 ^ 2
theorem FI.nxt {f:FS} {n D:Nat} (h:FI f n D) (i:Nat) (s:RS) (hr:s.k=2→s.r.ok=true) (hb:s.r.bd) :
 ∃E,E≠0∧D ∣ E∧E < 65536 ^ (2*(n+if s.k=1 then 0 else 1)+1) ∧
  GP (n+if s.k=1 then 0 else 1) E (f.vs++(f.nxt i s).1).length (f.nxt i s).2.1∧GP (n+if s.k=1 then 0 else 1) E (f.vs++(f.nxt i s).1).length (f.nxt i s).2.2:=by
 obtain⟨⟨a1,a2⟩,-⟩:=h.at s 0;obtain⟨⟨b1,b2⟩,-⟩:=h.at s 1;obtain⟨⟨c1,c2⟩,-⟩:=h.at s 2;have hB:=BB_pos n;have hS:=BB_succ n;unfold FS.nxt;simp only;have one:∀v w,v < w→GP n D w (varM v):=λv w hv=>GB.one hB hv;have up:∀{E v:Nat} {p:Po} {C:Nat},GB C E v p→C≤BB n*65536 ^ 3→GP (n+1) E v p:=λh hc=>GB.mono h (by rw [hS];exact hc) (Nat.dvd_refl _) (Nat.le_refl _);have dl:D < 65536 ^ (2*(n+1)+1):=Nat.lt_of_lt_of_le h.Dl (Nat.pow_le_pow_right (by omega) (by omega))
 have b3:BB n+(BB n+BB n)≤BB n*65536 ^ 3:=by
  have:BB n*3≤BB n*65536 ^ 3:=Nat.mul_le_mul_left _ (by decide);omega
 by_cases k1:s.k=1
 ·rw [if_pos k1,if_pos k1];refine⟨D,h.D0,Nat.dvd_refl _,h.Dl,?_⟩;split
  ·exact⟨.nil,.nil⟩
  ·split
   ·exact⟨one _ _ (by simp),.nil⟩
   ·exact⟨one _ _ (by simp),one _ _ (by simp)⟩
 ·rw [if_neg k1,if_neg k1];by_cases k2:s.k=2
  ·rw [if_pos k2];obtain⟨h1,h2⟩:=hb (hr k2);refine⟨D*s.r.q.den,Nat.mul_ne_zero h.D0 s.r.q.den_nz,Nat.dvd_mul_right _ _,?_,?_⟩
   ·calc D*s.r.q.den < 65536 ^ (2*n+1)*65536 ^ 2:=Nat.mul_lt_mul_of_lt_of_lt h.Dl h1
     _=65536 ^ (2*(n+1)+1):=by rw [←Nat.pow_add];congr 1
   ·have hq:BQ s.r.q.den (65536 ^ 2) s.r.q:=⟨Nat.dvd_refl _,by have:=s.r.q.den_pos;have:=Nat.le_mul_of_pos_right (65536 ^ 2) this;omega⟩
    have bd:BB n+(BB n+BB n)*65536 ^ 2≤BB n*65536 ^ 3:=by
     have e1:(BB n+BB n)*65536 ^ 2=BB n*(2*65536 ^ 2):=by rw [←Nat.mul_two,Nat.mul_assoc]
     rw [e1];have:BB n*(1+2*65536 ^ 2)≤BB n*65536 ^ 3:=Nat.mul_le_mul_left _ (by decide);omega
    rw [List.append_nil];exact⟨up ((GB.mono a1 (Nat.le_refl _) (Nat.dvd_mul_right _ _) (Nat.le_refl _)).add ((GB.sub b1 a1).scl hq)) bd,up ((GB.mono a2 (Nat.le_refl _) (Nat.dvd_mul_right _ _) (Nat.le_refl _)).add ((GB.sub b2 a2).scl hq)) bd⟩
  ·rw [if_neg k2];refine⟨D,h.D0,Nat.dvd_refl _,dl,?_⟩;have one':∀v w,v < w→GP (n+1) D w (varM v):=λv w hv=>GB.one (BB_pos _) hv;by_cases k3:s.k=3
   ·rw [if_pos k3,List.append_nil];exact⟨up (GB.add a1 (GB.sub c1 b1)) b3,up (GB.add a2 (GB.sub c2 b2)) b3⟩
   ·rw [if_neg k3];by_cases k4:s.k=4
    ·rw [if_pos k4,List.append_nil];exact⟨up (GB.add a1 (GB.sub b2 c2)) b3,up (GB.add a2 (GB.sub c1 b1)) b3⟩
    ·rw [if_neg k4];by_cases k5:s.k=5
     ·rw [if_pos k5];have e:(f.vs++[(1,(i:Int),0)]).length=f.vs.length+1:=by simp
      rw [e];exact⟨up (GB.add (GB.mono a1 (Nat.le_refl _) (Nat.dvd_refl _) (by omega)) (GB.sub b1 a1).var) b3,up (GB.add (GB.mono a2 (Nat.le_refl _) (Nat.dvd_refl _) (by omega)) (GB.sub b2 a2).var) b3⟩
     ·rw [if_neg k5];by_cases k6:s.k=6
      ·rw [if_pos k6];exact⟨one' _ _ (by simp),one' _ _ (by simp)⟩
      ·rw [if_neg k6];exact⟨one' _ _ (by simp),one' _ _ (by simp)⟩
def nfN (ss:List RS):Nat→Nat
 | 0=>0
 | i+1=>nfN ss i+if (ss.getD i ⟨0,.empty,[],⟨false,[],[]⟩⟩).k=1 then 0 else 1
end Go.Proofs.YtimmnimikmnljaaGreat
namespace Go.Pg
open Go Go.RowKit Go.Lib
section
variable {P:Program} {n:Nat}
structure ItS (c:Cx) (n:Nat) (s:ByteArray) (tI:Nat) (J:Nat→(Nat→AV)→Prop) (pos:Nat) (a:Act) (w:World):Prop where
 h:∃e imm g,Rel c n ⟨e,Zan⟩ a w imm∧w.heap[g]?=some (.stringIter s pos)∧c.B≤g∧(∀ad,imm ad→ad.block≠g)∧e tI=.v (.pointer (some ⟨g,0,none⟩))∧J pos e
end
end Go.Pg
namespace Go.Proofs.YtimmnimikmnljaaGreat
open Go Go.RowKit Go.Pg
attribute [-bool_to_prop] Bool.and_eq_decide Bool.or_eq_decide Bool.decide_beq_decide decide_eq_decide
attribute [local go_sem] Tryz.underlying3 Tryz.underlying4 Tryz.underlying5 Tryz.underlying9 sz3 by3 z3 szStr byStr zStr
def kwL:List ByteArray:=[
 ⟨#[97,110,103,108,101]⟩,
 ⟨#[97,112,101,120]⟩,
 ⟨#[98,105,115,101,99,116,111,114]⟩,
 ⟨#[99,101,110,116,101,114]⟩,
 ⟨#[99,105,114,99,108,101]⟩,
 ⟨#[99,105,114,99,117,109]⟩,
 ⟨#[99,111,108,108,105,110,101,97,114]⟩,
 ⟨#[99,111,109,109,111,110]⟩,
 ⟨#[99,111,110,99,121,99,108,105,99]⟩,
 ⟨#[99,111,110,103,114,117,101,110,116]⟩,
 ⟨#[99,114,111,115,115]⟩,
 ⟨#[99,117,116]⟩,
 ⟨#[100,105,118,105,100,101]⟩,
 ⟨#[102,111,111,116]⟩,
 ⟨#[108,105,110,101]⟩,
 ⟨#[109,101,101,116]⟩,
 ⟨#[109,105,100,112,111,105,110,116]⟩,
 ⟨#[109,105,114,114,111,114]⟩,
 ⟨#[111,110]⟩,
 ⟨#[111,116,104,101,114]⟩,
 ⟨#[112,97,114,97,108,108,101,108]⟩,
 ⟨#[112,101,114,112,101,110,100,105,99,117,108,97,114]⟩,
 ⟨#[112,111,105,110,116,115]⟩,
 ⟨#[112,114,111,118,101]⟩,
 ⟨#[114,97,116,105,111]⟩,
 ⟨#[114,101,102,108,101,99,116]⟩,
 ⟨#[115,97,109,101]⟩,
 ⟨#[115,104,105,102,116]⟩,
 ⟨#[116,117,114,110]⟩]
def letB (c:Nat):Bool:=decide (97≤c∧c≤122) || decide (65≤c∧c≤90)
def digB (c:Nat):Bool:=decide (48≤c∧c≤57)
def gB (s:ByteArray) (k:Nat):Nat:=(s.data.toList.getD k 0).toNat
def namB (s:ByteArray):Bool:=decide (0 < s.size∧s.size≤20) && (letB (gB s 0) && ((List.range s.size).all (λk=>letB (gB s k) || digB (gB s k)) && !(kwL.any λw=>w.toList == s.toList)))
end Go.Proofs.YtimmnimikmnljaaGreat
namespace Go.Proofs.YtimmnimikmnljaaGreat
open Go Go.RowKit Go.Pg Go.Pol
attribute [-bool_to_prop] Bool.and_eq_decide Bool.or_eq_decide Bool.decide_beq_decide decide_eq_decide
def arS (k:Int):Int :=
 if k=1 then 0 else if k=2∨k=5∨k=6∨k=14 then 2 else if k=3∨k=4∨k=7∨k=8∨k=10∨k=11 then 3 else if k=9∨k=12∨k=13 then 4 else -1
def arG (k:Int):Int :=
 if k=8 then 2 else if k=1∨k=5 then 3 else if k=2∨k=3∨k=4∨k=6∨k=9 then 4 else if k=7 then 8 else 0
def outB (n:Int) (l:List Int):Bool:=l.any λa=>decide (a < 0) || decide (n≤a)
abbrev RS.zero:RS:=⟨0,.empty,[],⟨false,[],[]⟩⟩
def errS (ss:List RS) (i:Nat):Int :=
 let s:=ss.getD i RS.zero
 if arS s.k < 0 then 8
 else if (s.ar.length:Int)≠arS s.k then 1
 else if outB (i:Int) s.ar=true then 2
 else if (s.k=2∧s.r.ok=false)∨(s.k≠2∧s.r.none=false) then 1
 else if s.nm.size=0 then 0
 else if namB s.nm=false then 6
 else if (ss.take i).any (λt=>t.nm.toList == s.nm.toList)=true then 7
 else 0
def errG (g:RG) (n:Nat):Int :=
 if arG g.k=0 then 8
 else if (g.ar.length:Int)≠arG g.k then 1
 else if outB (n:Int) g.ar=true then 2
 else if (g.k=9∧g.r.ok=false)∨(g.k≠9∧g.r.none=false) then 1
 else 0
def fstE (f:Nat→Int):Nat→Int
 | 0=>0
 | n+1=>if fstE f n≠0 then fstE f n else f n
def figE (ss:List RS) (gs:List RG):Int :=
 if 40 < ss.length∨8 < gs.length then 4
 else if fstE (errS ss) ss.length≠0 then fstE (errS ss) ss.length
 else fstE (λi=>errG (gs.getD i ⟨0,[],⟨false,[],[]⟩⟩) ss.length) gs.length
def frame (ss:List RS) (gs:List RG):List (Po × Po) × List Vt × Int :=
 if figE ss gs≠0 then ([],[],figE ss gs)
 else if (List.range ss.length).any (bigN ss)=true then ([],[],4)
 else ((frN ss ss.length).cs,(frN ss ss.length).vs,0)
end Go.Proofs.YtimmnimikmnljaaGreat
