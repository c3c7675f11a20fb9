/- Contracts of the functions that the law reaches, and the rules by which they are walked. They say what a call hands back for every input within the bounds that each names; no other condition. -/
import Derived.Test.YtenfejhaohihoaaGreatBm5
import Derived.Laws.RangeString
import Derived.Lib.OthersKept
import Derived.Laws.Strings
set_option linter.unusedSimpArgs false
set_option linter.unusedVariables false
set_option maxRecDepth 20000
set_option maxHeartbeats 16000000
namespace Go.Proofs.YtenfejhaohihoaaGreat
open Go Go.RowKit Go.Pg Go.Proofs.Tryz
attribute [-bool_to_prop] Bool.and_eq_decide Bool.or_eq_decide Bool.decide_beq_decide decide_eq_decide
attribute [local go_sem] Zbb Zbc Zba
theorem gcd_le_l (n m:Nat) (h:m≠0):Nat.gcd n m≠0:=Nat.ne_of_gt (ZC5 _ (Zz7 h))
theorem intZ_div (s:Bool) (n g:Nat) (hg:g ∣ n) (h0:g≠0):intZ (zI s (n/g))=.agg [.v (.bool (decide (zI s n < 0))),lim (toL (n/g))]:=by
 rw [Zi2,zI_lt]
 have:(0 < n/g)↔(0 < n):=by
  obtain⟨k,rfl⟩:=hg;rw [Nat.mul_div_cancel_left _ (Zz7 h0)];constructor
  ·intro h;exact Nat.mul_pos (Zz7 h0) h
  ·intro h;exact Zz7 λe=>by rw [e] at h;simp at h
 simp only [this]
theorem Zn5 (s:Bool) (n m:Nat) (hn:(toL n).length≤100000000000) (hm:(toL m).length≤100000000000) (h0:m≠0):Pure prog 107 [intA s n,lim (toL m)] (ratQ (mkRat (zI s n) m)):=by
 rw [Zqb _ _ h0,Zeh];have g0:=gcd_le_l n m h0;have hgd:=Nat.gcd_dvd_left n m;have hmp:=Zbn.2 (Zz7 h0);have hg:(toL (Nat.gcd n m)).length≤100000000000:=Zye (Zc5 (Nat.le_of_dvd zo (Nat.gcd_dvd_right _ _))) hm;have hq:(toL (n/Nat.gcd n m)).length≤100000000000:=Zye (Zc5 (ZCv _ _)) hn;have cg:=rGcd n m zo zo;have c1:=Zvm n (Nat.gcd n m) zo zo g0;have c2:=Zvm m (Nat.gcd n m) zo zo g0;have cn:=zNorm s (n/Nat.gcd n m) zo;rw [intZ_div s n _ hgd g0] at cn;refine pI func107 rfl ntmps107 results107 call107 ?_
 (refine wkvp w_t (w_5 (Zvl m zo) cg c1 c2 cn) (w_s ?_);intros)
 simp (disch:=omega) only [go_sem]
theorem Zmg (q:Rat) {k:Nat} (h:Sz q k) (hk:k≤100000000000):Pure prog 47 [ratQ q] (ratQ q):=by
 have c:=Zn5 (decide (q.num < 0)) q.num.natAbs q.den (Zye h.1 hk) (Zye h.2 hk) q.den_nz;rw [Zb7,ZB6] at c;refine pI func47 rfl ntmps47 results47 call47 ?_
 (refine wkvp w_t (w_1 c) (w_s ?_);intros)
 simp (disch:=omega) only [go_sem]
theorem Zkf (n:Nat):Pure prog 112 [lim (toL n)] (intA false n):=by
 refine pI func112 rfl ntmps112 results112 call112 ?_
 (refine wkvp w_t w_t (w_s ?_);intros)
 simp (disch:=omega) only [go_sem]
theorem qMake (z w:Int) (hz:(toL z.natAbs).length≤100000000000) (hw:(toL w.natAbs).length≤100000000000) (h0:w≠0):Pure prog 226 [intZ z,intZ w] (.tup [ratQ (Rat.divInt z w),.v (.int .i64 0)]):=by
 have cs:=zSign w zo;have hs:w.sign≠0:=λh=>h0 (Int.sign_eq_zero_iff_zero.1 h);rcases (by omega:w < 0∨0 < w) with h | h
 ·have e:Rat.divInt z w=mkRat (-z) w.natAbs:=by
   have hw1:w=-((w.natAbs:Nat):Int):=zo;rw [show Rat.divInt z w=Rat.divInt z (-((w.natAbs:Nat):Int)) by rw [←hw1],Rat.divInt_neg',Rat.divInt_ofNat]
  have cn:=zNeg (decide (z < 0)) z.natAbs zo;have c:=Zn5 (decide (-z < 0)) (-z).natAbs w.natAbs (by rw [ZCr];omega) hw zo;rw [Zb7] at c cn;rw [←e] at c;generalize -z=y at *;generalize Rat.divInt z w=q at *;rw [Zhf h] at cs ⊢;refine pI func226 rfl ntmps226 results226 call226 ?_
  (refine wkvp w_t (w_3 cs cn c) (w_s ?_);intros)
  simp (disch:=omega) only [go_sem]
 ·have e:Rat.divInt z w=mkRat z w.natAbs:=by
   have hw1:w=((w.natAbs:Nat):Int):=zo;rw [show Rat.divInt z w=Rat.divInt z ((w.natAbs:Nat):Int) by rw [←hw1],Rat.divInt_ofNat]
  have c:=Zn5 (decide (z < 0)) z.natAbs w.natAbs hz hw zo;rw [Zb7,←e] at c;generalize Rat.divInt z w=q at *;rw [Zga (by omega:¬w < 0)] at cs ⊢;refine pI func226 rfl ntmps226 results226 call226 ?_
  (refine wkvp w_t (w_2 cs c) (w_s ?_);intros)
  simp (disch:=omega) only [go_sem]
theorem qOf (n:Nat) (hn:n < 9223372036854775808):Pure prog 42 [.v (.int .i64 (n:Int))] (ratQ (n:Rat)):=by
 have l4:(toL n).length≤4:=Zac.2 zo;have c:=Zn5 false n 1 zo (by rw [Zgu];omega) zo
 have e:mkRat (zI false n) 1=(n:Rat):=by
  have:=ZB6 (n:Rat);exact this
 rw [e] at c;refine pI func42 rfl ntmps42 results42 call42 ?_
 (refine wkvp w_t (w_3 (zOf n hn) (Zid 1 zo) c) (w_s ?_);intros)
 simp (disch:=omega) only [go_sem]
theorem qMul (a b:Rat) {j k:Nat} (ha:Sz a j) (hb:Sz b k) (hj:j≤20000000000) (hk:k≤20000000000):Pure prog 43 [ratQ a,ratQ b] (ratQ (a*b)):=by
 obtain⟨a1,a2⟩:=id ha;obtain⟨b1,b2⟩:=id hb;have l1:(toL (a.num*b.num).natAbs).length≤j+k:=by rw [ZAb];exact Zye (Zfm _ _) zo
 have l2:(toL (a.den*b.den)).length≤j+k:=Zye (Zfm _ _) zo;have c:=Zn5 (decide (a.num*b.num < 0)) (a.num*b.num).natAbs (a.den*b.den) zo zo (ZBb a.den_nz b.den_nz);rw [Zb7,←Rat.mul_def'] at c;have cz:=zMul (decide (a.num < 0)) (decide (b.num < 0)) a.num.natAbs b.num.natAbs zo zo;rw [Zb7,Zb7] at cz;have cd:=rMul a.den b.den zo zo;generalize a*b=q at *;generalize a.num*b.num=y at *;refine pI func43 rfl ntmps43 results43 call43 ?_
 (refine wkad w_t (w_3 cz cd c) (w_1 (w_d 1 [(4,intZ y),(9,lim (toL (a.den*b.den))),(10,ratQ q)] [11] [])) (w_s ?_);intros)
 simp (disch:=omega) only [go_sem]
theorem qAdd (a b:Rat) {j k:Nat} (ha:Sz a j) (hb:Sz b k) (hj:j≤20000000000) (hk:k≤20000000000):Pure prog 45 [ratQ a,ratQ b] (ratQ (a+b)):=by
 obtain⟨a1,a2⟩:=id ha;obtain⟨b1,b2⟩:=id hb;have na:=Zmg a ha zo;have nb:=Zmg b hb zo;have cm1:=zMul (decide (a.num < 0)) false a.num.natAbs b.den zo zo;have cm2:=zMul (decide (b.num < 0)) false b.num.natAbs a.den zo zo;rw [Zb7] at cm1 cm2;have cm1:Pure prog 109 [intZ a.num,intA false b.den] (intZ (a.num*b.den)):=cm1;have cm2:Pure prog 109 [intZ b.num,intA false a.den] (intZ (b.num*a.den)):=cm2;have x1:(toL (a.num*b.den).natAbs).length≤j+k:=Zef a b ha hb;have x2:(toL (b.num*a.den).natAbs).length≤k+j:=Zef b a hb ha
 have l1:(toL (a.num*b.den+b.num*a.den).natAbs).length≤j+k+1:=by
  have h3:=Zc5 (natAbs_add_le (a.num*b.den) (b.num*a.den));have h4:=Zlq (a.num*b.den).natAbs (b.num*a.den).natAbs;omega
 have l2:(toL (a.den*b.den)).length≤j+k:=Zye (Zfm _ _) zo;have ca:=zAdd (decide (a.num*b.den < 0)) (decide (b.num*a.den < 0)) (a.num*b.den).natAbs (b.num*a.den).natAbs zo zo;rw [Zb7,Zb7] at ca;have c:=Zn5 (decide (a.num*b.den+b.num*a.den < 0)) (a.num*b.den+b.num*a.den).natAbs (a.den*b.den) zo zo (ZBb a.den_nz b.den_nz);rw [Zb7,←Rat.add_def'] at c;have cw1:=Zkf b.den;have cw2:=Zkf a.den;have cd:=rMul a.den b.den zo zo;generalize a+b=q at *;generalize a.num*(b.den:Int)=y1 at *;generalize b.num*(a.den:Int)=y2 at *;refine pI func45 rfl ntmps45 results45 call45 ?_
 (refine wkvp w_t w_t (w_s ?_);intros)
 apply Zbo (Zdv [(1,ratQ a),(3,ratQ b)]) [4,5] [] zk zr zk;(focus (simp only [Zyk,Zym,Nat.reduceAdd];rfl))
 (refine wkax w_t (w_2 na nb) w_t w_t w_t w_t w_t (w_r 0) (w_s ?_);intros)
 apply Zbo (Zdv [(4,intA false b.den),(5,intZ y1),(10,intA false a.den),(11,intZ y2),(12,intZ (y1+y2)),(17,lim (toL (a.den*b.den))),(18,ratQ q)]) [19] [] zk zr zk;(focus (simp only [Zyk,Zym,Nat.reduceAdd];rfl))
 (refine wkax w_t (w_7 cw1 cm1 cw2 cm2 ca cd c) w_t w_t w_t w_t w_t (w_r 0) (w_s ?_);intros)
 simp (disch:=omega) only [go_sem]
theorem qNeg (a:Rat) {j:Nat} (ha:Sz a j) (hj:j≤20000000000):Pure prog 198 [ratQ a] (ratQ (-a)):=by
 obtain⟨a1,a2⟩:=id ha;have cn:=zNeg (decide (a.num < 0)) a.num.natAbs zo;have c:=Zn5 (decide (-a.num < 0)) (-a.num).natAbs a.den (by rw [ZCr];omega) zo a.den_nz;rw [Zb7] at c cn;rw [show mkRat (-a.num) a.den=-a by rw [←Rat.neg_mkRat,ZB6]] at c;generalize -a.num=y at *;generalize -a=q at *;refine pI func198 rfl ntmps198 results198 call198 ?_;(focus (refine wkad w_t (w_2 cn c) (w_1 (w_d 1 [(2,intZ y),(5,ratQ q)] [6] [])) ?_;(repeat' first|exact w_t|apply w_l);all_goals intros));simp (disch:=omega) only [go_sem]
theorem qSub (a b:Rat) {j k:Nat} (ha:Sz a j) (hb:Sz b k) (hj:j≤20000000000) (hk:k≤20000000000):Pure prog 144 [ratQ a,ratQ b] (ratQ (a - b)):=by
 have cn:=qNeg b hb hk;have c:=qAdd a (-b) ha hb.neg hj hk;rw [←Rat.sub_eq_add_neg] at c;generalize -b=y at *;generalize a - b=q at *;refine pI func144 rfl ntmps144 results144 call144 ?_;(focus (refine wkad w_t (w_2 cn c) (w_1 (w_d 1 [(2,ratQ y),(3,ratQ q)] [4] [])) ?_;(repeat' first|exact w_t|apply w_l);all_goals intros));simp (disch:=omega) only [go_sem]
theorem qCmp (a b:Rat) {j k:Nat} (ha:Sz a j) (hb:Sz b k) (hj:j≤20000000000) (hk:k≤20000000000):Pure prog 102 [ratQ a,ratQ b] (.v (.int .i64 (cmpQ a b))):=by
 obtain⟨a1,a2⟩:=id ha;obtain⟨b1,b2⟩:=id hb;have na:=Zmg a ha zo;have nb:=Zmg b hb zo;have cm1:=zMul (decide (a.num < 0)) false a.num.natAbs b.den zo zo;have cm2:=zMul (decide (b.num < 0)) false b.num.natAbs a.den zo zo;rw [Zb7] at cm1 cm2;have cm1:Pure prog 109 [intZ a.num,intA false b.den] (intZ (a.num*b.den)):=cm1;have cm2:Pure prog 109 [intZ b.num,intA false a.den] (intZ (b.num*a.den)):=cm2;have x1:(toL (a.num*b.den).natAbs).length≤j+k:=Zef a b ha hb;have x2:(toL (b.num*a.den).natAbs).length≤k+j:=Zef b a hb ha;have cc:=zCmp (a.num*b.den) (b.num*a.den) zo zo;rw [cmpQ_z]
 have cw1:=Zkf b.den;have cw2:=Zkf a.den;generalize a.num*(b.den:Int)=y1 at *;generalize b.num*(a.den:Int)=y2 at *;refine pI func102 rfl ntmps102 results102 call102 ?_
 (refine wkvp w_t w_t (w_s ?_);intros)
 apply Zbo (Zdv [(1,ratQ a),(3,ratQ b)]) [4,5] [] zk zr zk;(focus (simp only [Zyk,Zym,Nat.reduceAdd];rfl))
 (refine wkax w_t (w_2 na nb) w_t w_t w_t w_t w_t (w_r 0) (w_s ?_);intros)
 apply Zbo (Zdv [(4,intA false b.den),(5,intZ y1),(10,intA false a.den),(11,intZ y2),(12,.v (.int .i64 (cmpZ y1 y2)))]) [] [] zk zr zk;(focus (simp only [Zyk,Zym,Nat.reduceAdd];rfl))
 (refine wkax w_t (w_5 cw1 cm1 cw2 cm2 cc) w_t w_t w_t w_t w_t (w_r 0) (w_s ?_);intros)
 simp (disch:=omega) only [go_sem]
theorem qDiv (a b:Rat) {j k:Nat} (ha:Sz a j) (hb:Sz b k) (hj:j≤20000000000) (hk:k≤20000000000) (h0:b≠0):Pure prog 197 [ratQ a,ratQ b] (.tup [ratQ (a/b),.v (.int .i64 0)]):=by
 obtain⟨a1,a2⟩:=id ha;obtain⟨b1,b2⟩:=id hb;have na:=Zmg a ha zo;have nb:=Zmg b hb zo;have cm1:=zMul (decide (a.num < 0)) false a.num.natAbs b.den zo zo;have cm2:=zMul (decide (b.num < 0)) false b.num.natAbs a.den zo zo;rw [Zb7] at cm1 cm2;have cm1:Pure prog 109 [intZ a.num,intA false b.den] (intZ (a.num*b.den)):=cm1;have cm2:Pure prog 109 [intZ b.num,intA false a.den] (intZ (b.num*a.den)):=cm2;have x1:(toL (a.num*b.den).natAbs).length≤j+k:=Zef a b ha hb;have x2:(toL (b.num*a.den).natAbs).length≤k+j:=Zef b a hb ha;have hb0:b.num≠0:=λe=>h0 (Rat.num_eq_zero.1 e);have hd0:(a.den:Int)≠0:=by have:=a.den_nz;omega
 have hw0:b.num*(a.den:Int)≠0:=Int.mul_ne_zero hb0 hd0;have cM:=qMake (a.num*b.den) (b.num*a.den) zo zo hw0
 have e:Rat.divInt (a.num*b.den) (b.num*a.den)=a/b:=by
  rw [Rat.div_def,Rat.inv_def];have h1:a=Rat.divInt a.num a.den:=(Rat.num_divInt_den a).symm;rw [show a*Rat.divInt (b.den:Int) b.num=Rat.divInt a.num a.den*Rat.divInt (b.den:Int) b.num by rw [←h1],Rat.divInt_mul_divInt,Int.mul_comm b.num]
 rw [e] at cM;have cw1:=Zkf b.den;have cw2:=Zkf a.den;generalize a/b=q at *;generalize a.num*(b.den:Int)=y1 at *;generalize b.num*(a.den:Int)=y2 at *;refine pI func197 rfl ntmps197 results197 call197 ?_;(focus (refine wkvp w_t w_t ?_;(repeat' first|exact w_t|apply w_l);all_goals intros));apply Zbo (Zdv [(1,ratQ a),(3,ratQ b)]) [4,5] [] zk zr zk;(focus (simp only [Zyk,Zym,Nat.reduceAdd];rfl));(focus (refine wkax w_t (w_2 na nb) w_t w_t w_t w_t w_t (w_r 0) ?_;(repeat' first|exact w_t|apply w_l);all_goals intros));apply Zbo (Zdv [(4,intA false b.den),(5,intZ y1),(10,intA false a.den),(11,intZ y2),(12,.tup [ratQ q,.v (.int .i64 0)])]) [15] [] zk zr zk;(focus (simp only [Zyk,Zym,Nat.reduceAdd];rfl))
 (focus (refine wkax w_t (w_5 cw1 cm1 cw2 cm2 cM) w_t w_t w_t w_t w_t (w_r 0) ?_;(repeat' first|exact w_t|apply w_l);all_goals intros));simp (disch:=omega) only [go_sem]
theorem szPt:szOf prog 90=some 6:=by kernel_rfl
theorem zPt:Zar prog 90=some (.agg #[.bool false,.slice none 0 0,.slice none 0 0,.bool false,.slice none 0 0,.slice none 0 0]):=by kernel_rfl
structure RQ where
 s:Bool
 l:List Nat
 d:List Nat
def RQ.lm (r:RQ) (k:Nat):Prop:=Lm r.l∧Lm r.d∧r.l.length≤k∧r.d.length≤k
abbrev RQ.av (r:RQ):AV:=.agg [.v (.bool r.s),lim r.l,lim r.d]
def RQ.zok (s:Bool) (l:List Nat):Bool:=valL l && !(s && decide (l.length=0))
def RQ.ok (r:RQ):Bool:=RQ.zok r.s r.l && valL r.d && (Nat.gcd (nv r.l) (nv r.d) == 1) && decide (0 < r.d.length)
def RQ.q (r:RQ):Rat:=mkRat (zI r.s (nv r.l)) (nv r.d)
theorem RQ.ok_av {r:RQ} {k:Nat} (hl:r.lm k) (h:r.ok=true):r.av=ratQ r.q∧Sz r.q k:=by
 obtain⟨s,l,d⟩:=r;obtain⟨h1,h2,h3,h4⟩:=hl;simp only [RQ.ok,RQ.zok,Zyv,Zy1,ZAm,Zz3] at h;obtain⟨⟨⟨⟨v1,v2⟩,v3⟩,v4⟩,v5⟩:=h;have e1:=(Zl2 h1).1 v1;have e2:=(Zl2 h2).1 v3;simp only [RQ.av,RQ.q] at *;generalize nv l=n at *;generalize nv d=m at *;subst e1;subst e2;have hm:m≠0:=by have:=Zbn.1 v5;omega
 have hs:decide (zI s n < 0)=s:=by
  rw [zI_lt];cases s
  ·rfl
  ·have:(toL n).length≠0:=by simpa using v2
   rw [Zx8 (Zbn.1 zo)];rfl
 refine⟨?_,Sz.mk (by rw [Zeh];exact h3) h4 zo⟩;rw [Zqb _ _ hm,Zeh,v4,ZB1,ZB1,hs]
theorem Zpu {a b:Nat}:toL a=toL b↔a=b:=⟨λh=>by rw [←Zak a,h,Zak],λh=>by rw [h]⟩
theorem zRight (s:Bool) (l:List Nat) (hs:l.length≤1000000000000) (hl:Lm l):Pure prog 62 [.agg [.v (.bool s),lim l]] (.v (.bool (RQ.zok s l))):=by
 have cv:=Zrs l zo hl;unfold RQ.zok;generalize valL l=v at *;cases v
 ·refine pI func62 rfl ntmps62 results62 call62 ?_
  (refine wkvp (w_1 @Zzb) (w_1 cv) (w_s ?_);intros)
  simp (disch:=omega) only [go_sem,Zzb]
 ·cases s
  ·refine pI func62 rfl ntmps62 results62 call62 ?_
   (refine wkvp (w_1 @Zzb) (w_1 cv) (w_s ?_);intros)
   simp (disch:=omega) only [go_sem,Zzb]
  ·by_cases h0:l.length=0
   ·refine pI func62 rfl ntmps62 results62 call62 ?_
    (refine wkvp (w_2 h0 @ZAq) (w_1 cv) (w_s ?_);intros)
    simp (disch:=omega) only [go_sem,h0]
   ·refine pI func62 rfl ntmps62 results62 call62 ?_
    (refine wkvp w_t (w_1 cv) (w_s ?_);intros)
    simp (disch:=omega) only [go_sem,h0,Zx6 h0]
theorem Zvr (s:Bool) (l d:List Nat) (h1:Lm l) (h2:Lm d) (h3:l.length≤1000000000000) (h4:d.length≤1000000000000):Pure prog 21 [.agg [.v (.bool s),lim l,lim d]] (.v (.bool (RQ.ok ⟨s,l,d⟩))):=by
 have cz:=zRight s l h3 h1;have cv:=Zrs d zo h2;have cg:=refGcd l d zo zo h1 h2
 have hgl:(toL (Nat.gcd (nv l) (nv d))).length≤1000000000000:=by
  have l1:=Zan h1;have l2:=Zan h2;by_cases hd:nv d=0
  ·rw [hd,Nat.gcd_zero_right];omega
  ·exact Zye (Zc5 (Nat.gcd_le_right _ zo)) zo
 have cs:=refSameN (toL (Nat.gcd (nv l) (nv d))) (toL 1) zo (by rw [Zgu];omega) (Zal _) (Zal _);rw [show decide (toL (Nat.gcd (nv l) (nv d))=toL 1)=(Nat.gcd (nv l) (nv d) == 1) from by rw [Zyn,Zy1,Zz3];exact Zpu] at cs;unfold RQ.ok;generalize RQ.zok s l=v at *;simp only;generalize Nat.gcd (nv l) (nv d)=g at *;cases v
 ·refine pI func21 rfl ntmps21 results21 call21 ?_
  (refine wkvp (w_1 @Zzb) (w_1 cz) (w_s ?_);intros)
  simp (disch:=omega) only [go_sem,Zzb]
 ·generalize valL d=v at *;cases v
  ·refine pI func21 rfl ntmps21 results21 call21 ?_
   (refine wkvp (w_1 @Zzb) (w_2 cz cv) (w_s ?_);intros)
   simp (disch:=omega) only [go_sem,Zzb]
  ·by_cases hg:g=1
   ·have hgb:(g == 1)=true:=by rw [Zz3];exact hg
    rw [hgb] at cs ⊢;by_cases hd:0 < d.length
    ·rw [Zx8 hd];refine pI func21 rfl ntmps21 results21 call21 ?_
     (refine wkvp w_t (w_5 cz cv cg (Zid 1 zo) cs) (w_s ?_);intros)
     simp (disch:=omega) only [go_sem]
    ·rw [Zx6 hd];refine pI func21 rfl ntmps21 results21 call21 ?_
     (refine wkvp w_t (w_5 cz cv cg (Zid 1 zo) cs) (w_s ?_);intros)
     simp (disch:=omega) only [go_sem,ZA3]
   ·have hgb:(g == 1)=false:=by rw [ZDa];exact hg
    rw [hgb] at cs ⊢;refine pI func21 rfl ntmps21 results21 call21 ?_
    (refine wkvp (w_2 @ZA3 @Zzb) (w_5 cz cv cg (Zid 1 zo) cs) (w_s ?_);intros)
    simp (disch:=omega) only [go_sem,ZA3,Zzb]
section
variable {N n:Nat} {cs:List AV}
theorem agN16:Zg5 prog 184=false:=by kernel_rfl
theorem cs16:prog.cellsOf 184=1:=by kernel_rfl
theorem shNat (h:Zcl prog N n 55 cs):∃l:List Nat,cs=[lim l]∧Lm l∧l.length≤N:=by
 obtain⟨bs,rfl,hl,hq⟩:=Zdc (g:=λk:Nat=>[AV.v (.int .u16 (k:Int))]) (Q:=λk=>k < 65536) underlying55 h λm x hx=>by
  obtain⟨i,rfl,hw⟩:=Zic underlying184 hx;have:=wf_u16 hw;exact⟨i.toNat,by rw [ZBd this.1],zo⟩
 refine⟨bs,?_,hq,hl⟩;rw [cs16];have:(bs.map λb:Nat=>Zdn prog 184 [AV.v (.int .u16 (b:Int))])=u16s bs:=ZAj λb _=>Zgl agN16 _;rw [this]
theorem shInt (h:Zcl prog N n 57 cs):∃(s:Bool) (l:List Nat),cs=[.v (.bool s),lim l]∧Lm l∧l.length≤N:=by
 obtain⟨m,rfl,hs⟩:=Zel underlying57 zk h;obtain⟨x,y,rfl,h1,hs⟩:=hs.inv;obtain⟨z,y,rfl,h2,hs⟩:=hs.inv;obtain rfl:=hs.inv0;obtain⟨s,rfl⟩:=Zlf underlying4 h1;obtain⟨l,rfl,h3,h4⟩:=shNat h2;exact⟨s,l,rfl,h3,h4⟩
theorem shRat (h:Zcl prog N n 59 cs):∃r:RQ,cs=[.v (.bool r.s),lim r.l,lim r.d]∧r.lm N:=by
 obtain⟨m,rfl,hs⟩:=Zel underlying59 zk h;obtain⟨x,y,rfl,h1,hs⟩:=hs.inv;obtain⟨z,y,rfl,h2,hs⟩:=hs.inv;obtain rfl:=hs.inv0;obtain⟨s,l,rfl,h3,h4⟩:=shInt h1;obtain⟨d,rfl,h5,h6⟩:=shNat h2;exact⟨⟨s,l,d⟩,rfl,h3,h5,h4,h6⟩
structure RP where
 x:RQ
 y:RQ
abbrev RP.av (p:RP):AV:=.agg [.v (.bool p.x.s),lim p.x.l,lim p.x.d,.v (.bool p.y.s),lim p.y.l,lim p.y.d]
def RP.lm (p:RP) (k:Nat):Prop:=p.x.lm k∧p.y.lm k
end
abbrev iv (n:Int):AV:=.v (.int .i64 n)
abbrev strA (s:ByteArray):AV:=.v (.string s)
abbrev ivs (l:List Int):AV:=.sl 1 (l.map iv)
abbrev Vt:=Int × Int × Int
abbrev Vt.av (v:Vt):AV:=.agg [iv v.1,iv v.2.1,iv v.2.2]
theorem Zo4 {α:Type} {f:α→AV} {l:List α} {j:Nat} {d:α} (h:j < l.length):(l.map f).getD j .u=f (l.getD j d):=by
 rw [Zyg,Zzt,Zyf h,Zyg,Zyf h];rfl
theorem Za2 {α:Type} {l:List α} {j:Nat} {d:α} (h:j < l.length):l.getD j d∈l:=by
 rw [Zyg,Zyf h];exact Zyl h
theorem Zaj {α:Type} (f:α→AV) {l:List α} {k:Nat} (h:k < l.length):(l.map f).getD k .u=f l[k]:=by
 rw [Zyg,Zzt,Zyf h];rfl
theorem Zbt:szOf prog 34=some 1:=by kernel_rfl
theorem zErr:Zar prog 34=some (.int .i64 0):=by kernel_rfl
theorem Zcd:szOf prog 9=some 1:=by kernel_rfl
theorem Zcz:Zep prog 9=some 16:=by kernel_rfl
theorem zStr:Zar prog 9=some (.string ByteArray.empty):=by kernel_rfl
theorem Zdb:szOf prog 106=some 3:=by kernel_rfl
theorem Zdd:Zep prog 106=some 24:=by kernel_rfl
theorem zVar:Zar prog 106=some (.agg #[.int .i64 0,.int .i64 0,.int .i64 0]):=by kernel_rfl
theorem Zaz:szOf prog 40=some 2:=by kernel_rfl
theorem Zbk:Zar prog 40=some (.agg #[.slice none 0 0,.slice none 0 0]):=by kernel_rfl
theorem Zcr:szOf prog 25=some 2:=by kernel_rfl
theorem zFig:Zar prog 25=some (.agg #[.slice none 0 0,.slice none 0 0]):=by kernel_rfl
theorem byPt:Zep prog 90=some 112:=by kernel_rfl
theorem szVec:szOf prog 156=some 6:=by kernel_rfl
theorem zVec:Zar prog 156=some (.agg #[.bool false,.slice none 0 0,.slice none 0 0,.bool false,.slice none 0 0,.slice none 0 0]):=by kernel_rfl
theorem Zbl:szOf prog 111=some 4:=by kernel_rfl
theorem Zfq:Zep prog 111=some 80:=by kernel_rfl
theorem Zcn:Zar prog 111=some (.agg #[.bool false,.slice none 0 0,.slice none 0 0,.slice none 0 0]):=by kernel_rfl
theorem Za4:szOf prog 98=some 2:=by kernel_rfl
theorem Za6:Zep prog 98=some 48:=by kernel_rfl
theorem Zb1:Zar prog 98=some (.agg #[.slice none 0 0,.slice none 0 0]):=by kernel_rfl
theorem Zbe:szOf prog 76=some 6:=by kernel_rfl
theorem Zbh:Zep prog 76=some 104:=by kernel_rfl
theorem Zcj:Zar prog 76=some (.agg #[.int .i64 0,.string ByteArray.empty,.slice none 0 0,.bool false,.slice none 0 0,.slice none 0 0]):=by kernel_rfl
theorem Zek:szOf prog 78=some 5:=by kernel_rfl
theorem Zeq:Zep prog 78=some 88:=by kernel_rfl
theorem Zgk:Zar prog 78=some (.agg #[.int .i64 0,.slice none 0 0,.bool false,.slice none 0 0,.slice none 0 0]):=by kernel_rfl
theorem Zhq:szOf prog 69=some 3:=by kernel_rfl
theorem Zhw:Zep prog 69=some 40:=by kernel_rfl
theorem Zk3:Zar prog 69=some (.agg #[.int .i64 0,.slice none 0 0,.int .i64 0]):=by kernel_rfl
theorem Zc2:szOf prog 167=some 2:=by kernel_rfl
theorem Zc8:Zep prog 167=some 48:=by kernel_rfl
theorem Ze3:Zar prog 167=some (.agg #[.slice none 0 0,.slice none 0 0]):=by kernel_rfl
theorem Zc3:szOf prog 165=some 3:=by kernel_rfl
theorem Zc9:Zep prog 165=some 56:=by kernel_rfl
theorem Ze4:Zar prog 165=some (.agg #[.slice none 0 0,.slice none 0 0,.int .i64 0]):=by kernel_rfl
theorem Zbf:szOf prog 53=some 1:=by kernel_rfl
theorem Zbi:Zep prog 53=some 24:=by kernel_rfl
theorem Zck:Zar prog 53=some (.slice none 0 0):=by kernel_rfl
theorem Ze6:szOf prog 109=some 1:=by kernel_rfl
theorem Zpg:Zep prog 109=some 24:=by kernel_rfl
theorem Zs0:Zar prog 109=some (.slice none 0 0):=by kernel_rfl
theorem Zcf:szOf prog 67=some 1:=by kernel_rfl
theorem zSlI:Zar prog 67=some (.slice none 0 0):=by kernel_rfl
theorem Zcq:szOf prog 22=some 1:=by kernel_rfl
theorem zSlS:Zar prog 22=some (.slice none 0 0):=by kernel_rfl
theorem Zgj:szOf prog 23=some 1:=by kernel_rfl
theorem zSlF:Zar prog 23=some (.slice none 0 0):=by kernel_rfl
theorem Zc1:szOf prog 37=some 1:=by kernel_rfl
theorem zSlC:Zar prog 37=some (.slice none 0 0):=by kernel_rfl
theorem Zcp:szOf prog 38=some 1:=by kernel_rfl
theorem zSlV:Zar prog 38=some (.slice none 0 0):=by kernel_rfl
theorem Zj0:szOf prog 46=some 1:=by kernel_rfl
theorem zSlP:Zar prog 46=some (.slice none 0 0):=by kernel_rfl
theorem Zno:szOf prog 26=some 1:=by kernel_rfl
theorem zSlR:Zar prog 26=some (.slice none 0 0):=by kernel_rfl
theorem Zjz:szOf prog 31=some 1:=by kernel_rfl
theorem Zpf:Zep prog 31=some 24:=by kernel_rfl
theorem Zpn:Zar prog 31=some (.slice none 0 0):=by kernel_rfl
theorem Znp:szOf prog 27=some 1:=by kernel_rfl
theorem zSlB:Zar prog 27=some (.slice none 0 0):=by kernel_rfl
theorem Zpx:szOf prog 118=some 1:=by kernel_rfl
theorem Zua:Zar prog 118=some (.slice none 0 0):=by kernel_rfl
theorem Zj1:szOf prog 64=some 1:=by kernel_rfl
theorem Zpo:Zar prog 64=some (.slice none 0 0):=by kernel_rfl
attribute [go_sem] underlying2
theorem intOfM:Pure prog 155 [iv (-1)] (intZ (-1)):=by
 have hm:=Zi3 true 1 (by rw [Zgu];omega);have hn:=natOf 1 zo;rw [show zI true 1=-1 from rfl] at hm;rw [show intZ (-1)=.agg [.v (.bool true),lim (toL 1)] from rfl] at hm ⊢;generalize toL 1=l at *;refine pI func155 rfl ntmps155 results155 call155 ?_;exact wklp w_t (w_2 hn hm) w_t (w_r 0) w_z
theorem ratOfM:Pure prog 100 [iv (-1)] (ratQ (-1)):=by
 have c:=intOfM;rw [show intZ (-1)=.agg [.v (.bool true),lim (toL 1)] from rfl] at c;rw [show ratQ (-1)=.agg [.v (.bool true),lim (toL 1),lim (toL 1)] from rfl];have u:=Zqa;generalize toL 1=l at *;refine pI func100 rfl ntmps100 results100 call100 ?_;exact wklp w_t (w_2 c u) w_t (w_r 0) w_z
theorem zOfM:Pure prog 108 [iv (-1)] (intZ (-1)):=by
 have hm:=zOf' true 1 (by rw [Zgu];omega);have h0:=Zid 0 zo;have h1:=Zid 1 zo;have ha:=rAdd 0 1 (by rw [Zas];simp) (by rw [Zgu];omega);rw [show zI true 1=-1 from rfl] at hm;rw [show 0+1=1 from rfl] at ha;rw [show intZ (-1)=.agg [.v (.bool true),lim (toL 1)] from rfl] at hm ⊢;generalize toL 1=l at *;generalize toL 0=k at *;refine pI func108 rfl ntmps108 results108 call108 ?_;exact wklp w_t (w_4 h0 h1 ha hm) w_t (w_r 0) w_z
theorem qOfM:Pure prog 42 [iv (-1)] (ratQ (-1)):=by
 have c:=zOfM;have h1:=Zid 1 zo;have co:Pure prog 107 [.agg [.v (.bool true),lim (toL 1)],lim (toL 1)] (ratQ (mkRat (zI true 1) 1)):=Zn5 true 1 1 (by rw [Zgu];omega) (by rw [Zgu];omega) zo;rw [show mkRat (zI true 1) 1=(-1:Rat) from rfl] at co;rw [show intZ (-1)=.agg [.v (.bool true),lim (toL 1)] from rfl] at c;rw [show ratQ (-1)=.agg [.v (.bool true),lim (toL 1),lim (toL 1)] from rfl] at *;generalize toL 1=l at *;refine pI func42 rfl ntmps42 results42 call42 ?_;exact wklp w_t (w_3 c h1 co) w_t (w_r 0) w_z
theorem Zde:szOf prog 163=some 1:=by kernel_rfl
theorem Zff:Zar prog 163=some (.pointer none):=by kernel_rfl
theorem Zfg:szOf prog 200=some 1:=by kernel_rfl
theorem zFnC:Zar prog 200=some (.nilFunc):=by kernel_rfl
attribute [go_sem] underlying90 underlying156 zErr szPt byPt zPt szVec zVec
attribute [local go_sem] Zbt
abbrev ptQ (x y:Rat):AV:=.agg [.v (.bool (decide (x.num < 0))),lim (toL x.num.natAbs),lim (toL x.den),.v (.bool (decide (y.num < 0))),lim (toL y.num.natAbs),lim (toL y.den)]
theorem plFrom (a b c d:Rat) {j:Nat} (ha:Sz a j) (hb:Sz b j) (hc:Sz c j) (hd:Sz d j) (hj:j≤10000000000):Pure prog 92 [ptQ a b,ptQ c d] (ptQ (c - a) (d - b)):=by
 have c1:=Zvj c a hc ha zo zo;have c2:=Zvj d b hd hb zo zo;generalize c - a=u at *;generalize d - b=v at *;refine pI func92 rfl ntmps92 results92 call92 ?_;(focus (refine wkad w_t (w_2 c1 c2) (w_1 (w_d 1 [(4,ratQ u),(9,ratQ v)] [] [4])) ?_;(repeat' first|exact w_t|apply w_l);all_goals intros));simp (disch:=omega) only [go_sem]
theorem plCross (a b c d:Rat) {j:Nat} (ha:Sz a j) (hb:Sz b j) (hc:Sz c j) (hd:Sz d j) (hj:j≤10000000000):Pure prog 98 [ptQ a b,ptQ c d] (ratQ (a*d - b*c)):=by
 have c1:=Zrv a d ha hd zo zo;have c2:=Zrv b c hb hc zo zo;have c3:=Zvj (a*d) (b*c) (ha.mul hd) (hb.mul hc) zo zo;generalize a*d - b*c=x at *;generalize a*d=u at *;generalize b*c=v at *;refine pI func98 rfl ntmps98 results98 call98 ?_;(focus (refine wkad w_t (w_3 c1 c2 c3) (w_1 (w_d 1 [(4,ratQ u),(9,ratQ v),(10,ratQ x)] [] [4])) ?_;(repeat' first|exact w_t|apply w_l);all_goals intros));simp (disch:=omega) only [go_sem]
abbrev PQ:=Rat × Rat
abbrev PQ.av (p:PQ):AV:=ptQ p.1 p.2
def PQ.sz (p:PQ) (j:Nat):Prop:=Sz p.1 j∧Sz p.2 j
def Zb4 (p q r s:PQ):Rat:=(q.1 - p.1)*(s.2 - r.2) - (q.2 - p.2)*(s.1 - r.1)
def dotP (p q r s:PQ):Rat:=(q.1 - p.1)*(s.1 - r.1)+(q.2 - p.2)*(s.2 - r.2)
theorem Zg0 {p q r s:PQ} {j:Nat} (hp:p.sz j) (hq:q.sz j) (hr:r.sz j) (hs:s.sz j):Sz (Zb4 p q r s) (8*j+5):=by
 unfold Zb4;exact(((hq.1.sub hp.1).mul (hs.2.sub hr.2)).sub ((hq.2.sub hp.2).mul (hs.1.sub hr.1))).mono zo
theorem Zds {p q r s:PQ} {j:Nat} (hp:p.sz j) (hq:q.sz j) (hr:r.sz j) (hs:s.sz j):Sz (dotP p q r s) (8*j+5):=by
 unfold dotP;exact(((hq.1.sub hp.1).mul (hs.1.sub hr.1)).add ((hq.2.sub hp.2).mul (hs.2.sub hr.2))).mono zo
theorem Zr2 (p q r s:PQ) {j:Nat} (hp:p.sz j) (hq:q.sz j) (hr:r.sz j) (hs:s.sz j) (hj:j≤1000000000):Pure prog 58 [p.av,q.av,r.av,s.av] (ratQ (Zb4 p q r s)):=by
 have c1:=plFrom p.1 p.2 q.1 q.2 hp.1 hp.2 hq.1 hq.2 zo;have c2:=plFrom r.1 r.2 s.1 s.2 hr.1 hr.2 hs.1 hs.2 zo;have c3:=plCross (q.1 - p.1) (q.2 - p.2) (s.1 - r.1) (s.2 - r.2) (hq.1.sub hp.1) (hq.2.sub hp.2) (hs.1.sub hr.1) (hs.2.sub hr.2) zo;unfold Zb4;obtain⟨p1,p2⟩:=p;obtain⟨q1,q2⟩:=q;obtain⟨r1,r2⟩:=r;obtain⟨s1,s2⟩:=s;simp only at *;generalize (q1 - p1)*(s2 - r2) - (q2 - p2)*(s1 - r1)=x at *;generalize q1 - p1=a at *;generalize q2 - p2=b at *;generalize s1 - r1=c at *;generalize s2 - r2=d at *;refine pI func58 rfl ntmps58 results58 call58 ?_;(focus (refine wkad w_t (w_3 c1 c2 c3) (w_1 (w_d 1 [(2,ptQ a b),(5,ptQ c d),(6,ratQ x)] [] [8])) ?_;(repeat' first|exact w_t|apply w_l);all_goals intros))
 simp (disch:=omega) only [go_sem]
theorem qEqual (a b:Rat) {j k:Nat} (ha:Sz a j) (hb:Sz b k) (hj:j≤10000000000) (hk:k≤10000000000):Pure prog 38 [ratQ a,ratQ b] (.v (.bool (decide (a=b)))):=by
 have c:=qCmp a b ha hb zo zo
 have e:(cmpQ a b == 0)=decide (a=b):=by
  rw [Zyn,Zz3,Zy1];unfold cmpQ;constructor
  ·intro h;split at h
   ·omega
   ·split at h
    ·omega
    ·rename_i h1 h2;exact Rat.le_antisymm (Rat.not_lt.1 h2) (Rat.not_lt.1 h1)
  ·rintro rfl
   simp
 rw [←e];generalize cmpQ a b=s at *;refine pI func38 rfl ntmps38 results38 call38 ?_
 (refine wkvp w_t (w_1 c) (w_s ?_);intros)
 simp (disch:=omega) only [go_sem]
attribute [local go_sem] Bool.and_self
theorem Zd5 (a b c d:Rat) {j:Nat} (ha:Sz a j) (hb:Sz b j) (hc:Sz c j) (hd:Sz d j) (hj:j≤10000000000):Pure prog 140 [ptQ a b,ptQ c d] (ptQ (c - a) (d - b)):=by
 have c1:=qSub c a hc ha zo zo;have c2:=qSub d b hd hb zo zo;generalize c - a=u at *;generalize d - b=v at *;refine pI func140 rfl ntmps140 results140 call140 ?_;(focus (refine wkad w_t (w_2 c1 c2) (w_1 (w_d 1 [(4,ratQ u),(9,ratQ v)] [] [4])) ?_;(repeat' first|exact w_t|apply w_l);all_goals intros));simp (disch:=omega) only [go_sem]
theorem Zrx (a b c d:Rat) {j:Nat} (ha:Sz a j) (hb:Sz b j) (hc:Sz c j) (hd:Sz d j) (hj:j≤10000000000):Pure prog 149 [ptQ a b,ptQ c d] (ratQ (a*d - b*c)):=by
 have c1:=qMul a d ha hd zo zo;have c2:=qMul b c hb hc zo zo;have c3:=qSub (a*d) (b*c) (ha.mul hd) (hb.mul hc) zo zo;generalize a*d - b*c=x at *;generalize a*d=u at *;generalize b*c=v at *;refine pI func149 rfl ntmps149 results149 call149 ?_;(focus (refine wkad w_t (w_3 c1 c2 c3) (w_1 (w_d 1 [(4,ratQ u),(9,ratQ v),(10,ratQ x)] [] [4])) ?_;(repeat' first|exact w_t|apply w_l);all_goals intros));simp (disch:=omega) only [go_sem]
theorem Zgg (a b c d:Rat) {j:Nat} (ha:Sz a j) (hb:Sz b j) (hc:Sz c j) (hd:Sz d j) (hj:j≤10000000000):Pure prog 142 [ptQ a b,ptQ c d] (ratQ (a*c+b*d)):=by
 have c1:=qMul a c ha hc zo zo;have c2:=qMul b d hb hd zo zo;have c3:=qAdd (a*c) (b*d) (ha.mul hc) (hb.mul hd) zo zo;generalize a*c+b*d=x at *;generalize a*c=u at *;generalize b*d=v at *;refine pI func142 rfl ntmps142 results142 call142 ?_;(focus (refine wkad w_t (w_3 c1 c2 c3) (w_1 (w_d 1 [(4,ratQ u),(9,ratQ v),(10,ratQ x)] [] [4])) ?_;(repeat' first|exact w_t|apply w_l);all_goals intros));simp (disch:=omega) only [go_sem]
theorem Zn4 (p q r s:PQ) {j:Nat} (hp:p.sz j) (hq:q.sz j) (hr:r.sz j) (hs:s.sz j) (hj:j≤1000000000):Pure prog 148 [p.av,q.av,r.av,s.av] (ratQ (Zb4 p q r s)):=by
 have c1:=Zd5 p.1 p.2 q.1 q.2 hp.1 hp.2 hq.1 hq.2 zo;have c2:=Zd5 r.1 r.2 s.1 s.2 hr.1 hr.2 hs.1 hs.2 zo;have c3:=Zrx (q.1 - p.1) (q.2 - p.2) (s.1 - r.1) (s.2 - r.2) (hq.1.sub hp.1) (hq.2.sub hp.2) (hs.1.sub hr.1) (hs.2.sub hr.2) zo;unfold Zb4;obtain⟨p1,p2⟩:=p;obtain⟨q1,q2⟩:=q;obtain⟨r1,r2⟩:=r;obtain⟨s1,s2⟩:=s;simp only at *;generalize (q1 - p1)*(s2 - r2) - (q2 - p2)*(s1 - r1)=x at *;generalize q1 - p1=a at *;generalize q2 - p2=b at *;generalize s1 - r1=c at *;generalize s2 - r2=d at *;refine pI func148 rfl ntmps148 results148 call148 ?_;(focus (refine wkad w_t (w_3 c1 c2 c3) (w_1 (w_d 1 [(2,ptQ a b),(5,ptQ c d),(6,ratQ x)] [] [8])) ?_;(repeat' first|exact w_t|apply w_l);all_goals intros))
 simp (disch:=omega) only [go_sem]
theorem Zrw (a b:Rat) {j k:Nat} (ha:Sz a j) (hb:Sz b k) (hj:j≤10000000000) (hk:k≤10000000000):Pure prog 125 [ratQ a,ratQ b] (.v (.bool (decide (a=b)))):=by
 have c:=ratCmp a b ha hb zo zo
 have e:(cmpQ a b == 0)=decide (a=b):=by
  rw [Zyn,Zz3,Zy1];unfold cmpQ;constructor
  ·intro h;split at h
   ·omega
   ·split at h
    ·omega
    ·rename_i h1 h2;exact Rat.le_antisymm (Rat.not_lt.1 h2) (Rat.not_lt.1 h1)
  ·rintro rfl
   simp
 rw [←e];generalize cmpQ a b=s at *;refine pI func125 rfl ntmps125 results125 call125 ?_
 (refine wkvp w_t (w_1 c) (w_s ?_);intros)
 simp (disch:=omega) only [go_sem]
theorem szIns:szOf prog 33=some 3:=by kernel_rfl
theorem zIns:Zar prog 33=some (.agg #[.slice none 0 0,.slice none 0 0,.slice none 0 0]):=by kernel_rfl
theorem Zgm:szOf prog 178=some 2:=by kernel_rfl
theorem Zg2:Zep prog 178=some 48:=by kernel_rfl
theorem Zjy:Zar prog 178=some (.agg #[.slice none 0 0,.slice none 0 0]):=by kernel_rfl
theorem szA2P:szOf prog 166=some 2:=by kernel_rfl
theorem zA2P:Zar prog 166=some (.agg #[.slice none 0 0,.slice none 0 0]):=by kernel_rfl
def blN:Nat→Nat→Nat
 | 0,_=>0
 | f+1,t=>if t=0 then 0 else blN f (t/2)+1
theorem blN_le:∀f t,blN f t≤f
 | 0,_=>Zx7 _
 | f+1,t=>by
   unfold blN;split
   ·omega
   ·have:=blN_le f (t/2);omega
def bitF (n:Nat):Nat:=if n=0 then 0 else 16*((toL n).length - 1)+blN 16 (gN (toL n) ((toL n).length - 1))
theorem bitF_le (n:Nat):bitF n≤16*(toL n).length:=by
 unfold bitF;split
 ·omega
 ·rename_i h;have:=blN_le 16 (gN (toL n) ((toL n).length - 1));have:=Zbn.2 (Zz7 h);omega
theorem refBits (n:Nat) (hn:(toL n).length≤100000000000):Pure prog 249 [lim (toL n)] (.v (.int .i64 (bitF n:Int))):=by
 have cn:=Zvl n zo;have hl:=Zal n;by_cases h0:n=0
 ·subst h0;have l0:(toL 0).length=0:=by rw [Zas];rfl
  rw [show bitF 0=0 from rfl];refine pI func249 rfl ntmps249 results249 call249 ?_;(focus (refine wkap (w_2 l0 @ZAq) (w_1 cn) (w_r 0) ?_;(repeat' first|exact w_t|apply w_l);all_goals intros));all_goals exact gL
 ·have hp:=Zbn.2 (Zz7 h0);have hb:bitF n=16*((toL n).length - 1)+blN 16 (gN (toL n) ((toL n).length - 1)):=Zx4 h0;have ht:=Zbw hl ((toL n).length - 1);rw [hb];generalize toL n=l at *;generalize hN:l.length - 1=N at *;have e1:(l.length:Int) - 1=(N:Int):=zo;have e2:(16:Int)*(N:Int)=((16*N:Nat):Int):=zo;have hz:¬(l.length:Int)=0:=zo;generalize hT:gN l N=T at *;refine pI func249 rfl ntmps249 results249 call249 ?_;(focus (refine wkap (w_4 hz e1 e2 hT) (w_1 cn) (w_r 0) ?_;(repeat' first|exact w_t|apply w_l);all_goals intros));refine Zad (ι:=Nat × Nat) (λx e m=>x.1≤16∧x.2 < 2 ^ (16 - x.1)∧x.1+blN (16 - x.1) x.2=blN 16 T∧e 3=.v (.int .i64 ((16*N+x.1:Nat):Int))∧e 4=.v (.int .u16 (x.2:Int))) (λx=>x.2) (0,T) zr ?_ ?_
  ·rintro ⟨j,t⟩ e m ⟨hj,hlt,hB,e3,e4⟩
   simp only at hj hlt hB e3 e4 ⊢;by_cases ht0:t=0
   ·subst ht0;have hb0:blN (16 - j) 0=0:=by cases 16 - j<;>rfl
    rw [hb0,Zzf] at hB;subst hB;(focus (refine wkap (w_3 e3 e4 @ZAq) w_t (w_r 0) ?_;(repeat' first|exact w_t|apply w_l);all_goals intros));all_goals exact gL
   ·have hj16:j < 16:=by
     rcases Zyr j 16 with h | h
     ·exact h
     ·rw [show 16 - j=0 by omega] at hlt;simp at hlt;omega
    have hs:16 - j=(16 - (j+1))+1:=zo;have hb1:blN (16 - j) t=blN (16 - (j+1)) (t/2)+1:=by rw [hs];exact Zx4 ht0
    have hlt2:t/2 < 2 ^ (16 - (j+1)):=by rw [hs,Zzi] at hlt;omega
    have htp:(0:Int) < (t:Int):=zo;have hq:(t:Int).tdiv 2=((t/2:Nat):Int):=Zdh t 2
    have hc:t/2%65536=t/2:=by
     have:2 ^ (16 - j)≤2 ^ 16:=Zzj zo zo;omega
    (focus (refine wkap (w_6 e3 e4 htp hq @Zbd hc) w_t (w_r 0) ?_;(repeat' first|exact w_t|apply w_l);all_goals intros));exact⟨(j+1,t/2),⟨zo,hlt2,by simp only;omega,gS,gC⟩,by simp only;omega⟩
  ·exact⟨zo,by simp only;omega,by simp,gC,gC⟩
theorem refSh1 (i:Nat) (hi:i≤10000000000000):∃s,Pure prog 250 [lim (toL 1),.v (.int .i64 (i:Int))] (lim (toL s))∧(toL s).length≤i/16+2:=by
 by_cases hb:i≤1048576
 ·have h1:¬(1048576:Int) < (i:Int):=zo;have h2:¬(i:Int) < -1048576:=zo;have h3:(0:Int)≤(i:Int):=zo;have q1:(i:Int).tdiv 16=((i/16:Nat):Int):=Zdh i 16;have hkk:i/16≤65536:=zo;have q2:(i:Int).tmod 16=((i%16:Nat):Int):=Zd8 i 16;have hp:2 ^ (i%16)≤2 ^ 15:=Zzj zo zo
  have q3:shlI .u64 1 ((i%16:Nat):Int)=((2 ^ (i%16):Nat):Int):=by
   have:=Zu4 (x:=1) (s:=i%16) zo zo
   rwa [Zz4] at this
  have l1:(toL 1).length≤1:=Zac.2 zd;have l2:(toL (2 ^ (i%16))).length≤1:=Zac.2 zo;have c1:=Zid (2 ^ (i%16)) zo;have c2:=rMul 1 (2 ^ (i%16)) zo zo;rw [Zz4] at c2;have hlm:Lm (List.replicate (i/16) 0++toL (2 ^ (i%16))):=λx hx=>by
   rcases List.mem_append.1 hx with h | h
   ·rw [(List.mem_replicate.1 h).2];decide
   ·exact Zal _ x h
  have hll:(List.replicate (i/16) 0++toL (2 ^ (i%16))).length≤i/16+1:=by rw [Zy0,ZBz];omega
  have c3:=Zd9 _ zo hlm;refine⟨nv (List.replicate (i/16) 0++toL (2 ^ (i%16))),?_,?_⟩
  ·have hr:List.replicate (i/16) (AV.v (.int .u16 0))++u16s (toL (2 ^ (i%16)))=u16s (List.replicate (i/16) 0++toL (2 ^ (i%16))):=by rw [Zrg,Zrj]
   have hul:=Zav (toL (2 ^ (i%16)));generalize nv (List.replicate (i/16) 0++toL (2 ^ (i%16)))=s at *;generalize hZ:List.replicate (i/16) 0++toL (2 ^ (i%16))=Z at *;generalize toL (2 ^ (i%16))=W at *;generalize ((2 ^ (i%16):Nat):Int)=V at *;generalize i/16=k at *;have hkr:(List.replicate k (AV.v (.int .u16 0))).length=k:=ZBz ..;refine pI func250 rfl ntmps250 results250 call250 ?_;(focus (refine wkax (w_9 h1 h2 h3 q1 q2 q3 hZ hul hkr) (w_2 c1 c2) w_t (w_1 c3) w_t w_t w_y (w_r 0) ?_;(repeat' first|exact w_t|apply w_l);all_goals intros));all_goals exact gL
  ·refine Zye (Zan hlm) zo
 ·refine⟨0,?_,by rw [Zas];exact Zyi _⟩;have h1:(1048576:Int) < (i:Int):=zo;rw [Zas];refine Zdm (r:=.v (.slice none 0 0)) ?_ (.nil 1);refine pI func250 rfl ntmps250 results250 call250 ?_;(focus (refine wkad (w_1 h1) w_t w_t ?_;(repeat' first|exact w_t|apply w_l);all_goals intros));all_goals exact gL
theorem cmp_le {a b:Nat}:cmpN a b≤0↔a≤b:=by
 unfold cmpN;split
 ·constructor<;>intro<;>omega
 ·split
  ·constructor<;>intro<;>omega
  ·constructor<;>intro<;>omega
theorem Zvc (n:Nat) (hn:(toL n).length≤10000000000):∃r s,Pure prog 228 [lim (toL n)] (.tup [lim (toL r),lim (toL s)])∧r*r+s=n:=by
 obtain⟨f,hf⟩:∃f:Nat→Nat,∀i:Nat,i≤10000000000000→Pure prog 250 [lim (toL 1),.v (.int .i64 (i:Int))] (lim (toL (f i)))∧(toL (f i)).length≤i/16+2:=by
  refine⟨λi=>if h:i≤10000000000000 then (refSh1 i h).choose else 0,λi hi=>?_⟩;simp only [dif_pos hi];exact(refSh1 i hi).choose_spec
 obtain⟨g,hg⟩:∃g:Nat→Nat→Nat,∀i r,g i r=if (r+f i)*(r+f i)≤n then r+f i else r:=⟨_,λ_ _=>rfl⟩;obtain⟨R,hR0,hRs⟩:∃R:Nat→Nat→Nat,(∀r,R 0 r=r)∧∀k r,R (k+1) r=R k (g k r):=⟨λk=>Nat.rec (λr=>r) (λk h r=>h (g k r)) k,λ_=>rfl,λ_ _=>rfl⟩;have hB:=bitF_le n;have cB:=refBits n zo;generalize bitF n=B at *
 have hq:((B:Int) - 1).tdiv 2=(((B - 1)/2:Nat):Int):=by
  by_cases h:B=0
  ·subst h;decide
  ·rw [show(B:Int) - 1=((B - 1:Nat):Int) by omega];exact Zdh (B - 1) 2
 obtain⟨K,hK⟩:∃K,K=(B - 1)/2+1:=⟨_,rfl⟩
 have hinv:∀k r,r*r≤n→R k r*R k r≤n:=by
  intro k
  induction k with
  | zero=>intro r h;rw [hR0];exact h
  | succ k ih =>
    intro r h;rw [hRs];refine ih _ ?_;rw [hg];split
    ·assumption
    ·exact h
 have hfin:=hinv K 0 (Zyi _);refine⟨R K 0,n - R K 0*R K 0,?_,zo⟩;have hsz:∀r,r*r≤n→(toL r).length≤10000000000:=λr h=>Zye (Zc5 (by
  rcases Zzk r with h0 | h0
  ·omega
  ·exact Zye (Nat.le_mul_of_pos_left r h0) h)) hn
 have c1:Pure prog 66 [.v (.int .u64 1)] (lim (toL 1)):=Zid 1 zo;have cm:=rMul (R K 0) (R K 0) (by have:=hsz _ hfin;omega) (by have:=hsz _ hfin;omega);have cs:=rSub n (R K 0*R K 0) zo (Zye (Zc5 hfin) zo);rw [Zx4 zo,Zx4 zo] at cs;have hKB:(((B - 1)/2:Nat):Int)=(K:Int) - 1:=zo;have e0:toL 0=[]:=Zas;refine Zdm (r:=.tup [lim (toL (R K 0)),lim (toL (n - R K 0*R K 0))]) ?_ (Vk.refl _);refine pI func228 rfl ntmps228 results228 call228 ?_;(focus (refine wkap (w_1 hq) (w_1 cB) (w_r 0) ?_;(repeat' first|exact w_t|apply w_l);all_goals intros));refine Zf5 (Frz.nil (d:=4) 1 (gC)) ?_
 refine Zad (ι:=Nat × Nat) (λx e m=>x.1≤K∧x.2*x.2≤n∧R x.1 x.2=R K 0∧e 0=lim (toL n)∧e 4=lim (toL x.2)∧e 5=.v (.int .i64 ((x.1:Int) - 1))) (λx=>x.1) (K,0) zr ?_ ?_
 ·rintro ⟨k,r⟩ e m ⟨hk,hr,hRr,e0',e4,e5⟩
  simp only at hk hr hRr e4 e5 ⊢
  cases k with
  | zero =>
    rw [hR0] at hRr;subst hRr;rw [show((0:Nat):Int) - 1=-1 from rfl] at e5;(focus (refine wkap (w_3 e0' e4 e5) (w_2 cm cs) (w_r 0) ?_;(repeat' first|exact w_t|apply w_l);all_goals intros));all_goals exact gL
  | succ k =>
    rw [show((k+1:Nat):Int) - 1=(k:Int) by omega] at e5;have hkB:k≤10000000000000:=zo;obtain⟨cf,hfl⟩:=hf k hkB;have zr:=hsz r hr;have ca:=rAdd r (f k) zo zo;have hal:(toL (r+f k)).length≤max (toL r).length (toL (f k)).length+1:=Zlq _ _;have cp:=rMul (r+f k) (r+f k) zo zo;have hml:(toL ((r+f k)*(r+f k))).length≤(toL (r+f k)).length+(toL (r+f k)).length:=Zfm _ _;have cc:=rCmp ((r+f k)*(r+f k)) n zo zo;have hcl:=@cmp_le ((r+f k)*(r+f k)) n;have hk0:(0:Int)≤(k:Int):=zo;rw [hRs] at hRr;by_cases hle:(r+f k)*(r+f k)≤n
    ·rw [hg,Zx5 hle] at hRr;have hle':=hcl.2 hle;generalize cmpN ((r+f k)*(r+f k)) n=z at *;generalize hX:r+f k=x at *;(focus (refine wkap (w_5 e0' e4 e5 hk0 hle') (w_5 c1 cf ca cp cc) (w_r 0) ?_;(repeat' first|exact w_t|apply w_l);all_goals intros));exact⟨(k,x),⟨zo,hle,hRr,gW e0',gC,gC⟩,by simp only;omega⟩
    ·rw [hg,Zx4 hle] at hRr;have hle':¬cmpN ((r+f k)*(r+f k)) n≤0:=λh=>hle (hcl.1 h);generalize cmpN ((r+f k)*(r+f k)) n=z at *;generalize r+f k=x at *;(focus (refine wkap (w_5 e0' e4 e5 hk0 hle') (w_5 c1 cf ca cp cc) (w_r 0) ?_;(repeat' first|exact w_t|apply w_l);all_goals intros));exact⟨(k,r),⟨zo,hr,hRr,gW e0',gW e4,gC⟩,by simp only;omega⟩
 ·exact⟨Zx7 _,Zyi _,rfl,gC,gW e0,by(simp (disch:=omega) only [go_sem,hKB]<;>repeat' first|rfl|refine⟨?_,?_⟩)⟩
theorem szA4:szOf prog 91=some 24:=by kernel_rfl
theorem byA4:Zep prog 91=some 448:=by kernel_rfl
theorem zA4:Zar prog 91=some (.agg #[.bool false,.slice none 0 0,.slice none 0 0,.bool false,.slice none 0 0,.slice none 0 0,.bool false,.slice none 0 0,.slice none 0 0,.bool false,.slice none 0 0,.slice none 0 0,.bool false,.slice none 0 0,.slice none 0 0,.bool false,.slice none 0 0,.slice none 0 0,.bool false,.slice none 0 0,.slice none 0 0,.bool false,.slice none 0 0,.slice none 0 0]):=by kernel_rfl
theorem szSt:szOf prog 88=some 3:=by kernel_rfl
theorem bySt:Zep prog 88=some 56:=by kernel_rfl
theorem zSt:Zar prog 88=some (.agg #[.slice none 0 0,.slice none 0 0,.int .i64 0]):=by kernel_rfl
theorem Znq:szOf prog 33=some 3:=by kernel_rfl
theorem Zph:Zep prog 33=some 72:=by kernel_rfl
theorem Zuc:Zar prog 33=some (.agg #[.slice none 0 0,.slice none 0 0,.slice none 0 0]):=by kernel_rfl
theorem Zuv:szOf prog 208=some 1:=by kernel_rfl
theorem zFnN:Zar prog 208=some (.nilFunc):=by kernel_rfl
theorem undFnN:prog.underlying 208=some (.func #[98,98] #[53] false):=by kernel_rfl
theorem byVec:Zep prog 156=some 112:=by kernel_rfl
theorem Zuu:szOf prog 49=some 7:=by kernel_rfl
theorem Zxv:Zep prog 49=some 168:=by kernel_rfl
theorem zProb:Zar prog 49=some (.agg #[.slice none 0 0,.slice none 0 0,.slice none 0 0,.slice none 0 0,.slice none 0 0,.slice none 0 0,.slice none 0 0]):=by kernel_rfl
theorem byRq:Zep prog 59=some 56:=by kernel_rfl
end Go.Proofs.YtenfejhaohihoaaGreat
namespace Go.Proofs.YtenfejhaohihoaaGreat
open Go Go.RowKit Go.Pg Go.Proofs.Tryz
def Can (l:List Int):Prop:=(∀j,0≤gI l j)∧(l.length=0∨gI l (l.length - 1)≠0)
def LTm (a b:List Int):Prop:=∃k,gI a k < gI b k∧∀j,k < j→gI a j=gI b j
def ltM (a b:List Int):Prop:=lexC a b (max a.length b.length)=-1
instance:DecidableRel ltM:=λa b=>inferInstanceAs (Decidable (lexC a b (max a.length b.length)=-1))
theorem Zwu {a b:List Int}:∀n,lexC a b n=-1↔∃k,k < n∧gI a k < gI b k∧∀j,k < j→j < n→gI a j=gI b j
 | 0=>by
   constructor
   ·intro h;exact absurd h (by show ¬(0:Int)=-1;omega)
   ·rintro ⟨k,h,_⟩;omega
 | n+1=>by
   unfold lexC;by_cases h:gI a n=gI b n
   ·rw [Zx5 h,Zwu n];constructor
    ·rintro ⟨k,h1,h2,h3⟩
     exact⟨k,zo,h2,λj h4 h5=>by by_cases hj:j=n;subst hj;exact h;exact h3 j h4 zo⟩
    ·rintro ⟨k,h1,h2,h3⟩
     have:k≠n:=by rintro rfl;omega
     exact⟨k,zo,h2,λj h4 h5=>h3 j h4 zo⟩
   ·rw [Zx4 h];unfold lt1;constructor
    ·intro h1;by_cases h2:gI a n < gI b n
     ·exact⟨n,zo,h2,λj h3 h4=>zo⟩
     ·rw [Zx4 h2] at h1;omega
    ·rintro ⟨k,h1,h2,h3⟩
     by_cases hk:k=n
     ·subst hk;rw [Zx5 h2]
     ·exact absurd (h3 n zo zo) h
theorem Ziz {a b:List Int}:ltM a b↔LTm a b:=by
 unfold ltM LTm;rw [Zwu];constructor
 ·rintro ⟨k,h1,h2,h3⟩
  refine⟨k,h2,λj h4=>?_⟩;by_cases hj:j < max a.length b.length
  ·exact h3 j h4 hj
  ·rw [Zb3 zo,Zb3 zo]
 ·rintro ⟨k,h2,h3⟩
  refine⟨k,?_,h2,λj h4 _=>h3 j h4⟩;by_cases hk:k < max a.length b.length
  ·exact hk
  ·rw [Zb3 zo,Zb3 zo] at h2;omega
theorem Zi0 {a b:List Int}:∀n,lexC a b n=0∧(∀j,j < n→gI a j=gI b j)∨lexC a b n=-1∨lexC a b n=1
 | 0=>.inl ⟨rfl,λj h=>zo⟩
 | n+1=>by
   unfold lexC;by_cases h:gI a n=gI b n
   ·rw [Zx5 h];rcases @Zi0 a b n with⟨h1,h2⟩ | h1
    ·exact .inl ⟨h1,λj hj=>by by_cases e:j=n;subst e;exact h;exact h2 j zo⟩
    ·exact .inr h1
   ·rw [Zx4 h];unfold lt1;split
    ·exact .inr (.inl rfl)
    ·exact .inr (.inr rfl)
theorem Zmt {a b:List Int}:∀n,lexC b a n=- lexC a b n
 | 0=>rfl
 | n+1=>by
   unfold lexC;by_cases h:gI a n=gI b n
   ·rw [Zx5 h,Zx5 h.symm,Zmt n]
   ·rw [Zx4 h,Zx4 (λe=>h e.symm)];unfold lt1;by_cases h1:gI a n < gI b n
    ·rw [Zx5 h1,Zx4 zo];rfl
    ·rw [Zx4 h1,Zx5 zo]
theorem Zxs {a b:List Int} (ha:Can a) (hb:Can b) (h:∀j,gI a j=gI b j):a=b:=by
 have hl:a.length=b.length:=by
  have h1:=h (a.length - 1);have h2:=h (b.length - 1);rcases Nat.lt_trichotomy a.length b.length with hl | hl | hl
  ·rcases hb.2 with hb0 | hb0
   ·omega
   ·rw [←h2,Zb3 zo] at hb0;exact absurd rfl hb0
  ·exact hl
  ·rcases ha.2 with ha0 | ha0
   ·omega
   ·rw [h1,Zb3 zo] at ha0;exact absurd rfl ha0
 refine List.ext_getElem hl λj h1 h2=>?_;have:=h j
 rwa [Zdr h1,Zdr h2] at this
theorem ordM:Go.Pol.KO Can ltM where
 irr x h:=by obtain⟨k,h1,_⟩:=Ziz.1 h;omega
 tr x y z h g:=by
  obtain⟨k,h1,h2⟩:=Ziz.1 h;obtain⟨i,g1,g2⟩:=Ziz.1 g;rw [Ziz];rcases Nat.lt_trichotomy k i with h3 | h3 | h3
  ·exact⟨i,by rw [h2 i h3];exact g1,λj hj=>by rw [h2 j zo,g2 j hj]⟩
  ·subst h3;exact⟨k,zo,λj hj=>by rw [h2 j hj,g2 j hj]⟩
  ·exact⟨k,by rw [←g2 k h3];exact h1,λj hj=>by rw [h2 j hj,g2 j zo]⟩
 tri x y hx hy:=by
  rcases @Zi0 x y (max x.length y.length) with⟨_,h⟩ | h | h
  ·refine .inr (.inl (Zxs hx hy λj=>?_));by_cases hj:j < max x.length y.length
   ·exact h j hj
   ·rw [Zb3 zo,Zb3 zo]
  ·exact .inl h
  ·refine .inr (.inr ?_);unfold ltM;rw [Nat.max_comm,Zmt,h]
theorem Zfo (F:Int→Int→Int) (h0:F 0 0=0) (a b:List Int) (j:Nat):gI (zipI F a b) j=F (gI a j) (gI b j):=by
 by_cases h:j < max a.length b.length
 ·rw [Zdr (by unfold zipI;simpa using h)];unfold zipI;simp only [List.getElem_map,List.getElem_range]
 ·rw [Zb3 (by unfold zipI;simp only [Zx9,List.length_range];omega),Zb3 zo,Zb3 zo,h0]
abbrev mulM (a b:List Int):List Int:=zipI (·+·) a b
theorem Zf8 (a b:List Int):(mulM a b).length=max a.length b.length:=by simp [mulM,zipI]
theorem mulK:Go.Pol.KM Can ltM mulM where
 comm x y:=by
  unfold mulM zipI;rw [Nat.max_comm];exact ZAj λi _=>Int.add_comm _ _
 dom x y hx hy:=by
  refine⟨λj=>by rw [Zfo _ rfl];have:=hx.1 j;have:=hy.1 j;omega,?_⟩;rw [Zf8,Zfo _ rfl];have a1:=hx.1 (max x.length y.length - 1);have b1:=hy.1 (max x.length y.length - 1);rcases Nat.le_total x.length y.length with h | h
  ·rw [Nat.max_eq_right h] at *;rcases hy.2 with h1 | h1
   ·exact .inl h1
   ·exact .inr zo
  ·rw [Nat.max_eq_left h] at *;rcases hx.2 with h1 | h1
   ·exact .inl h1
   ·exact .inr zo
 mono x y z _ _ _ h:=by
  obtain⟨k,h1,h2⟩:=Ziz.1 h;rw [Ziz];exact⟨k,by rw [Zfo _ rfl,Zfo _ rfl];omega,λj hj=>by rw [Zfo _ rfl,Zfo _ rfl,h2 j hj]⟩
theorem Zp9 (v:Rat) (a b:Nat):v ^ (a+b)=v ^ a*v ^ b:=by
 induction b with
 | zero=>rw [Zzf,Rat.pow_zero,ZBr]
 | succ b ih=>rw [Nat.add_succ,Rat.pow_succ,ih,Rat.pow_succ,Rat.mul_assoc]
def mvN (v:Nat→Rat) (m:List Int):Nat→Rat
 | 0=>1
 | n+1=>mvN v m n*v n ^ (gI m n).toNat
def mv (v:Nat→Rat) (m:List Int):Rat:=mvN v m m.length
theorem Zsc (v:Nat→Rat) (m:List Int):∀k,mvN v m (m.length+k)=mv v m
 | 0=>rfl
 | k+1=>by
   show mvN v m (m.length+k)*v (m.length+k) ^ (gI m (m.length+k)).toNat=_;rw [Zsc v m k,Zb3 zo,show(0:Int).toNat=0 from rfl,Rat.pow_zero,ZBr]
theorem Zwl (v:Nat→Rat) {a b:List Int} (ha:Can a) (hb:Can b):∀n,mvN v (mulM a b) n=mvN v a n*mvN v b n
 | 0=>by show(1:Rat)=1*1;rw [ZBr]
 | n+1=>by
   have h1:=ha.1 n;have h2:=hb.1 n;show mvN v (mulM a b) n*v n ^ (gI (mulM a b) n).toNat=(mvN v a n*v n ^ (gI a n).toNat)*(mvN v b n*v n ^ (gI b n).toNat);rw [Zwl v ha hb n,Zfo _ rfl,show(gI a n+gI b n).toNat=(gI a n).toNat+(gI b n).toNat by omega,Zp9]
   grind
theorem mv_mul (v:Nat→Rat) {a b:List Int} (ha:Can a) (hb:Can b):mv v (mulM a b)=mv v a*mv v b:=by
 have h1:=Zsc v a (max a.length b.length - a.length);have h2:=Zsc v b (max a.length b.length - b.length);rw [show a.length+(max a.length b.length - a.length)=max a.length b.length by omega] at h1;rw [show b.length+(max a.length b.length - b.length)=max a.length b.length by omega] at h2;show mvN v (mulM a b) (mulM a b).length=_;rw [Zf8,Zwl v ha hb,h1,h2]
def IB (k:Nat) (r:Rat):Prop:=∃z:Int,r=(z:Rat)∧z.natAbs < 2 ^ k
theorem IB.mono {k l:Nat} {r:Rat} (h:IB k r) (hl:k≤l):IB l r:=by
 obtain⟨z,e,b⟩:=h;exact⟨z,e,Zzz b (Zzj zo hl)⟩
theorem IB.mul {k l:Nat} {r s:Rat} (h:IB k r) (g:IB l s):IB (k+l) (r*s):=by
 obtain⟨z,e,b⟩:=h;obtain⟨y,f,c⟩:=g;refine⟨z*y,by rw [e,f,Rat.intCast_mul],?_⟩;rw [ZAb,Zzo];exact Nat.mul_lt_mul'' b c
theorem IB.add {k l:Nat} {r s:Rat} (h:IB k r) (g:IB l s):IB (max k l+1) (r+s):=by
 obtain⟨z,e,b⟩:=h.mono (Nat.le_max_left k l);obtain⟨y,f,c⟩:=g.mono (Nat.le_max_right k l);refine⟨z+y,by rw [e,f,Rat.intCast_add],?_⟩;have:=Int.natAbs_add_le z y;rw [Zzi];omega
theorem IB.neg {k:Nat} {r:Rat} (h:IB k r):IB k (-r):=by
 obtain⟨z,e,b⟩:=h;exact⟨-z,by rw [e,Rat.intCast_neg],by rwa [ZCr]⟩
theorem IB.sub {k l:Nat} {r s:Rat} (h:IB k r) (g:IB l s):IB (max k l+1) (r - s):=by
 rw [Rat.sub_eq_add_neg];exact h.add g.neg
theorem IB.two:IB 2 (2:Rat):=⟨2,rfl,by decide⟩
theorem IB.one:IB 1 (1:Rat):=⟨1,rfl,by decide⟩
theorem nz2 {a b:Rat} (ha:a≠0) (hb:b≠0):a*b≠0:=λh=>(Rat.mul_eq_zero.1 h).elim ha hb
def Hq (k:Nat) (q:Rat):Prop:=∃d,d≠0∧IB k d∧IB k (q*d)
def Hv (k:Nat) (p:PQ):Prop:=∃d,d≠0∧IB k d∧IB k (p.1*d)∧IB k (p.2*d)
theorem Hv.mono {k l:Nat} {p:PQ} (h:Hv k p) (hl:k≤l):Hv l p:=by
 obtain⟨d,h0,h1,h2,h3⟩:=h;exact⟨d,h0,h1.mono hl,h2.mono hl,h3.mono hl⟩
theorem Hv.of {k l:Nat} {p:PQ} {d X Y:Rat} (h0:d≠0) (hd:IB k d) (e1:p.1*d=X) (e2:p.2*d=Y) (hx:IB k X) (hy:IB k Y) (hl:k≤l):Hv l p:=⟨d,h0,hd.mono hl,by rw [e1];exact hx.mono hl,by rw [e2];exact hy.mono hl⟩
section
variable {k:Nat} {a b c d:PQ}
theorem hv_along {q:Rat} (ha:Hv k a) (hb:Hv k b) (hq:Hq 64 q) (hk:64≤k):Hv (3*k+4) (a.1+q*(b.1 - a.1),a.2+q*(b.2 - a.2)):=by
 obtain⟨Da,na,da,a1,a2⟩:=ha;obtain⟨Db,nb,db,b1,b2⟩:=hb;obtain⟨Dq,nq,dq,q1⟩:=hq;refine Hv.of (k:=3*k+4) (d:=Da*Db*Dq) (X:=a.1*Da*(Db*Dq)+q*Dq*(b.1*Db*Da - a.1*Da*Db)) (Y:=a.2*Da*(Db*Dq)+q*Dq*(b.2*Db*Da - a.2*Da*Db)) (nz2 (nz2 na nb) nq) (((da.mul db).mul dq).mono zo) (by simp only;grind) (by simp only;grind) ?_ ?_ (Zx7 _)
 ·exact((a1.mul (db.mul dq)).add (q1.mul ((b1.mul da).sub (a1.mul db)))).mono zo
 ·exact((a2.mul (db.mul dq)).add (q1.mul ((b2.mul da).sub (a2.mul db)))).mono zo
theorem hv_shift (ha:Hv k a) (hb:Hv k b) (hc:Hv k c):Hv (3*k+4) (a.1+(c.1 - b.1),a.2+(c.2 - b.2)):=by
 obtain⟨Da,na,da,a1,a2⟩:=ha;obtain⟨Db,nb,db,b1,b2⟩:=hb;obtain⟨Dc,nc,dc,c1,c2⟩:=hc;refine Hv.of (k:=3*k+4) (d:=Da*Db*Dc) (X:=a.1*Da*(Db*Dc)+Da*(c.1*Dc*Db - b.1*Db*Dc)) (Y:=a.2*Da*(Db*Dc)+Da*(c.2*Dc*Db - b.2*Db*Dc)) (nz2 (nz2 na nb) nc) (((da.mul db).mul dc).mono zo) (by simp only;grind) (by simp only;grind) ?_ ?_ (Zx7 _)
 ·exact((a1.mul (db.mul dc)).add (da.mul ((c1.mul db).sub (b1.mul dc)))).mono zo
 ·exact((a2.mul (db.mul dc)).add (da.mul ((c2.mul db).sub (b2.mul dc)))).mono zo
theorem hv_turn (ha:Hv k a) (hb:Hv k b) (hc:Hv k c):Hv (3*k+4) (a.1 - (c.2 - b.2),a.2+(c.1 - b.1)):=by
 obtain⟨Da,na,da,a1,a2⟩:=ha;obtain⟨Db,nb,db,b1,b2⟩:=hb;obtain⟨Dc,nc,dc,c1,c2⟩:=hc;refine Hv.of (k:=3*k+4) (d:=Da*Db*Dc) (X:=a.1*Da*(Db*Dc) - Da*(c.2*Dc*Db - b.2*Db*Dc)) (Y:=a.2*Da*(Db*Dc)+Da*(c.1*Dc*Db - b.1*Db*Dc)) (nz2 (nz2 na nb) nc) (((da.mul db).mul dc).mono zo) (by simp only;grind) (by simp only;grind) ?_ ?_ (Zx7 _)
 ·exact((a1.mul (db.mul dc)).sub (da.mul ((c2.mul db).sub (b2.mul dc)))).mono zo
 ·exact((a2.mul (db.mul dc)).add (da.mul ((c1.mul db).sub (b1.mul dc)))).mono zo
theorem hv_onc {q s:Rat} (ha:Hv k a) (hb:Hv k b) (hq:Hq 64 q) (hk:64≤k) (hs:s*(1+q*q)=2*((a.1 - b.1)+q*(a.2 - b.2))) (h0:1+q*q≠0):Hv (5*k+8) (b.1+s,b.2+s*q):=by
 obtain⟨Da,na,da,a1,a2⟩:=ha;obtain⟨Db,nb,db,b1,b2⟩:=hb;obtain⟨Dq,nq,dq,q1⟩:=hq;have hw:IB 130 (Dq*Dq+q*Dq*(q*Dq)):=((dq.mul dq).add (q1.mul q1)).mono zo
 have nw:Dq*Dq+q*Dq*(q*Dq)≠0:=by
  rw [show Dq*Dq+q*Dq*(q*Dq)=(1+q*q)*(Dq*Dq) by grind];exact nz2 h0 (nz2 nq nq)
 have hN:IB (2*k+68) (2*(Dq*(a.1*Da*Db - b.1*Db*Da)+q*Dq*(a.2*Da*Db - b.2*Db*Da))):=(IB.two.mul ((dq.mul ((a1.mul db).sub (b1.mul da))).add (q1.mul ((a2.mul db).sub (b2.mul da))))).mono zo;refine Hv.of (k:=5*k+8) (d:=Da*Db*(Dq*Dq+q*Dq*(q*Dq))) (X:=b.1*Db*(Da*(Dq*Dq+q*Dq*(q*Dq)))+Dq*(2*(Dq*(a.1*Da*Db - b.1*Db*Da)+q*Dq*(a.2*Da*Db - b.2*Db*Da)))) (Y:=b.2*Db*(Da*(Dq*Dq+q*Dq*(q*Dq)))+q*Dq*(2*(Dq*(a.1*Da*Db - b.1*Db*Da)+q*Dq*(a.2*Da*Db - b.2*Db*Da)))) (nz2 (nz2 na nb) nw) (((da.mul db).mul hw).mono zo) (by simp only;grind) (by simp only;grind) ?_ ?_ (Zx7 _)
 ·exact((b1.mul (da.mul hw)).add (dq.mul hN)).mono zo
 ·exact((b2.mul (da.mul hw)).add (q1.mul hN)).mono zo
theorem Zw1 {r:Rat} {j:Nat} (h:IB (2*j) (r*r)):IB j r:=by
 obtain⟨z,e,b⟩:=h;have e2:r*r=r ^ 2:=by rw [Rat.pow_succ,Rat.pow_succ,Rat.pow_zero,ZAk]
 have hd:r.den=1:=by
  have h2:(r ^ 2).den=r.den ^ 2:=Rat.den_pow r 2;rw [←e2,e,Rat.den_intCast,Zzi,Zzi,ZCw,Zz4] at h2;exact Nat.eq_one_of_mul_eq_one_right h2.symm
 have hr:r=(r.num:Rat):=Rat.ext rfl hd;refine⟨r.num,hr,?_⟩;rw [hr,←Rat.intCast_mul] at e;have e:=Rat.intCast_inj.1 e;rw [←e,ZAb,Nat.two_mul,Zzo] at b;exact Nat.lt_of_not_le λhle=>Nat.lt_irrefl _ (ZBj (ZA2 hle hle) b)
theorem Zw5 {s t:Rat} (ha:Hv k a) (hb:Hv k b) (hc:Hv k c) (ht:IB 2 t) (h0:(c.1 - b.1)*(c.1 - b.1)+(c.2 - b.2)*(c.2 - b.2)≠0) (hs:s*((c.1 - b.1)*(c.1 - b.1)+(c.2 - b.2)*(c.2 - b.2))=t*((c.1 - b.1)*(a.1 - b.1)+(c.2 - b.2)*(a.2 - b.2))):∃D,D≠0∧IB (6*k+9) (D*a.1)∧IB (6*k+9) (D*a.2)∧IB (6*k+9) D∧IB (6*k+9) ((b.1+s*(c.1 - b.1))*D)∧IB (6*k+9) ((b.2+s*(c.2 - b.2))*D):=by
 obtain⟨Da,na,da,a1,a2⟩:=ha;obtain⟨Db,nb,db,b1,b2⟩:=hb;obtain⟨Dc,nc,dc,c1,c2⟩:=hc;have hU:=(c1.mul db).sub (b1.mul dc);have hV:=(c2.mul db).sub (b2.mul dc);have hn:=(hU.mul hU).add (hV.mul hV);have hN:=ht.mul ((hU.mul ((a1.mul db).sub (b1.mul da))).add (hV.mul ((a2.mul db).sub (b2.mul da))));generalize hn':(c.1*Dc*Db - b.1*Db*Dc)*(c.1*Dc*Db - b.1*Db*Dc)+(c.2*Dc*Db - b.2*Db*Dc)*(c.2*Dc*Db - b.2*Db*Dc)=n at hn
 have nn:n≠0:=by
  rw [←hn',show(c.1*Dc*Db - b.1*Db*Dc)*(c.1*Dc*Db - b.1*Db*Dc)+(c.2*Dc*Db - b.2*Db*Dc)*(c.2*Dc*Db - b.2*Db*Dc)=((c.1 - b.1)*(c.1 - b.1)+(c.2 - b.2)*(c.2 - b.2))*(Db*Dc*(Db*Dc)) by grind];exact nz2 h0 (nz2 (nz2 nb nc) (nz2 nb nc))
 refine⟨Db*Da*n,nz2 (nz2 nb na) nn,?_,?_,((db.mul da).mul hn).mono zo,?_,?_⟩
 ·rw [show Db*Da*n*a.1=a.1*Da*(Db*n) by grind];exact(a1.mul (db.mul hn)).mono zo
 ·rw [show Db*Da*n*a.2=a.2*Da*(Db*n) by grind];exact(a2.mul (db.mul hn)).mono zo
 ·rw [show(b.1+s*(c.1 - b.1))*(Db*Da*n)=b.1*Db*(Da*n)+t*((c.1*Dc*Db - b.1*Db*Dc)*(a.1*Da*Db - b.1*Db*Da)+(c.2*Dc*Db - b.2*Db*Dc)*(a.2*Da*Db - b.2*Db*Da))*(c.1*Dc*Db - b.1*Db*Dc) by grind];exact((b1.mul (da.mul hn)).add (hN.mul hU)).mono zo
 ·rw [show(b.2+s*(c.2 - b.2))*(Db*Da*n)=b.2*Db*(Da*n)+t*((c.1*Dc*Db - b.1*Db*Dc)*(a.1*Da*Db - b.1*Db*Da)+(c.2*Dc*Db - b.2*Db*Dc)*(a.2*Da*Db - b.2*Db*Da))*(c.2*Dc*Db - b.2*Db*Dc) by grind];exact((b2.mul (da.mul hn)).add (hN.mul hV)).mono zo
theorem hv_meet {s:Rat} (ha:Hv k a) (hb:Hv k b) (hc:Hv k c) (hd:Hv k d) (h0:(b.1 - a.1)*(d.2 - c.2) - (b.2 - a.2)*(d.1 - c.1)≠0) (hs:s*((b.1 - a.1)*(d.2 - c.2) - (b.2 - a.2)*(d.1 - c.1))=(c.1 - a.1)*(d.2 - c.2) - (c.2 - a.2)*(d.1 - c.1)):Hv (6*k+9) (a.1+s*(b.1 - a.1),a.2+s*(b.2 - a.2)):=by
 obtain⟨Da,na,da,a1,a2⟩:=ha;obtain⟨Db,nb,db,b1,b2⟩:=hb;obtain⟨Dc,nc,dc,c1,c2⟩:=hc;obtain⟨Dd,nd,dd,d1,d2⟩:=hd;have hU:=(b1.mul da).sub (a1.mul db);have hV:=(b2.mul da).sub (a2.mul db);have hP:=(d1.mul dc).sub (c1.mul dd);have hQ:=(d2.mul dc).sub (c2.mul dd);have hn:=(hU.mul hQ).sub (hV.mul hP);have hN:=(((c1.mul da).sub (a1.mul dc)).mul hQ).sub (((c2.mul da).sub (a2.mul dc)).mul hP);generalize hn':(b.1*Db*Da - a.1*Da*Db)*(d.2*Dd*Dc - c.2*Dc*Dd) - (b.2*Db*Da - a.2*Da*Db)*(d.1*Dd*Dc - c.1*Dc*Dd)=n at hn;generalize hN':(c.1*Dc*Da - a.1*Da*Dc)*(d.2*Dd*Dc - c.2*Dc*Dd) - (c.2*Dc*Da - a.2*Da*Dc)*(d.1*Dd*Dc - c.1*Dc*Dd)=N at hN
 have en:n=((b.1 - a.1)*(d.2 - c.2) - (b.2 - a.2)*(d.1 - c.1))*(Da*Db*(Dc*Dd)):=by rw [←hn'];grind
 have eN:N=((c.1 - a.1)*(d.2 - c.2) - (c.2 - a.2)*(d.1 - c.1))*(Da*Dc*(Dc*Dd)):=by rw [←hN'];grind
 generalize (b.1 - a.1)*(d.2 - c.2) - (b.2 - a.2)*(d.1 - c.1)=cr at *;generalize (c.1 - a.1)*(d.2 - c.2) - (c.2 - a.2)*(d.1 - c.1)=cw at *;clear hn' hN' d1 d2 c1 c2 hP hQ;have nn:n≠0:=by rw [en];exact nz2 h0 (nz2 (nz2 na nb) (nz2 nc nd))
 refine Hv.of (k:=6*k+9) (d:=Da*Dc*n) (X:=a.1*Da*(Dc*n)+N*(b.1*Db*Da - a.1*Da*Db)) (Y:=a.2*Da*(Dc*n)+N*(b.2*Db*Da - a.2*Da*Db)) (nz2 (nz2 na nc) nn) (((da.mul dc).mul hn).mono zo) (by simp only;rw [en,eN];grind) (by simp only;rw [en,eN];grind) ?_ ?_ (Zx7 _)
 ·exact((a1.mul (dc.mul hn)).add (hN.mul hU)).mono zo
 ·exact((a2.mul (dc.mul hn)).add (hN.mul hV)).mono zo
theorem Zw6 {s:Rat} (ha:Hv k a) (hb:Hv k b) (hc:Hv k c) (h0:2*((b.1 - a.1)*(c.2 - a.2) - (b.2 - a.2)*(c.1 - a.1))≠0) (hs:s*(2*((b.1 - a.1)*(c.2 - a.2) - (b.2 - a.2)*(c.1 - a.1)))=1):Hv (7*k+12) (a.1+s*(((b.1 - a.1)*(b.1 - a.1)+(b.2 - a.2)*(b.2 - a.2))*(c.2 - a.2) - ((c.1 - a.1)*(c.1 - a.1)+(c.2 - a.2)*(c.2 - a.2))*(b.2 - a.2)),a.2+s*(((c.1 - a.1)*(c.1 - a.1)+(c.2 - a.2)*(c.2 - a.2))*(b.1 - a.1) - ((b.1 - a.1)*(b.1 - a.1)+(b.2 - a.2)*(b.2 - a.2))*(c.1 - a.1))):=by
 obtain⟨Da,na,da,a1,a2⟩:=ha;obtain⟨Db,nb,db,b1,b2⟩:=hb;obtain⟨Dc,nc,dc,c1,c2⟩:=hc;have hU:=(b1.mul da).sub (a1.mul db);have hV:=(b2.mul da).sub (a2.mul db);have hP:=(c1.mul da).sub (a1.mul dc);have hQ:=(c2.mul da).sub (a2.mul dc);have hn:=IB.two.mul ((hU.mul hQ).sub (hV.mul hP));have huu:=(hU.mul hU).add (hV.mul hV);have hvv:=(hP.mul hP).add (hQ.mul hQ);generalize eU:b.1*Db*Da - a.1*Da*Db=U at hU hV hn huu;generalize eV:b.2*Db*Da - a.2*Da*Db=V at hV hn huu;generalize eP:c.1*Dc*Da - a.1*Da*Dc=P at hP hQ hn hvv;generalize eQ:c.2*Dc*Da - a.2*Da*Dc=Q at hQ hn hvv;have eU':U=(b.1 - a.1)*(Da*Db):=by rw [←eU];grind
 have eV':V=(b.2 - a.2)*(Da*Db):=by rw [←eV];grind
 have eP':P=(c.1 - a.1)*(Da*Dc):=by rw [←eP];grind
 have eQ':Q=(c.2 - a.2)*(Da*Dc):=by rw [←eQ];grind
 have nn:2*(U*Q - V*P)≠0:=by
  rw [show 2*(U*Q - V*P)=2*((b.1 - a.1)*(c.2 - a.2) - (b.2 - a.2)*(c.1 - a.1))*(Da*Db*(Da*Dc)) by rw [eU',eV',eP',eQ'];grind];exact nz2 h0 (nz2 (nz2 na nb) (nz2 na nc))
 refine Hv.of (k:=7*k+12) (d:=2*(U*Q - V*P)*(Da*Db*Dc)) (X:=a.1*Da*(2*(U*Q - V*P)*(Db*Dc))+((U*U+V*V)*Q*Dc - (P*P+Q*Q)*V*Db)) (Y:=a.2*Da*(2*(U*Q - V*P)*(Db*Dc))+((P*P+Q*Q)*U*Db - (U*U+V*V)*P*Dc)) (nz2 nn (nz2 (nz2 na nb) nc)) ((hn.mul ((da.mul db).mul dc)).mono zo) (by simp only;rw [eU',eV',eP',eQ'];grind) (by simp only;rw [eU',eV',eP',eQ'];grind) ?_ ?_ (Zx7 _)
 ·exact((a1.mul (hn.mul (db.mul dc))).add (((huu.mul hQ).mul dc).sub ((hvv.mul hV).mul db))).mono zo
 ·exact((a2.mul (hn.mul (db.mul dc))).add (((hvv.mul hU).mul db).sub ((huu.mul hP).mul dc))).mono zo
theorem hv_cut {m q h:Rat} (ha:Hv k a) (hb:Hv k b) (hc:Hv k c) (hd:Hv k d) (h0:(b.1 - a.1)*(b.1 - a.1)+(b.2 - a.2)*(b.2 - a.2)≠0)
 (hm:m*((b.1 - a.1)*(b.1 - a.1)+(b.2 - a.2)*(b.2 - a.2))=(b.1 - a.1)*(c.1 - a.1)+(b.2 - a.2)*(c.2 - a.2))
 (hq:q*((b.1 - a.1)*(b.1 - a.1)+(b.2 - a.2)*(b.2 - a.2))=((c.1 - a.1)*(c.1 - a.1)+(c.2 - a.2)*(c.2 - a.2)) - ((d.1 - c.1)*(d.1 - c.1)+(d.2 - c.2)*(d.2 - c.2))) (hh:h*h=m*m - q):Hv (9*k+12) (a.1+(m+h)*(b.1 - a.1),a.2+(m+h)*(b.2 - a.2)):=by
 obtain⟨Da,na,da,a1,a2⟩:=ha;obtain⟨Db,nb,db,b1,b2⟩:=hb;obtain⟨Dc,nc,dc,c1,c2⟩:=hc;obtain⟨Dd,nd,dd,d1,d2⟩:=hd;have hU:=(b1.mul da).sub (a1.mul db);have hV:=(b2.mul da).sub (a2.mul db);have hW:=(c1.mul da).sub (a1.mul dc);have hZ:=(c2.mul da).sub (a2.mul dc);have hR:=(d1.mul dc).sub (c1.mul dd);have hS:=(d2.mul dc).sub (c2.mul dd);have hn:=(hU.mul hU).add (hV.mul hV);have hN:=(hU.mul hW).add (hV.mul hZ);have hw:=(hW.mul hW).add (hZ.mul hZ);have hr:=(hR.mul hR).add (hS.mul hS);generalize en:(b.1*Db*Da - a.1*Da*Db)*(b.1*Db*Da - a.1*Da*Db)+(b.2*Db*Da - a.2*Da*Db)*(b.2*Db*Da - a.2*Da*Db)=n at hn;generalize eN:(b.1*Db*Da - a.1*Da*Db)*(c.1*Dc*Da - a.1*Da*Dc)+(b.2*Db*Da - a.2*Da*Db)*(c.2*Dc*Da - a.2*Da*Dc)=N at hN
 generalize ew:(c.1*Dc*Da - a.1*Da*Dc)*(c.1*Dc*Da - a.1*Da*Dc)+(c.2*Dc*Da - a.2*Da*Dc)*(c.2*Dc*Da - a.2*Da*Dc)=w at hw;generalize er:(d.1*Dd*Dc - c.1*Dc*Dd)*(d.1*Dd*Dc - c.1*Dc*Dd)+(d.2*Dd*Dc - c.2*Dc*Dd)*(d.2*Dd*Dc - c.2*Dc*Dd)=r at hr;have fn:n=((b.1 - a.1)*(b.1 - a.1)+(b.2 - a.2)*(b.2 - a.2))*(Da*Db*(Da*Db)):=by rw [←en];grind
 have fN:N=((b.1 - a.1)*(c.1 - a.1)+(b.2 - a.2)*(c.2 - a.2))*(Da*Db*(Da*Dc)):=by rw [←eN];grind
 have fw:w=((c.1 - a.1)*(c.1 - a.1)+(c.2 - a.2)*(c.2 - a.2))*(Da*Dc*(Da*Dc)):=by rw [←ew];grind
 have fr:r=((d.1 - c.1)*(d.1 - c.1)+(d.2 - c.2)*(d.2 - c.2))*(Dc*Dd*(Dc*Dd)):=by rw [←er];grind
 generalize (b.1 - a.1)*(b.1 - a.1)+(b.2 - a.2)*(b.2 - a.2)=uu at *;generalize (b.1 - a.1)*(c.1 - a.1)+(b.2 - a.2)*(c.2 - a.2)=uw at *;generalize (c.1 - a.1)*(c.1 - a.1)+(c.2 - a.2)*(c.2 - a.2)=ww at *;generalize (d.1 - c.1)*(d.1 - c.1)+(d.2 - c.2)*(d.2 - c.2)=rr at *;clear en eN ew er hW hZ hR hS b1 b2 c1 c2 d1 d2;have nn:n≠0:=by rw [fn];exact nz2 h0 (nz2 (nz2 na nb) (nz2 na nb))
 have mG:m*(Da*Dc*Dd*n)=N*(Da*Db*Dd):=by rw [fn,fN,←hm];grind
 have hG2:h*(Da*Dc*Dd*n)*(h*(Da*Dc*Dd*n))=N*(Da*Db*Dd)*(N*(Da*Db*Dd)) - (w*(Dd*Dd) - r*(Da*Da))*(Da*Db*(Da*Db))*n:=by
  rw [←mG,fw,fr]
  have e:(ww*(Da*Dc*(Da*Dc))*(Dd*Dd) - rr*(Dc*Dd*(Dc*Dd))*(Da*Da))*(Da*Db*(Da*Db))*n=q*(Da*Dc*Dd*n)*(Da*Dc*Dd*n):=by
   rw [show(ww*(Da*Dc*(Da*Dc))*(Dd*Dd) - rr*(Dc*Dd*(Dc*Dd))*(Da*Da))=(ww - rr)*(Da*Dc*Dd*(Da*Dc*Dd)) by grind,←hq,fn]
   grind
  rw [e]
  grind
 have hE:IB (2*(7*k+6)) (h*(Da*Dc*Dd*n)*(h*(Da*Dc*Dd*n))):=by
  rw [hG2];exact(((hN.mul ((da.mul db).mul dd)).mul (hN.mul ((da.mul db).mul dd))).sub ((((hw.mul (dd.mul dd)).sub (hr.mul (da.mul da))).mul ((da.mul db).mul (da.mul db))).mul hn)).mono zo
 have hE:=Zw1 hE;have hM:IB (7*k+6) (m*(Da*Dc*Dd*n)):=by rw [mG];exact(hN.mul ((da.mul db).mul dd)).mono zo
 refine Hv.of (k:=9*k+12) (d:=Da*Dc*Dd*n*(Da*Db)) (X:=a.1*Da*(Da*Dc*Dd*n*Db)+(m*(Da*Dc*Dd*n)+h*(Da*Dc*Dd*n))*(b.1*Db*Da - a.1*Da*Db)) (Y:=a.2*Da*(Da*Dc*Dd*n*Db)+(m*(Da*Dc*Dd*n)+h*(Da*Dc*Dd*n))*(b.2*Db*Da - a.2*Da*Db)) (nz2 (nz2 (nz2 (nz2 na nc) nd) nn) (nz2 na nb)) (((((da.mul dc).mul dd).mul hn).mul (da.mul db)).mono zo) (by simp only;grind) (by simp only;grind) ?_ ?_ (Zx7 _)
 ·exact((a1.mul ((((da.mul dc).mul dd).mul hn).mul db)).add ((hM.add hE).mul hU)).mono zo
 ·exact((a2.mul ((((da.mul dc).mul dd).mul hn).mul db)).add ((hM.add hE).mul hV)).mono zo
theorem hv_inter {m t h:Rat} (ha:Hv k a) (hb:Hv k b) (hc:Hv k c) (hd:Hv k d) (h0:(c.1 - a.1)*(c.1 - a.1)+(c.2 - a.2)*(c.2 - a.2)≠0)
 (hm:m*(2*((c.1 - a.1)*(c.1 - a.1)+(c.2 - a.2)*(c.2 - a.2)))=((c.1 - a.1)*(c.1 - a.1)+(c.2 - a.2)*(c.2 - a.2))+((b.1 - a.1)*(b.1 - a.1)+(b.2 - a.2)*(b.2 - a.2)) - ((d.1 - c.1)*(d.1 - c.1)+(d.2 - c.2)*(d.2 - c.2)))
 (ht:t*((c.1 - a.1)*(c.1 - a.1)+(c.2 - a.2)*(c.2 - a.2))=(b.1 - a.1)*(b.1 - a.1)+(b.2 - a.2)*(b.2 - a.2)) (hh:h*h=t - m*m):Hv (10*k+16) (a.1+m*(c.1 - a.1) - h*(c.2 - a.2),a.2+m*(c.2 - a.2)+h*(c.1 - a.1)):=by
 obtain⟨Da,na,da,a1,a2⟩:=ha;obtain⟨Db,nb,db,b1,b2⟩:=hb;obtain⟨Dc,nc,dc,c1,c2⟩:=hc;obtain⟨Dd,nd,dd,d1,d2⟩:=hd;have hU:=(c1.mul da).sub (a1.mul dc);have hV:=(c2.mul da).sub (a2.mul dc);have hW:=(b1.mul da).sub (a1.mul db);have hZ:=(b2.mul da).sub (a2.mul db);have hR:=(d1.mul dc).sub (c1.mul dd);have hS:=(d2.mul dc).sub (c2.mul dd);have hn:=(hU.mul hU).add (hV.mul hV);have hw:=(hW.mul hW).add (hZ.mul hZ);have hr:=(hR.mul hR).add (hS.mul hS);generalize en:(c.1*Dc*Da - a.1*Da*Dc)*(c.1*Dc*Da - a.1*Da*Dc)+(c.2*Dc*Da - a.2*Da*Dc)*(c.2*Dc*Da - a.2*Da*Dc)=n at hn;generalize ew:(b.1*Db*Da - a.1*Da*Db)*(b.1*Db*Da - a.1*Da*Db)+(b.2*Db*Da - a.2*Da*Db)*(b.2*Db*Da - a.2*Da*Db)=w at hw
 generalize er:(d.1*Dd*Dc - c.1*Dc*Dd)*(d.1*Dd*Dc - c.1*Dc*Dd)+(d.2*Dd*Dc - c.2*Dc*Dd)*(d.2*Dd*Dc - c.2*Dc*Dd)=r at hr;have fn:n=((c.1 - a.1)*(c.1 - a.1)+(c.2 - a.2)*(c.2 - a.2))*(Da*Dc*(Da*Dc)):=by rw [←en];grind
 have fw:w=((b.1 - a.1)*(b.1 - a.1)+(b.2 - a.2)*(b.2 - a.2))*(Da*Db*(Da*Db)):=by rw [←ew];grind
 have fr:r=((d.1 - c.1)*(d.1 - c.1)+(d.2 - c.2)*(d.2 - c.2))*(Dc*Dd*(Dc*Dd)):=by rw [←er];grind
 generalize (c.1 - a.1)*(c.1 - a.1)+(c.2 - a.2)*(c.2 - a.2)=uu at *;generalize (b.1 - a.1)*(b.1 - a.1)+(b.2 - a.2)*(b.2 - a.2)=ww at *;generalize (d.1 - c.1)*(d.1 - c.1)+(d.2 - c.2)*(d.2 - c.2)=rr at *;clear en ew er hW hZ hR hS b1 b2 c1 c2 d1 d2;have nn:n≠0:=by rw [fn];exact nz2 h0 (nz2 (nz2 na nc) (nz2 na nc))
 have hF:=(db.mul dd).mul (db.mul dd);have n2:(2:Rat)≠0:=by decide
 generalize eG:2*n*(Db*Dd*(Db*Dd))=G;have hG:IB (8*k+6) G:=by rw [←eG];exact((IB.two.mul hn).mul hF).mono zo
 have nG:G≠0:=by rw [←eG];exact nz2 (nz2 n2 nn) (nz2 (nz2 nb nd) (nz2 nb nd))
 have mG:m*G=n*(Db*Dd*(Db*Dd))+w*(Dc*Dd*(Dc*Dd)) - r*(Da*Db*(Da*Db)):=by
  rw [←eG,fn,fw,fr];have e:m*(2*(uu*(Da*Dc*(Da*Dc)))*(Db*Dd*(Db*Dd)))=m*(2*uu)*(Da*Dc*(Da*Dc)*(Db*Dd*(Db*Dd))):=by grind
  rw [e,hm]
  grind
 have hM:IB (8*k+6) (m*G):=by
  rw [mG];exact(((hn.mul hF).add (hw.mul ((dc.mul dd).mul (dc.mul dd)))).sub (hr.mul ((da.mul db).mul (da.mul db)))).mono zo
 have hG2:h*G*(h*G)=2*w*(Dc*Dc)*(Dd*Dd)*G - m*G*(m*G):=by
  have e:h*G*(h*G)=t*G*G - m*G*(m*G):=by
   rw [show h*G*(h*G)=h*h*(G*G) by grind,hh];grind
  have e2:t*G=2*w*(Dc*Dc)*(Dd*Dd):=by
   rw [←eG,fn,fw,←ht];grind
  rw [e,e2]
 have hE:IB (2*(8*k+7)) (h*G*(h*G)):=by
  rw [hG2];exact(((((IB.two.mul hw).mul (dc.mul dc)).mul (dd.mul dd)).mul hG).sub (hM.mul hM)).mono zo
 have hE:=Zw1 hE;refine Hv.of (k:=10*k+16) (d:=G*(Da*Dc)) (X:=a.1*Da*(G*Dc)+m*G*(c.1*Dc*Da - a.1*Da*Dc) - h*G*(c.2*Dc*Da - a.2*Da*Dc)) (Y:=a.2*Da*(G*Dc)+m*G*(c.2*Dc*Da - a.2*Da*Dc)+h*G*(c.1*Dc*Da - a.1*Da*Dc)) (nz2 nG (nz2 na nc)) ((hG.mul (da.mul dc)).mono zo) (by simp only;grind) (by simp only;grind) ?_ ?_ (Zx7 _)
 ·exact(((a1.mul (hG.mul dc)).add (hM.mul hU)).sub (hE.mul hV)).mono zo
 ·exact(((a2.mul (hG.mul dc)).add (hM.mul hV)).add (hE.mul hU)).mono zo
theorem Zsp {s t:Rat} (ha:Hv k a) (hb:Hv k b) (hc:Hv k c) (ht:IB 2 t) (h0:(c.1 - b.1)*(c.1 - b.1)+(c.2 - b.2)*(c.2 - b.2)≠0) (hs:s*((c.1 - b.1)*(c.1 - b.1)+(c.2 - b.2)*(c.2 - b.2))=t*((c.1 - b.1)*(a.1 - b.1)+(c.2 - b.2)*(a.2 - b.2))):Hv (6*k+9) (b.1+s*(c.1 - b.1),b.2+s*(c.2 - b.2)):=by
 obtain⟨D,h1,-,-,h2,h3,h4⟩:=Zw5 ha hb hc ht h0 hs;exact⟨D,h1,h2,h3,h4⟩
theorem Zw4 {s:Rat} (ha:Hv k a) (hb:Hv k b) (hc:Hv k c) (h0:(c.1 - b.1)*(c.1 - b.1)+(c.2 - b.2)*(c.2 - b.2)≠0) (hs:s*((c.1 - b.1)*(c.1 - b.1)+(c.2 - b.2)*(c.2 - b.2))=1*((c.1 - b.1)*(a.1 - b.1)+(c.2 - b.2)*(a.2 - b.2))):Hv (6*k+12) (2*(b.1+s*(c.1 - b.1)) - a.1,2*(b.2+s*(c.2 - b.2)) - a.2):=by
 obtain⟨D,h1,g1,g2,h2,h3,h4⟩:=Zw5 ha hb hc (IB.one.mono zd) h0 hs;refine Hv.of (k:=6*k+12) (d:=D) (X:=2*((b.1+s*(c.1 - b.1))*D) - D*a.1) (Y:=2*((b.2+s*(c.2 - b.2))*D) - D*a.2) h1 (h2.mono zo) (by simp only;grind) (by simp only;grind) ?_ ?_ (Zx7 _)
 ·exact((IB.two.mul h3).sub g1).mono zo
 ·exact((IB.two.mul h4).sub g2).mono zo
end
theorem sqs0 {x y:Rat} (h:x*x+y*y=0):x=0∧y=0:=by
 have hx:0≤x*x:=by
  rcases Rat.le_total (a:=0) (b:=x) with h | h
  ·exact Rat.mul_nonneg h h
  ·rw [show x*x=(-x)*(-x) by grind];exact Rat.mul_nonneg (by grind) (by grind)
 have hy:0≤y*y:=by
  rcases Rat.le_total (a:=0) (b:=y) with h | h
  ·exact Rat.mul_nonneg h h
  ·rw [show y*y=(-y)*(-y) by grind];exact Rat.mul_nonneg (by grind) (by grind)
 have ex:x*x=0:=by grind
 have ey:y*y=0:=by grind
 exact⟨(Rat.mul_eq_zero.1 ex).elim id id,(Rat.mul_eq_zero.1 ey).elim id id⟩
def crV (a b c d:PQ):Rat:=(b.1 - a.1)*(d.2 - c.2) - (b.2 - a.2)*(d.1 - c.1)
def doV (a b c d:PQ):Rat:=(b.1 - a.1)*(d.1 - c.1)+(b.2 - a.2)*(d.2 - c.2)
def eqsV (k:Int) (a b c d x:PQ) (t:Rat):List Rat :=
 if k=6 then [(1+t*t)*(x.1 - b.1) - (((a.1 - b.1)+t*(a.2 - b.2))+((a.1 - b.1)+t*(a.2 - b.2))),(1+t*t)*(x.2 - b.2) - t*(((a.1 - b.1)+t*(a.2 - b.2))+((a.1 - b.1)+t*(a.2 - b.2)))]
 else if k=7 then [crV b c b x,doV b c a x]
 else if k=8 then [doV b c a x,crV b c b a+crV b c b x]
 else if k=9 then [crV a b a x,crV c d c x]
 else if k=10 then [doV a b a b*(x.1 - a.1) - (doV a c a b+doV a c a b)*(b.1 - a.1),doV a b a b*(x.2 - a.2) - (doV a c a b+doV a c a b)*(b.2 - a.2)]
 else if k=11 then [doV a x a x - doV b x b x,doV a x a x - doV c x c x]
 else if k=12 then [crV a b a x,doV c x c x - doV c d c d]
 else if k=13 then [doV a x a x - doV a b a b,doV c x c x - doV c d c d]
 else []
def StR (k:Int) (a b c d:PQ) (q:Rat) (x:PQ):Prop :=
 if k=2∨k=5 then x=(a.1+q*(b.1 - a.1),a.2+q*(b.2 - a.2))
 else if k=3 then x=(a.1+(c.1 - b.1),a.2+(c.2 - b.2))
 else if k=4 then x=(a.1 - (c.2 - b.2),a.2+(c.1 - b.1))
 else if k=6 then ∃s,s*(1+q*q)=2*((a.1 - b.1)+q*(a.2 - b.2))∧x=(b.1+s,b.2+s*q)
 else if k=7∨k=8 then ∃s,(c.1 - b.1)*(c.1 - b.1)+(c.2 - b.2)*(c.2 - b.2)≠0∧s*((c.1 - b.1)*(c.1 - b.1)+(c.2 - b.2)*(c.2 - b.2))=1*((c.1 - b.1)*(a.1 - b.1)+(c.2 - b.2)*(a.2 - b.2)) ∧
  x=if k=7 then (b.1+s*(c.1 - b.1),b.2+s*(c.2 - b.2)) else (2*(b.1+s*(c.1 - b.1)) - a.1,2*(b.2+s*(c.2 - b.2)) - a.2)
 else if k=9 then ∃s,(b.1 - a.1)*(d.2 - c.2) - (b.2 - a.2)*(d.1 - c.1)≠0∧s*((b.1 - a.1)*(d.2 - c.2) - (b.2 - a.2)*(d.1 - c.1))=(c.1 - a.1)*(d.2 - c.2) - (c.2 - a.2)*(d.1 - c.1)∧x=(a.1+s*(b.1 - a.1),a.2+s*(b.2 - a.2))
 else if k=10 then ∃s,(b.1 - a.1)*(b.1 - a.1)+(b.2 - a.2)*(b.2 - a.2)≠0∧s*((b.1 - a.1)*(b.1 - a.1)+(b.2 - a.2)*(b.2 - a.2))=2*((b.1 - a.1)*(c.1 - a.1)+(b.2 - a.2)*(c.2 - a.2))∧x=(a.1+s*(b.1 - a.1),a.2+s*(b.2 - a.2))
 else if k=11 then ∃s,2*((b.1 - a.1)*(c.2 - a.2) - (b.2 - a.2)*(c.1 - a.1))≠0∧s*(2*((b.1 - a.1)*(c.2 - a.2) - (b.2 - a.2)*(c.1 - a.1)))=1 ∧
  x=(a.1+s*(((b.1 - a.1)*(b.1 - a.1)+(b.2 - a.2)*(b.2 - a.2))*(c.2 - a.2) - ((c.1 - a.1)*(c.1 - a.1)+(c.2 - a.2)*(c.2 - a.2))*(b.2 - a.2)),a.2+s*(((c.1 - a.1)*(c.1 - a.1)+(c.2 - a.2)*(c.2 - a.2))*(b.1 - a.1) - ((b.1 - a.1)*(b.1 - a.1)+(b.2 - a.2)*(b.2 - a.2))*(c.1 - a.1)))
 else if k=12 then ∃m u h,(b.1 - a.1)*(b.1 - a.1)+(b.2 - a.2)*(b.2 - a.2)≠0∧m*((b.1 - a.1)*(b.1 - a.1)+(b.2 - a.2)*(b.2 - a.2))=(b.1 - a.1)*(c.1 - a.1)+(b.2 - a.2)*(c.2 - a.2) ∧
  u*((b.1 - a.1)*(b.1 - a.1)+(b.2 - a.2)*(b.2 - a.2))=((c.1 - a.1)*(c.1 - a.1)+(c.2 - a.2)*(c.2 - a.2)) - ((d.1 - c.1)*(d.1 - c.1)+(d.2 - c.2)*(d.2 - c.2))∧h*h=m*m - u∧x=(a.1+(m+h)*(b.1 - a.1),a.2+(m+h)*(b.2 - a.2))
 else if k=13 then ∃m t h,(c.1 - a.1)*(c.1 - a.1)+(c.2 - a.2)*(c.2 - a.2)≠0 ∧
  m*(2*((c.1 - a.1)*(c.1 - a.1)+(c.2 - a.2)*(c.2 - a.2)))=((c.1 - a.1)*(c.1 - a.1)+(c.2 - a.2)*(c.2 - a.2))+((b.1 - a.1)*(b.1 - a.1)+(b.2 - a.2)*(b.2 - a.2)) - ((d.1 - c.1)*(d.1 - c.1)+(d.2 - c.2)*(d.2 - c.2)) ∧
  t*((c.1 - a.1)*(c.1 - a.1)+(c.2 - a.2)*(c.2 - a.2))=(b.1 - a.1)*(b.1 - a.1)+(b.2 - a.2)*(b.2 - a.2)∧h*h=t - m*m∧x=(a.1+m*(c.1 - a.1) - h*(c.2 - a.2),a.2+m*(c.2 - a.2)+h*(c.1 - a.1))
 else False
theorem Zth {r:Rat} {y z:Int} (hz:z≠0) (h:r*(z:Rat)=(y:Rat)):r.num.natAbs≤y.natAbs∧r.den≤z.natAbs:=by
 have hd:((r.den:Int):Rat)≠0:=by rw [Ne,Rat.intCast_eq_zero_iff];have:=r.den_nz;omega
 have e1:r*((r.den:Int):Rat)=(r.num:Rat):=by
  conv=>lhs;lhs;rw [←Rat.num_divInt_den r,Rat.divInt_eq_div]
  exact Rat.div_mul_cancel hd
 have e2:r.num*z=y*(r.den:Int):=by
  have:((r.num*z:Int):Rat)=((y*(r.den:Int):Int):Rat):=by
   rw [Rat.intCast_mul,Rat.intCast_mul,←e1,←h,Rat.mul_assoc,Rat.mul_assoc,Rat.mul_comm ((r.den:Int):Rat)]
  exact Rat.intCast_inj.1 this
 have e3:r.num.natAbs*z.natAbs=y.natAbs*r.den:=by
  have:=ZBn Int.natAbs e2
  rwa [ZAb,ZAb,ZAo] at this
 have hc:=r.reduced;constructor
 ·by_cases hy:y=0
  ·subst hy;rw [show(0:Int).natAbs=0 from rfl,ZCl] at e3;rcases Nat.mul_eq_zero.1 e3 with h | h
   ·omega
   ·omega
  ·exact Nat.le_of_dvd zo (hc.dvd_of_dvd_mul_right ⟨z.natAbs,e3.symm⟩)
 ·exact Nat.le_of_dvd zo (hc.symm.dvd_of_dvd_mul_left ⟨y.natAbs,by rw [e3,Zy9]⟩)
theorem ib_sz {k:Nat} {r d:Rat} (h0:d≠0) (hd:IB k d) (hn:IB k (r*d)):Sz r (k/16+1):=by
 obtain⟨z,rfl,b⟩:=hd;obtain⟨y,e,c⟩:=hn;have hz:z≠0:=λe=>h0 (by rw [e];rfl);obtain⟨h1,h2⟩:=Zth hz e
 have hp:2 ^ k≤65536 ^ (k/16+1):=by
  rw [show(65536:Nat)=2 ^ 16 from rfl,←Nat.pow_mul];exact Zzj zo zo
 exact⟨Zac.2 zo,Zac.2 zo⟩
theorem hv_sz {k:Nat} {p:PQ} (h:Hv k p):p.sz (k/16+1):=by
 obtain⟨d,h0,h1,h2,h3⟩:=h;exact⟨ib_sz h0 h1 h2,ib_sz h0 h1 h3⟩
theorem sz_hq {r:Rat} (h:Sz r 2):Hq 64 r:=by
 have h1:=Zac.1 h.1;have h2:=Zac.1 h.2;have hd:((r.den:Int):Rat)≠0:=by rw [Ne,Rat.intCast_eq_zero_iff];have:=r.den_nz;omega
 refine⟨((r.den:Int):Rat),hd,⟨_,rfl,?_⟩,⟨r.num,?_,?_⟩⟩
 ·rw [ZAo];exact Zzz h2 zd
 ·conv=>lhs;lhs;rw [←Rat.num_divInt_den r,Rat.divInt_eq_div]
  exact Rat.div_mul_cancel hd
 ·exact Zzz h1 zd
end Go.Proofs.YtenfejhaohihoaaGreat
namespace Go.Proofs.YtenfejhaohihoaaGreat
open Go Go.RowKit Go.Pg Go.Pol Go.Proofs.Tryz
attribute [-bool_to_prop] Bool.and_eq_decide Bool.or_eq_decide Bool.decide_beq_decide decide_eq_decide
abbrev Tm:=Rat × List Int
abbrev Po:=List Tm
abbrev tmA (t:Tm):AV:=.agg [.v (.bool (decide (t.1.num < 0))),lim (toL t.1.num.natAbs),lim (toL t.1.den),ivs t.2]
abbrev poA (p:Po):AV:=.sl 4 (p.map tmA)
abbrev SrtM (p:Po):Prop:=Srt Can ltM p
abbrev addM (p q:Po):Po:=addP ltM p q
abbrev subM (p q:Po):Po:=subP ltM p q
abbrev mlM (p q:Po):Po:=mulR ltM mulM p q
def sclM (a:Rat) (p:Po):Po:=if a=0 then [] else Zaw a p
def PK (p:Po) (k e:Nat):Prop:=∀t∈p,Sz t.1 k∧t.2.length≤1000∧∀j,0≤gI t.2 j∧gI t.2 j≤(e:Int)
theorem PK.mono {p:Po} {k j e f:Nat} (h:PK p k e) (hk:k≤j) (he:e≤f):PK p j f:=λt ht=>⟨(h t ht).1.mono hk,(h t ht).2.1,λi=>by have:=(h t ht).2.2 i;omega⟩
theorem PK.sm {p:Po} {k e:Nat} (h:PK p k e) (he:e≤16777216) {t:Tm} (ht:t∈p):Sm t.2:=⟨(h t ht).2.1,λi=>by have:=(h t ht).2.2 i;omega⟩
theorem PK.nil {k e:Nat}:PK [] k e:=λt ht=>by simp at ht
theorem PK.tail {t:Tm} {p:Po} {k e:Nat} (h:PK (t :: p) k e):PK p k e:=λu hu=>h u (.tail _ hu)
theorem PK.drop {p:Po} {k e:Nat} (h:PK p k e) (i:Nat):PK (p.drop i) k e:=λu hu=>h u (Zz8 hu)
theorem PK.add {p q:Po} {j k e:Nat} (hp:PK p j e) (hq:PK q k e):PK (addM p q) (j+k+1) e:=λt ht=>by
 rcases Zfx ht with h | h | ⟨s,hs,u,hu,rfl⟩
 ·exact⟨(hp t h).1.mono zo,(hp t h).2⟩
 ·exact⟨(hq t h).1.mono zo,(hq t h).2⟩
 ·exact⟨(hp s hs).1.add (hq u hu).1,(hp s hs).2⟩
theorem PK.scale {p:Po} {j k e:Nat} {a:Rat} (hp:PK p j e) (ha:Sz a k):PK (Zaw a p) (j+k) e:=λt ht=>by
 obtain⟨s,hs,rfl⟩:=List.mem_map.1 ht;exact⟨(hp s hs).1.mul ha,(hp s hs).2⟩
theorem PK.times {p:Po} {t:Tm} {j k e f:Nat} (hp:PK p j e) (ht:PK [t] k f):PK (Zai mulM p t) (j+k) (e+f):=λu hu=>by
 obtain⟨s,hs,rfl⟩:=List.mem_map.1 hu;have h1:=hp s hs;have h2:=ht t (.head _);refine⟨h1.1.mul h2.1,by rw [Zf8];have:=h1.2.1;have:=h2.2.1;omega,λi=>?_⟩;show 0≤gI (mulM s.2 t.2) i∧gI (mulM s.2 t.2) i≤_;rw [Zfo _ rfl];have:=h1.2.2 i;have:=h2.2.2 i;omega
theorem Zlr {a b:List Int} (ha:Can a) (hb:Can b):(ltM a b∧lexC a b (max a.length b.length)=-1)∨(¬ltM a b∧¬ltM b a∧a=b∧lexC a b (max a.length b.length)=0)∨(ltM b a∧¬ltM a b∧lexC a b (max a.length b.length)=1):=by
 rcases @Zi0 a b (max a.length b.length) with⟨h,h2⟩ | h | h
 ·have e:a=b:=Zxs ha hb λj=>by
   by_cases hj:j < max a.length b.length
   ·exact h2 j hj
   ·rw [Zb3 zo,Zb3 zo]
  refine .inr (.inl ⟨?_,?_,e,h⟩)
  ·unfold ltM;rw [h];decide
  ·subst e;unfold ltM;rw [h];decide
 ·exact .inl ⟨h,h⟩
 ·have h3:ltM b a:=by unfold ltM;rw [Nat.max_comm,Zmt,h]
  refine .inr (.inr ⟨h3,?_,h⟩);unfold ltM;rw [h];decide
theorem Zrk {l:List Int} (h:Can l):Ziw l=l:=by
 unfold Ziw;rcases h.2 with h0 | h0
 ·have:l=[]:=List.length_eq_zero_iff.1 h0;subst this;rfl
 ·rcases Zzk l.length with h1 | h1
  ·have:l=[]:=List.length_eq_zero_iff.1 h1;subst this;rfl
  ·rw [Zlb h1 h0,Zy7]
theorem Znb:Can []:=⟨λj=>by rw [Zb3 (Zyi _)];omega,.inl rfl⟩
theorem Zsg (a:List Int):mulM a []=a:=by
 refine List.ext_getElem (by rw [Zf8];simp) λj h1 h2=>?_;have:=Zfo (·+·) rfl a [] j;rw [Zdr h1,Zdr h2,Zb3 (Zyi _),Int.add_zero] at this;exact this
theorem nil_mulM (a:List Int):mulM [] a=a:=by rw [mulK.comm];exact Zsg a
theorem Zs5 (p:Po) (a:Rat):Zai mulM p (a,[])=Zaw a p:=by
 unfold Zai Zaw;exact ZAj λs _=>by rw [Zsg]
def Zdf (v:Nat):List Int:=List.replicate v 0++[1]
theorem Zej (v:Nat):(Zdf v).length=v+1:=by simp [Zdf]
theorem Zfb (v j:Nat):gI (Zdf v) j=if j=v then 1 else 0:=by
 by_cases h:j < v+1
 ·rw [Zdr (by rw [Zej];exact h)];unfold Zdf;rw [List.getElem_append];by_cases hj:j < v
  ·rw [dif_pos (by simpa using hj),List.getElem_replicate,Zx4 zo]
  ·rw [dif_neg (by simpa using hj),Zx5 zo];simp
 ·rw [Zb3 (by rw [Zej];omega),Zx4 zo]
theorem can_unit (v:Nat):Can (Zdf v):=by
 refine⟨λj=>by rw [Zfb];split<;>omega,.inr ?_⟩;rw [Zej,Zfb,Zx5 zo];omega
def varM (v:Nat):Po:=if v < 64 then [(1,Zdf v)] else []
theorem Zce (v:Nat):SrtM (varM v):=by
 unfold varM;split
 ·exact Srt.nil.cons (by show(1:Rat)≠0;decide) (can_unit v) zs
 ·exact .nil
theorem Ziu (v:Nat):PK (varM v) 1 1:=by
 unfold varM;split
 ·intro t ht;rw [Zzs] at ht;subst ht;refine⟨Zci 1 zo,by show(Zdf v).length≤1000;rw [Zej];omega,λj=>?_⟩;show 0≤gI (Zdf v) j∧gI (Zdf v) j≤_;rw [Zfb];split<;>omega
 ·exact .nil
theorem Zom {r:Rat} (hr:r≠0) {q:Po} (hq:SrtM q):mlM [(r,[])] q=Zaw r q:=Zwm ordM mulK nil_mulM Znb hr hq
structure RS where
 k:Int
 nm:ByteArray
 ar:List Int
 r:RQ
structure RG where
 k:Int
 ar:List Int
 r:RQ
abbrev RS.av (s:RS):AV:=.agg [iv s.k,strA s.nm,ivs s.ar,.v (.bool s.r.s),lim s.r.l,lim s.r.d]
abbrev RG.av (g:RG):AV:=.agg [iv g.k,ivs g.ar,.v (.bool g.r.s),lim g.r.l,lim g.r.d]
abbrev figA (ss:List RS) (gs:List RG):AV:=.agg [.sl 6 (ss.map RS.av),.sl 5 (gs.map RG.av)]
def RQ.none (r:RQ):Bool:=!r.s && (decide (r.l.length=0) && decide (r.d.length=0))
structure FS where
 cs:List (Po × Po)
 vs:List Vt
 fr:Nat
abbrev coA (c:Po × Po):AV:=.agg [poA c.1,poA c.2]
def FS.at (f:FS) (s:RS) (k:Nat):Po × Po:=f.cs.getD (gI s.ar k).toNat ([],[])
def FS.nxt (f:FS) (i:Nat) (s:RS):List Vt × (Po × Po) :=
 let v:=f.vs.length
 let a:=f.at s 0
 let b:=f.at s 1
 let c:=f.at s 2
 if s.k=1 then
  (if f.fr=0 then ([],([],[]))
   else if f.fr=1 then ([(1,(i:Int),0)],(varM v,[]))
   else ([(1,(i:Int),0),(1,(i:Int),1)],(varM v,varM (v+1))))
 else if s.k=2 then ([],(addM a.1 (sclM s.r.q (subM b.1 a.1)),addM a.2 (sclM s.r.q (subM b.2 a.2))))
 else if s.k=3 then ([],(addM a.1 (subM c.1 b.1),addM a.2 (subM c.2 b.2)))
 else if s.k=4 then ([],(addM a.1 (subM b.2 c.2),addM a.2 (subM c.1 b.1)))
 else if s.k=5 then ([(1,(i:Int),0)],(addM a.1 (mlM (subM b.1 a.1) (varM v)),addM a.2 (mlM (subM b.2 a.2) (varM v))))
 else if s.k=6 then ([(1,(i:Int),0),(2,(i:Int),1),(2,(i:Int),2)],(varM (v+1),varM (v+2)))
 else ([(2,(i:Int),0),(2,(i:Int),1)],(varM v,varM (v+1)))
def FS.push (f:FS) (i:Nat) (s:RS):FS:=⟨f.cs++[(f.nxt i s).2],f.vs++(f.nxt i s).1,if s.k=1 then f.fr+1 else f.fr⟩
def frN (ss:List RS):Nat→FS
 | 0=>⟨[],[],0⟩
 | i+1=>(frN ss i).push i (ss.getD i ⟨0,.empty,[],⟨false,[],[]⟩⟩)
def bigN (ss:List RS) (i:Nat):Bool :=
 decide (64 < (frN ss (i+1)).vs.length) || decide (4000 < ((frN ss i).nxt i (ss.getD i ⟨0,.empty,[],⟨false,[],[]⟩⟩)).2.1.length) || decide (4000 < ((frN ss i).nxt i (ss.getD i ⟨0,.empty,[],⟨false,[],[]⟩⟩)).2.2.length)
theorem Zeu (ss:List RS):∀i,(frN ss i).cs.length=i
 | 0=>rfl
 | i+1=>by show((frN ss i).cs++[_]).length=i+1;rw [Zy0,Zeu ss i];rfl
def BB (n:Nat):Nat:=65536 ^ (3*n)
theorem BB_pos (n:Nat):1≤BB n:=Nat.one_le_pow _ _ zo
theorem BB_succ (n:Nat):BB (n+1)=BB n*65536 ^ 3:=by unfold BB;rw [←Zzo];rfl
def GP (n D v:Nat) (p:Po):Prop:=SrtM p∧∀t∈p,BQ D (BB n) t.1∧t.2.length≤v∧∀j,gI t.2 j≤1
theorem GP.nil {n D v:Nat}:GP n D v []:=⟨.nil,λt h=>by simp at h⟩
theorem GP.mono {n D v m E w:Nat} {p:Po} (h:GP n D v p) (hn:n≤m) (hd:D ∣ E) (hv:v≤w):GP m E w p :=
 ⟨h.1,λt ht=>⟨(h.2 t ht).1.mono hd (Zzj zo zo),by have:=(h.2 t ht).2.1;omega,(h.2 t ht).2.2⟩⟩
theorem bq_sz {D B d b:Nat} {q:Rat} (h:BQ D B q) (h0:D≠0) (hd:D < 65536 ^ d) (hb:B < 65536 ^ b):Sz q (d+b):=by
 have h1:q.den≤D:=Nat.le_of_dvd (Zz7 h0) h.1;refine⟨Zac.2 ?_,Zye (Zac.2 (ZBj h1 hd)) zo⟩;have hp:0 < q.den:=q.den_pos
 calc q.num.natAbs≤B*q.den:=h.2
  _≤B*D:=ZAh _ h1
  _ < 65536 ^ b*65536 ^ d:=Nat.mul_lt_mul_of_lt_of_lt hb hd
  _=65536 ^ (d+b):=by rw [Zy9,←Zzo]
theorem GP.pk {n D v:Nat} {p:Po} (h:GP n D v p) (hv:v≤1000) (h0:D≠0) (hd:D < 65536 ^ (2*n+1)) (hn:n≤20):PK p 110 1:=λt ht=>by
 obtain⟨h1,h2,h3⟩:=h.2 t ht;refine⟨(bq_sz (b:=3*n+1) h1 h0 hd (by unfold BB;exact Nat.pow_lt_pow_right zo zo)).mono zo,zo,λj=>⟨(h.1.1 t ht).2.1 j,h3 j⟩⟩
def GB (B D v:Nat) (p:Po):Prop:=SrtM p∧∀t∈p,BQ D B t.1∧t.2.length≤v∧∀j,gI t.2 j≤1
theorem GB.mono {B D v C E w:Nat} {p:Po} (h:GB B D v p) (hn:B≤C) (hd:D ∣ E) (hv:v≤w):GB C E w p :=
 ⟨h.1,λt ht=>⟨(h.2 t ht).1.mono hd hn,by have:=(h.2 t ht).2.1;omega,(h.2 t ht).2.2⟩⟩
theorem GB.add {B C D v:Nat} {p q:Po} (h:GB B D v p) (k:GB C D v q):GB (B+C) D v (addM p q):=by
 refine⟨Zb5 ordM h.1 k.1,λt ht=>?_⟩;rcases Zfx ht with h1 | h1 | ⟨s,hs,u,hu,rfl⟩
 ·exact⟨(h.2 t h1).1.mono (ZAs _) zo,(h.2 t h1).2⟩
 ·exact⟨(k.2 t h1).1.mono (ZAs _) zo,(k.2 t h1).2⟩
 ·exact⟨(h.2 s hs).1.add (k.2 u hu).1,(h.2 s hs).2⟩
theorem GB.neg {B D v:Nat} {p:Po} (h:GB B D v p):GB B D v (Zaw (-1) p):=by
 refine⟨Zca h.1 neg1,λt ht=>?_⟩;obtain⟨s,hs,rfl⟩:=List.mem_map.1 ht;refine⟨?_,(h.2 s hs).2⟩;have e:s.1*-1=-s.1:=by grind
 show BQ D B (s.1*-1);rw [e];exact(h.2 s hs).1.neg
theorem GB.sub {B C D v:Nat} {p q:Po} (h:GB B D v p) (k:GB C D v q):GB (B+C) D v (subM p q):=h.add k.neg
theorem GB.scl {B C D E v:Nat} {p:Po} {a:Rat} (h:GB B D v p) (ha:BQ E C a):GB (B*C) (D*E) v (sclM a p):=by
 unfold sclM;split
 ·exact⟨.nil,λt h=>by simp at h⟩
 ·rename_i h0;refine⟨Zca h.1 h0,λt ht=>?_⟩;obtain⟨s,hs,rfl⟩:=List.mem_map.1 ht;exact⟨(h.2 s hs).1.mul ha,(h.2 s hs).2⟩
theorem Zqq (p:Po) (v:Nat):mlM p (varM v)=if v < 64 then Zai mulM p (1,Zdf v) else []:=by
 unfold varM;split
 ·show addP ltM [] (Zai mulM p (1,Zdf v))=_;simp [addP]
 ·rfl
theorem GB.var {B D v:Nat} {p:Po} (h:GB B D v p):GB B D (v+1) (mlM p (varM v)):=by
 refine⟨Zbr ordM mulK h.1 (Zce v),λt ht=>?_⟩;rw [Zqq] at ht;split at ht
 ·obtain⟨s,hs,rfl⟩:=List.mem_map.1 ht;obtain⟨h1,h2,h3⟩:=h.2 s hs;refine⟨by show BQ D B (s.1*1);rw [ZBr];exact h1,by show(mulM s.2 (Zdf v)).length≤v+1;rw [Zf8,Zej];omega,λj=>?_⟩;show gI (mulM s.2 (Zdf v)) j≤1;rw [Zfo _ rfl,Zfb];split
  ·rename_i hj;rw [Zb3 zo];omega
  ·have:=h3 j;omega
 ·simp at ht
theorem GB.one {B D v w:Nat} (hB:1≤B) (h:v < w):GB B D w (varM v):=by
 refine⟨Zce v,λt ht=>?_⟩;unfold varM at ht;split at ht
 ·rw [Zzs] at ht;subst ht;refine⟨BQ.int 1 (by simpa using hB),by show(Zdf v).length≤w;rw [Zej];omega,λj=>?_⟩;show gI (Zdf v) j≤1;rw [Zfb];split<;>omega
 ·simp at ht
theorem GB.nil {B D v:Nat}:GB B D v []:=⟨.nil,λt h=>by simp at h⟩
structure FI (f:FS) (n D:Nat):Prop where
 D0:D≠0
 Dl:D < 65536 ^ (2*n+1)
 nv:f.vs.length≤64
 cs:∀c∈f.cs,GP n D f.vs.length c.1∧GP n D f.vs.length c.2
 ln:∀c∈f.cs,c.1.length≤4000∧c.2.length≤4000
theorem FI.at {f:FS} {n D:Nat} (h:FI f n D) (s:RS) (k:Nat):(GP n D f.vs.length (f.at s k).1∧GP n D f.vs.length (f.at s k).2)∧(f.at s k).1.length≤4000∧(f.at s k).2.length≤4000:=by
 unfold FS.at;by_cases hk:(gI s.ar k).toNat < f.cs.length
 ·have:=Za2 (d:=(([],[]):Po × Po)) hk;exact⟨h.cs _ this,h.ln _ this⟩
 ·rw [Zyg,Zzl zo];exact⟨⟨.nil,.nil⟩,by simp,by simp⟩
def RQ.bd (r:RQ):Prop:=r.ok=true→r.q.den < 65536 ^ 2∧r.q.num.natAbs < 65536 ^ 2
theorem lm_bd {r:RQ} (h:r.lm 2):r.bd:=λho=>by
 obtain⟨-,h1,h2⟩:=RQ.ok_av h ho;exact⟨Zac.1 h2,Zac.1 h1⟩
theorem FI.nxt {f:FS} {n D:Nat} (h:FI f n D) (i:Nat) (s:RS) (hr:s.k=2→s.r.ok=true) (hb:s.r.bd) :
 ∃E,E≠0∧D ∣ E∧E < 65536 ^ (2*(n+if s.k=1 then 0 else 1)+1) ∧
  GP (n+if s.k=1 then 0 else 1) E (f.vs++(f.nxt i s).1).length (f.nxt i s).2.1∧GP (n+if s.k=1 then 0 else 1) E (f.vs++(f.nxt i s).1).length (f.nxt i s).2.2:=by
 obtain⟨⟨a1,a2⟩,-⟩:=h.at s 0;obtain⟨⟨b1,b2⟩,-⟩:=h.at s 1;obtain⟨⟨c1,c2⟩,-⟩:=h.at s 2;have hB:=BB_pos n;have hS:=BB_succ n;unfold FS.nxt;simp only;have one:∀v w,v < w→GP n D w (varM v):=λv w hv=>GB.one hB hv;have up:∀{E v:Nat} {p:Po} {C:Nat},GB C E v p→C≤BB n*65536 ^ 3→GP (n+1) E v p:=λh hc=>GB.mono h (by rw [hS];exact hc) (ZAs _) (Zx7 _);have dl:D < 65536 ^ (2*(n+1)+1):=Zzz h.Dl (Zzj zo zo)
 have b3:BB n+(BB n+BB n)≤BB n*65536 ^ 3:=by
  have:BB n*3≤BB n*65536 ^ 3:=ZAh _ zd;omega
 by_cases k1:s.k=1
 ·rw [Zx5 k1,Zx5 k1];refine⟨D,h.D0,ZAs _,h.Dl,?_⟩;split
  ·exact⟨.nil,.nil⟩
  ·split
   ·exact⟨one _ _ zs,.nil⟩
   ·exact⟨one _ _ zs,one _ _ zs⟩
 ·rw [Zx4 k1,Zx4 k1];by_cases k2:s.k=2
  ·rw [Zx5 k2];obtain⟨h1,h2⟩:=hb (hr k2);refine⟨D*s.r.q.den,ZBb h.D0 s.r.q.den_nz,ZBt _ _,?_,?_⟩
   ·calc D*s.r.q.den < 65536 ^ (2*n+1)*65536 ^ 2:=Nat.mul_lt_mul_of_lt_of_lt h.Dl h1
     _=65536 ^ (2*(n+1)+1):=by rw [←Zzo];congr 1
   ·have hq:BQ s.r.q.den (65536 ^ 2) s.r.q:=⟨ZAs _,by have:=s.r.q.den_pos;have:=ZBa (65536 ^ 2) this;omega⟩
    have bd:BB n+(BB n+BB n)*65536 ^ 2≤BB n*65536 ^ 3:=by
     have e1:(BB n+BB n)*65536 ^ 2=BB n*(2*65536 ^ 2):=by rw [←Nat.mul_two,Zzm]
     rw [e1];have:BB n*(1+2*65536 ^ 2)≤BB n*65536 ^ 3:=ZAh _ zd;omega
    rw [Zzy];exact⟨up ((GB.mono a1 (Zx7 _) (ZBt _ _) (Zx7 _)).add ((GB.sub b1 a1).scl hq)) bd,up ((GB.mono a2 (Zx7 _) (ZBt _ _) (Zx7 _)).add ((GB.sub b2 a2).scl hq)) bd⟩
  ·rw [Zx4 k2];refine⟨D,h.D0,ZAs _,dl,?_⟩;have one':∀v w,v < w→GP (n+1) D w (varM v):=λv w hv=>GB.one (BB_pos _) hv;by_cases k3:s.k=3
   ·rw [Zx5 k3,Zzy];exact⟨up (GB.add a1 (GB.sub c1 b1)) b3,up (GB.add a2 (GB.sub c2 b2)) b3⟩
   ·rw [Zx4 k3];by_cases k4:s.k=4
    ·rw [Zx5 k4,Zzy];exact⟨up (GB.add a1 (GB.sub b2 c2)) b3,up (GB.add a2 (GB.sub c1 b1)) b3⟩
    ·rw [Zx4 k4];by_cases k5:s.k=5
     ·rw [Zx5 k5];have e:(f.vs++[(1,(i:Int),0)]).length=f.vs.length+1:=by simp
      rw [e];exact⟨up (GB.add (GB.mono a1 (Zx7 _) (ZAs _) zo) (GB.sub b1 a1).var) b3,up (GB.add (GB.mono a2 (Zx7 _) (ZAs _) zo) (GB.sub b2 a2).var) b3⟩
     ·rw [Zx4 k5];by_cases k6:s.k=6
      ·rw [Zx5 k6];exact⟨one' _ _ zs,one' _ _ zs⟩
      ·rw [Zx4 k6];exact⟨one' _ _ zs,one' _ _ zs⟩
def nfN (ss:List RS):Nat→Nat
 | 0=>0
 | i+1=>nfN ss i+if (ss.getD i ⟨0,.empty,[],⟨false,[],[]⟩⟩).k=1 then 0 else 1
theorem frN_ok (ss:List RS) (hr:∀s∈ss,s.k=2→s.r.ok=true) (hb:∀s∈ss,s.r.bd):∀i,i≤ss.length→(∀j,j < i→bigN ss j=false)→∃D,FI (frN ss i) (nfN ss i) D
 | 0,_,_=>⟨1,zo,by show 1 < 65536 ^ (2*0+1);decide,Zyi _,λc h=>by simp [frN] at h,λc h=>by simp [frN] at h⟩
 | i+1,hi,hj=>by
   obtain⟨D,hD⟩:=frN_ok ss hr hb i zo λj h=>hj j zo;have hbig:=hj i zo;unfold bigN at hbig;simp only [ZAn,ZAa,Nat.not_lt] at hbig;have hm:ss.getD i ⟨0,.empty,[],⟨false,[],[]⟩⟩∈ss:=Za2 zo;have hs1:=hr _ hm;have hs2:=hb _ hm;unfold nfN;show ∃D,FI ((frN ss i).push i (ss.getD i ⟨0,.empty,[],⟨false,[],[]⟩⟩)) _ D;have hv:=hbig.1.1;unfold frN at hv;generalize ss.getD i ⟨0,.empty,[],⟨false,[],[]⟩⟩=s at *;obtain⟨E,e0,e1,e2,g1,g2⟩:=hD.nxt i s hs1 hs2;refine⟨E,e0,e2,hv,λc hc=>?_,λc hc=>?_⟩
   ·rcases List.mem_append.1 hc with h1 | h1
    ·obtain⟨k1,k2⟩:=hD.cs c h1;have hl:(frN ss i).vs.length≤((frN ss i).push i s).vs.length:=by show _≤((frN ss i).vs++((frN ss i).nxt i s).1).length;rw [Zy0];omega
     exact⟨k1.mono zo e1 hl,k2.mono zo e1 hl⟩
    ·rw [Zzs] at h1;subst h1;exact⟨g1,g2⟩
   ·rcases List.mem_append.1 hc with h1 | h1
    ·exact hD.ln c h1
    ·rw [Zzs] at h1;subst h1;exact⟨hbig.1.2,hbig.2⟩
section
variable {N n:Nat} {cs:List AV}
theorem agInt:Zg5 prog 3=false:=by kernel_rfl
theorem csInt:prog.cellsOf 3=1:=by kernel_rfl
theorem shIvs (h:Zcl prog N n 67 cs):∃l:List Int,cs=[ivs l]∧l.length≤N:=by
 obtain⟨bs,rfl,hl,_⟩:=Zdc (g:=λk:Int=>[iv k]) (Q:=λ_=>True) underlying67 h λm x hx=>by
  obtain⟨i,rfl,_⟩:=Zic underlying3 hx;exact⟨i,rfl,trivial⟩
 refine⟨bs,?_,hl⟩;rw [csInt];have:(bs.map λb:Int=>Zdn prog 3 [iv b])=bs.map iv:=ZAj λb _=>Zgl agInt _;rw [this]
theorem shStep (h:Zcl prog N n 76 cs):∃s:RS,cs=[iv s.k,strA s.nm,ivs s.ar,.v (.bool s.r.s),lim s.r.l,lim s.r.d]∧s.r.lm N∧s.nm.size≤N∧s.ar.length≤N:=by
 obtain⟨m,rfl,hs⟩:=Zel underlying76 zk h;obtain⟨x,y,rfl,h1,hs⟩:=hs.inv;obtain⟨x2,y,rfl,h2,hs⟩:=hs.inv;obtain⟨x3,y,rfl,h3,hs⟩:=hs.inv;obtain⟨x4,y,rfl,h4,hs⟩:=hs.inv;obtain rfl:=hs.inv0;obtain⟨k,rfl,_⟩:=Zic underlying3 h1;obtain⟨nm,rfl,hn⟩:=Znr underlying9 h2;obtain⟨ar,rfl,ha⟩:=shIvs h3;obtain⟨r,rfl,hr⟩:=shRat h4;exact⟨⟨k,nm,ar,r⟩,rfl,hr,hn,ha⟩
theorem shFact (h:Zcl prog N n 78 cs):∃g:RG,cs=[iv g.k,ivs g.ar,.v (.bool g.r.s),lim g.r.l,lim g.r.d]∧g.r.lm N∧g.ar.length≤N:=by
 obtain⟨m,rfl,hs⟩:=Zel underlying78 zk h;obtain⟨x,y,rfl,h1,hs⟩:=hs.inv;obtain⟨x3,y,rfl,h3,hs⟩:=hs.inv;obtain⟨x4,y,rfl,h4,hs⟩:=hs.inv;obtain rfl:=hs.inv0;obtain⟨k,rfl,_⟩:=Zic underlying3 h1;obtain⟨ar,rfl,ha⟩:=shIvs h3;obtain⟨r,rfl,hr⟩:=shRat h4;exact⟨⟨k,ar,r⟩,rfl,hr,ha⟩
theorem shSteps (h:Zcl prog N n 22 cs):∃l:List RS,cs=[.sl 6 (l.map RS.av)]∧l.length≤N∧∀s∈l,s.r.lm N∧s.nm.size≤N∧s.ar.length≤N:=by
 obtain⟨bs,rfl,hl,hq⟩:=Zdc (g:=λs:RS=>[iv s.k,strA s.nm,ivs s.ar,.v (.bool s.r.s),lim s.r.l,lim s.r.d]) (Q:=λs=>s.r.lm N∧s.nm.size≤N∧s.ar.length≤N) underlying22 h λm x hx=>shStep hx;refine⟨bs,?_,hl,hq⟩;rw [show prog.cellsOf 76=6 from by kernel_rfl];have:(bs.map λs:RS=>Zdn prog 76 [iv s.k,strA s.nm,ivs s.ar,.v (.bool s.r.s),lim s.r.l,lim s.r.d])=bs.map RS.av:=ZAj λb _=>Zh9 underlying76 _;rw [this]
theorem shFacts (h:Zcl prog N n 23 cs):∃l:List RG,cs=[.sl 5 (l.map RG.av)]∧l.length≤N∧∀s∈l,s.r.lm N∧s.ar.length≤N:=by
 obtain⟨bs,rfl,hl,hq⟩:=Zdc (g:=λs:RG=>[iv s.k,ivs s.ar,.v (.bool s.r.s),lim s.r.l,lim s.r.d]) (Q:=λs=>s.r.lm N∧s.ar.length≤N) underlying23 h λm x hx=>shFact hx;refine⟨bs,?_,hl,hq⟩;rw [show prog.cellsOf 78=5 from by kernel_rfl];have:(bs.map λs:RG=>Zdn prog 78 [iv s.k,ivs s.ar,.v (.bool s.r.s),lim s.r.l,lim s.r.d])=bs.map RG.av:=ZAj λb _=>Zh9 underlying78 _;rw [this]
theorem shFigure (h:Zcl prog N n 25 cs):∃(ss:List RS) (gs:List RG),Zdn prog 25 cs=figA ss gs∧ss.length≤N∧gs.length≤N∧(∀s∈ss,s.r.lm N∧s.nm.size≤N∧s.ar.length≤N)∧∀s∈gs,s.r.lm N∧s.ar.length≤N:=by
 obtain⟨m,rfl,hs⟩:=Zel underlying25 zk h;obtain⟨x,y,rfl,h1,hs⟩:=hs.inv;obtain⟨x3,y,rfl,h3,hs⟩:=hs.inv;obtain rfl:=hs.inv0;obtain⟨ss,rfl,hl,hq⟩:=shSteps h1;obtain⟨gs,rfl,kl,kq⟩:=shFacts h3;exact⟨ss,gs,Zh9 underlying25 _,hl,kl,hq,kq⟩
end
theorem Zqw {r:RQ} {a b:Nat} (h:r.lm a) (hab:a≤b):r.lm b:=⟨h.1,h.2.1,Zye h.2.2.1 hab,Zye h.2.2.2 hab⟩
end Go.Proofs.YtenfejhaohihoaaGreat
namespace Go.Pg
open Go Go.RowKit Go.Lib
section
variable {P:Program} {n:Nat}
theorem Zra {x y:Code} {Q:AE→St→Prop} {st:St} (h:AWP P n x (AE.then (AWP P n y Q) Q) st):AWP P n (.seq x y) Q st:=λc a w imm hr=>by
 refine wp_seq (ZBp (λe a' w' hp=>?_) (h c a w imm hr));obtain⟨ae,st',imm',rfl,h2,h3⟩:=hp
 cases ae with
 | normal=>exact h2 c a' w' imm' h3
 | exit id=>exact⟨.exit id,st',imm',rfl,h2,h3⟩
 | ret=>exact⟨.ret,st',imm',rfl,h2,h3⟩
theorem Zs1 {o:Oper} {a:Act} {w w':World} {ops:Array Oper} {Qp:Exit→Act→World→Prop} {l:List Oper} {y:Value} (hg:o.guard=none) (hr:(execOp a.eval o).run P w=.ok (.value y) w') (h:wpList P ops Qp l (a.put o.dst y) w'):wpList P ops Qp (o :: l) a w:=by
 unfold wpList;rw [Zx5 (by simp [Region.wanted,hg])];refine .inl ?_;unfold Oper.wp;rw [hr];exact h
theorem rebase {c:Cx} {e:Nat→AV} {a:Act} {w:World} {imm:Imm} (h:Rel c n ⟨e,Zae⟩ a w imm):Rel ⟨w.heap.size,w,imm⟩ n ⟨e,Zae⟩ a w imm :=
 ⟨h.env,h.size,h.defers,⟨⟨λk e hk=>by simp [Zae] at hk,λk k' e e' b hk=>by simp [Zae] at hk,h.mem.ok.lt,h.mem.ok.spot⟩,Blw.refl _ _,Zx7 _,λ_ h1=>h1,λ_ h1=>.inl h1,λ_ _=>rfl⟩⟩
theorem unbase {c:Cx} {st':St} {a':Act} {w w':World} {imm imm':Imm} (hm:Mx c Zae w imm) (h:Rel ⟨w.heap.size,w,imm⟩ n st' a' w' imm') (h0:st'.mem=Zae):Rel c n st' a' w' imm':=by
 refine⟨h.env,h.size,h.defers,?_⟩;have hm':=h.mem;rw [h0] at hm' ⊢;exact⟨⟨λk e hk=>by simp [Zae] at hk,λk k' e e' b hk=>by simp [Zae] at hk,hm'.ok.lt,hm'.ok.spot⟩,hm.below.trans (hm'.below.mono hm.lt),Zye hm.lt hm'.lt,λad h1=>hm'.old ad (hm.old ad h1),λad h1=>(hm'.new ad h1).elim (hm.new ad) (λh2=>.inr (Zye hm.lt h2)),λad h1=>(hm'.cells ad (hm.old ad h1)).trans (hm.cells ad h1)⟩
structure ItS (c:Cx) (n:Nat) (s:ByteArray) (tI:Nat) (J:Nat→(Nat→AV)→Prop) (pos:Nat) (a:Act) (w:World):Prop where
 h:∃e imm g,Rel c n ⟨e,Zae⟩ a w imm∧w.heap[g]?=some (.stringIter s pos)∧c.B≤g∧(∀ad,imm ad→ad.block≠g)∧e tI=.v (.pointer (some ⟨g,0,none⟩))∧J pos e
theorem Zxy {s:ByteArray} {id1 id2 bid d1 tI d2 d3:Nat} {x:Operand} {ty1 ty2 ty3 ty4 tys:TypeId} {p1 p2 p3 p4:String} {f1 f2 f3 f4:Array Edge} {r2:Code} {Q:AE→St→Prop} {e:Nat→AV}
 (hx:St.ev ⟨e,Zae⟩ x=.v (.string s)) (hty:P.underlying tys=some .string) (h1:d1 < n) (hI:tI < n) (h2:d2 < n) (h3:d3 < n) (hne:tI≠d2) (hne3:tI≠d3) (hne1:d2≠d3) (hf:Zbs n r2=true)
 (J:Nat→(Nat→AV)→Prop) (h0:∀pv,J 0 (upd (upd e d1 (.v (.string s))) tI (.v pv)))
 (hstep:∀pos e pv,J pos e→e tI=.v pv→pos < s.size→Za9 P 0 n r2 (AE.then (λst'=>st'.mem=Zae∧J (pos+(Utf8.decode s pos).2) st'.env∧st'.env tI=.v pv) λae st'=>st'.mem=Zae∧AE.inBlock bid Q ae st')
  ⟨upd (upd e d2 (.tup [.v (.bool true),.v (.int .i64 pos),.v (.int .i32 (Utf8.decode s pos).1)])) d3 (.v (.bool true)),Zae⟩)
 (hw:∀pos,pos < s.size→0 < (Utf8.decode s pos).2)
 (hend:∀pos e pv,J pos e→e tI=.v pv→¬pos < s.size→Za9 P 0 n r2 (AE.then (λ_=>False) λae st'=>st'.mem=Zae∧AE.inBlock bid Q ae st')
  ⟨upd (upd e d2 (.tup [.v (.bool false)])) d3 (.v (.bool false)),Zae⟩) :
 AWP P n (.seq (.region id1 #[⟨some d1,.move x,ty1,p1,f1,none⟩,⟨some tI,.range tys (.tmp d1),ty2,p2,f2,none⟩] false)
  (.block bid (.loop (.seq (.region id2 #[⟨some d2,.next (.tmp tI) true,ty3,p3,f3,none⟩,⟨some d3,.extract (.tmp d2) 0,ty4,p4,f4,none⟩] false) r2)))) Q ⟨e,Zae⟩:=by
 intro c a w imm hr;refine wp_seq (wp_region_list ?_);have ex:=hr.ev x;rw [hx] at ex;have ex:=ex.v_inv;refine Zs1 rfl (y:=.string s) (w':=w) (by simp [execOp,ex]) ?_;have r1:=hr.step (dst:=some d1) (av:=.v (.string s)) (x:=.string s) (Keeps.refl w imm) hr.mem (λd hd=>by cases hd;exact h1) (.pure (.v _));have e1:=(r1.ev (.tmp d1))
 have e1:(a.put (some d1) (.string s)).eval (.tmp d1)=.string s:=by
  have h9:St.ev (St.put ⟨e,Zae⟩ (some d1) (.v (.string s))) (.tmp d1)=.v (.string s):=by simp [St.ev,St.put,Zau]
  rw [h9] at e1;exact e1.v_inv
 refine Zs1 rfl (y:=.pointer (some ⟨w.heap.size,0,none⟩)) (w':=w.iter s 0) (by
  simp only [execOp,e1];exact Zjl (run_range_string w tys s hty)) ?_
 have hcell:∀ad,imm ad→(w.iter s 0).cell? ad=w.cell? ad:=λad h9=>ZCi w _ ad (hr.mem.ok.lt ad h9);have hm2:Mx c Zae (w.iter s 0) imm:=⟨⟨λk e hk=>by simp [Zae] at hk,λk k' e e' b hk=>by simp [Zae] at hk,λad h9=>Zzz (hr.mem.ok.lt ad h9) (ZCb w (.stringIter s 0) none).size,hr.mem.ok.spot⟩,
  hr.mem.below.grown (ZCb w (.stringIter s 0) none) (Zx7 _) hr.mem.lt (λg hg=>by cases hg),Zye hr.mem.lt (ZCb w (.stringIter s 0) none).size,hr.mem.old,hr.mem.new,λad h9=>(hcell ad (hr.mem.old ad h9)).trans (hr.mem.cells ad h9)⟩
 have r2':=r1.step (dst:=some tI) (av:=.v (.pointer (some ⟨w.heap.size,0,none⟩))) (x:=.pointer (some ⟨w.heap.size,0,none⟩)) (w':=w.iter s 0) (imm':=imm) (λad h9=>⟨h9,hcell ad h9⟩) hm2 (λd hd=>by cases hd;exact hI) (.pure (.v _));show(Code.block bid _).wp P (post c n Q) _ _;refine wp_block ?_;have start:ItS c n s tI J 0 ((a.put (some d1) (.string s)).put (some tI) (.pointer (some ⟨w.heap.size,0,none⟩))) (w.iter s 0) :=
  ⟨_,imm,w.heap.size,r2',World.iter_heap w s 0,hr.mem.lt,λad h9=>Nat.ne_of_lt (hr.mem.ok.lt ad h9),by simp [St.put,Zau],h0 _⟩
 generalize (a.put (some d1) (.string s)).put (some tI) (.pointer (some ⟨w.heap.size,0,none⟩))=a1 at start;generalize w.iter s 0=w1 at start;clear r2' r1 hm2 hcell e1 ex hr
 let Qp:Exit→Act→World→Prop:=Exit.inBlock bid (post c n Q)
 have lift:∀(ae:AE) (st':St) (a':Act) (w w':World) (imm imm':Imm),Mx c Zae w imm→Rel ⟨w.heap.size,w,imm⟩ n st' a' w' imm'→st'.mem=Zae→AE.inBlock bid Q ae st'→ae≠.normal→Qp ae.to a' w':=by
  intro ae st' a' w w' imm imm' hm hr h9 hq hn;have hr':=unbase hm hr h9
  cases ae with
  | normal=>exact absurd rfl hn
  | exit i =>
    show Exit.inBlock bid (post c n Q) (.exit i) a' w';simp only [AE.inBlock] at hq;by_cases hi:i=bid
    ·subst hi;rw [Zx5 rfl] at hq;simp only [Exit.inBlock,Zy2];exact⟨.normal,st',imm',rfl,hq,hr'⟩
    ·rw [Zx4 hi] at hq;simp only [Exit.inBlock,Zx4 hi];exact⟨.exit i,st',imm',rfl,hq,hr'⟩
  | ret=>exact⟨.ret,st',imm',rfl,hq,hr'⟩
 have round:∀pos a w,ItS c n s tI J pos a w→(Code.seq (.region id2 #[⟨some d2,.next (.tmp tI) true,ty3,p3,f3,none⟩,⟨some d3,.extract (.tmp d2) 0,ty4,p4,f4,none⟩] false) r2).wp P
  (Exit.then (λa w=>∃pos',ItS c n s tI J pos' a w∧s.size - pos' < s.size - pos) Qp) a w:=by
  rintro pos a w ⟨e,imm,g,hr,hg,hB,hng,heI,hJ⟩
  have eI:=hr.ev (.tmp tI)
  have eI:a.eval (.tmp tI)=.pointer (some ⟨g,0,none⟩):=by
   rw [show St.ev ⟨e,Zae⟩ (.tmp tI)=_ from heI] at eI;exact eI.v_inv
  refine wp_seq (wp_region_list ?_);have glt:g < w.heap.size:=(Array.getElem?_eq_some_iff.1 hg).1;by_cases hp:pos < s.size
  ·refine Zs1 rfl (y:=.tuple #[.bool true,.int .i64 pos,.int .i32 (Utf8.decode s pos).1]) (w':=w.iterAt g s (pos+(Utf8.decode s pos).2)) (by
    simp only [execOp,eI];exact Zjl (run_next_any_at w g s pos _ hg hp)) ?_
   have hgrow:w.grownBy (w.iterAt g s (pos+(Utf8.decode s pos).2)) (some g):=by
    refine⟨rfl,rfl,rfl,?_,λk hk hne=>?_⟩
    ·simp [World.iterAt]
    ·simp only [World.iterAt];rw [ZC8 (λh9=>hne (by rw [h9]))]
   have hcell:∀ad,imm ad→(w.iterAt g s (pos+(Utf8.decode s pos).2)).cell? ad=w.cell? ad:=λad h9=>Ze1 hgrow (hr.mem.ok.lt ad h9) (λh8=>hng ad h9 (by cases h8;rfl));have hm2:Mx c Zae (w.iterAt g s (pos+(Utf8.decode s pos).2)) imm:=⟨⟨λk e hk=>by simp [Zae] at hk,λk k' e e' b hk=>by simp [Zae] at hk,λad h9=>Zzz (hr.mem.ok.lt ad h9) hgrow.size,hr.mem.ok.spot⟩,
    hr.mem.below.grown hgrow (Zx7 _) hr.mem.lt (λg' hg'=>by cases hg';exact hB),Zye hr.mem.lt hgrow.size,hr.mem.old,hr.mem.new,λad h9=>(hcell ad (hr.mem.old ad h9)).trans (hr.mem.cells ad h9)⟩
   have q1:=hr.step (dst:=some d2) (av:=.tup [.v (.bool true),.v (.int .i64 pos),.v (.int .i32 (Utf8.decode s pos).1)]) (x:=.tuple #[.bool true,.int .i64 pos,.int .i32 (Utf8.decode s pos).1]) (imm':=imm) (λad h9=>⟨h9,hcell ad h9⟩) hm2 (λd hd=>by cases hd;exact h2)
    (.pure (.tup _ _ rfl λj a x k1 k2=>by
     match j with
     | 0=>simp at k1 k2;subst k1;subst k2;exact .v _
     | 1=>simp at k1 k2;subst k1;subst k2;exact .v _
     | 2=>simp at k1 k2;subst k1;subst k2;exact .v _
     | j+3=>simp at k1))
   have v2:=q1.env d2
   have v2:(a.put (some d2) (.tuple #[.bool true,.int .i64 pos,.int .i32 (Utf8.decode s pos).1])).eval (.tmp d2)=.tuple #[.bool true,.int .i64 pos,.int .i32 (Utf8.decode s pos).1]:=by
    show(a.put (some d2) _).tmps.getD d2 undef=_;rw [Act.put_getD a d2 _ (by rw [hr.size];exact h2),Zx5 rfl]
   refine Zs1 rfl (y:=.bool true) (w':=w.iterAt g s (pos+(Utf8.decode s pos).2)) (by
    simp only [execOp,v2];simp [Instr.extract]) ?_
   have q2:=q1.step (dst:=some d3) (av:=.v (.bool true)) (x:=.bool true) (Keeps.refl _ imm) hm2 (λd hd=>by cases hd;exact h3) (.pure (.v _));have hst:=hstep pos e _ hJ heI hp;have q3:=rebase q2;refine ZBp (λee a' w' hpost=>?_) (Za7 r2 _ _ hf hst _ _ _ _ q3);obtain⟨ae,st',imm',rfl,hq,hrel⟩:=hpost
   cases ae with
   | normal =>
     obtain⟨hm,hJ',hpv⟩:=hq;have hr':=unbase hm2 hrel hm;refine⟨pos+(Utf8.decode s pos).2,⟨st'.env,imm',g,?_,?_,hB,λad h9=>?_,hpv,hJ'⟩,by have:=hw pos hp;omega⟩
     ·obtain⟨en,me⟩:=st';simp only at hm;subst hm;exact hr'
     ·rw [hrel.mem.below.block g (Zzz glt hgrow.size)];exact iterAt_heap w g s pos _ hg
     ·rcases hrel.mem.new ad h9 with h8 | h8
      ·exact hng ad h8
      ·have:(w.iterAt g s (pos+(Utf8.decode s pos).2)).heap.size≤ad.block:=h8;have:=hgrow.size;omega
   | exit i=>exact lift (.exit i) st' a' _ w' imm imm' hm2 hrel hq.1 hq.2 zs
   | ret=>exact lift .ret st' a' _ w' imm imm' hm2 hrel hq.1 hq.2 zs
  ·refine Zs1 rfl (y:=.tuple #[.bool false]) (w':=w) (by
    simp only [execOp,eI];exact Zjl (run_next_end_at w g s pos _ hg hp)) ?_
   have q1:=hr.step (dst:=some d2) (av:=.tup [.v (.bool false)]) (x:=.tuple #[.bool false]) (Keeps.refl w imm) hr.mem (λd hd=>by cases hd;exact h2)
    (.pure (.tup _ _ rfl λj a x k1 k2=>by
     match j with
     | 0=>simp at k1 k2;subst k1;subst k2;exact .v _
     | j+1=>simp at k1))
   have v2:(a.put (some d2) (.tuple #[.bool false])).eval (.tmp d2)=.tuple #[.bool false]:=by
    show(a.put (some d2) _).tmps.getD d2 undef=_;rw [Act.put_getD a d2 _ (by rw [hr.size];exact h2),Zx5 rfl]
   refine Zs1 rfl (y:=.bool false) (w':=w) (by
    simp only [execOp,v2];simp [Instr.extract]) ?_
   have q2:=q1.step (dst:=some d3) (av:=.v (.bool false)) (x:=.bool false) (Keeps.refl _ imm) hr.mem (λd hd=>by cases hd;exact h3) (.pure (.v _));have hst:=hend pos e _ hJ heI hp;have q3:=rebase q2;refine ZBp (λee a' w' hpost=>?_) (Za7 r2 _ _ hf hst _ _ _ _ q3);obtain⟨ae,st',imm',rfl,hq,hrel⟩:=hpost
   cases ae with
   | normal=>exact hq.elim
   | exit i=>exact lift (.exit i) st' a' _ w' imm imm' hr.mem hrel hq.1 hq.2 zs
   | ret=>exact lift .ret st' a' _ w' imm imm' hr.mem hrel hq.1 hq.2 zs
 intro b k cs;have key:∀m pos a w,s.size - pos=m→ItS c n s tI J pos a w →
  ∃ee a' w',Qp ee a' w'∧Arrives P (lone (b.at a (.code (Code.seq (.region id2 #[⟨some d2,.next (.tmp tI) true,ty3,p3,f3,none⟩,⟨some d3,.extract (.tmp d2) 0,ty4,p4,f4,none⟩] false) r2) :: .inLoop (Code.seq (.region id2 #[⟨some d2,.next (.tmp tI) true,ty3,p3,f3,none⟩,⟨some d3,.extract (.tmp d2) 0,ty4,p4,f4,none⟩] false) r2) :: k)) cs w) b k cs ee a' w':=by
  intro m
  induction m using Nat.strongRecOn with
  | _ m ih =>
    intro pos a w hm hI';obtain⟨ee,a₁,w₁,hq,harr⟩:=round pos a w hI' b (.inLoop _ :: k) cs
    cases ee with
    | normal =>
      obtain⟨pos',h8,h9⟩:=hq;obtain⟨e₂,a₂,w₂,hq₂,harr₂⟩:=ih (s.size - pos') (hm ▸ h9) pos' a₁ w₁ rfl h8;exact⟨e₂,a₂,w₂,hq₂,.of_steps (Steps.trans harr (.one step_inLoop)) harr₂⟩
    | exit id=>exact⟨.exit id,a₁,w₁,hq,.pass (x:=.inLoop _) rfl (λ_ _=>.inl zs) harr⟩
    | goto l=>exact⟨.goto l,a₁,w₁,hq,.pass (x:=.inLoop _) rfl (λ_ _=>.inl zs) harr⟩
    | ret=>exact⟨.ret,a₁,w₁,hq,.pass (x:=.inLoop _) rfl (λ_ _=>.inl zs) harr⟩
    | panic ch=>exact⟨.panic ch,a₁,w₁,hq,.pass (x:=.inLoop _) rfl (λ_ _=>.inl zs) harr⟩
    | outgrown=>exact⟨.outgrown,a₁,w₁,hq,.pass (x:=.inLoop _) rfl (λ_ _=>.inl zs) harr⟩
 obtain⟨ee,a',w',hq,harr⟩:=key _ 0 a1 w1 rfl start;exact⟨ee,a',w',hq,.of_steps (.one step_loop) harr⟩
theorem Zqd {f:FuncId} {fn:Func} {code:Code} {rs:List ResultVar} {args:List AV} {r:AV} (hf:P.funcs[f]?=some fn) (hb:fn.body=some code) (hn:fn.ntmps=n) (hrs:fn.results=rs.toArray)
 (hc:∀(vs:Array Value) (w:World),(callFunc f vs).run P w=.ok (.enter f vs) w) (hal:args.length≤n)
 (h:AWP P n code (Done P rs λst=>Zry st r) ⟨λt=>args.getD t .u,Zae⟩):Pure P f args r:=by
 refine⟨hc,λw imm vs himm hl hr=>?_⟩;refine calls_of_wp hf hb ?_
 let c:Cx:=⟨w.heap.size,w,imm⟩
 have hrel:Rel c n ⟨λt=>args.getD t .u,Zae⟩ { tmps:=vs++Array.replicate (fn.ntmps - vs.size) undef,defers:=[] } w imm:=by
  refine⟨λt=>?_,by simp [hn];omega,rfl,⟨⟨λk e hk=>by simp [Zae] at hk,λk k' e e' b hk=>by simp [Zae] at hk,λad h1=>(himm ad h1).1,λad h1=>(himm ad h1).2⟩,Blw.refl _ _,Zx7 _,λ_ h1=>h1,λ_ h1=>.inl h1,λ_ _=>rfl⟩⟩;simp only [Zyg];rcases Zyr t args.length with ht | ht
  ·have ht2:t < vs.size:=zo;rw [Zyf ht,ZAw,ZCf ht2,Zzn ht2];exact .pure (hr t _ _ (Zyf ht) (Zzn ht2))
  ·rw [Zzl ht];exact .pure (.u _)
 refine ZBp (λe a' w' hp=>?_) (h c _ w imm hrel);obtain⟨ae,st',imm',rfl,hdone,hrel'⟩:=hp;have hret:=Zm1 hdone;have hae:∀id,ae≠.exit id:=by rintro id rfl;exact hdone
 obtain⟨y,b,hrun,⟨hpo,hpv⟩,hrs'⟩:=Zp6 hrs hrel' hret;obtain⟨i2,hm2,hk2⟩:=Zd2 b.toks hrel'.mem;have hrd:=Zht hm2 (hk2.rs hrs') hpo;rw [hpv] at hrd;have fin:a'.defers=[]∧∃v,(results fn a'.tmps).run P w'=.ok v w'∧(λe w'=>∃x imm',e=Ending.returned x∧Rd w' imm' r x∧(∀ad,imm ad→imm' ad)∧(∀ad,imm' ad→(imm ad∨w.heap.size≤ad.block)∧ad.block < w'.heap.size∧ad.spot=none)∧Blw w.heap.size w w') (Ending.returned v) w' :=
  ⟨hrel'.defers,y,hrun,y,i2,rfl,hrd,hm2.old,λad h1=>⟨hm2.new ad h1,hm2.ok.lt ad h1,hm2.ok.spot ad h1⟩,hm2.below⟩
 cases ae with
 | normal=>exact fin
 | ret=>exact fin
 | exit id=>exact absurd rfl (hae id)
theorem Zt0 (s:ByteArray) (i:Nat):0 < (Utf8.decode s i).2:=by
 unfold Utf8.decode;simp only
 repeat' split
 all_goals simp
end
end Go.Pg
namespace Go.Proofs.YtenfejhaohihoaaGreat
open Go Go.RowKit Go.Pg Go.Proofs.Tryz
attribute [-bool_to_prop] Bool.and_eq_decide Bool.or_eq_decide Bool.decide_beq_decide decide_eq_decide
attribute [go_sem] underlying118 zStr
attribute [local go_sem] Zcd Zcz
def kwL:List ByteArray:=[
 ⟨#[97,110,103,108,101]⟩,
 ⟨#[97,112,101,120]⟩,
 ⟨#[98,105,115,101,99,116,111,114]⟩,
 ⟨#[99,101,110,116,101,114]⟩,
 ⟨#[99,105,114,99,108,101]⟩,
 ⟨#[99,105,114,99,117,109]⟩,
 ⟨#[99,111,108,108,105,110,101,97,114]⟩,
 ⟨#[99,111,109,109,111,110]⟩,
 ⟨#[99,111,110,99,121,99,108,105,99]⟩,
 ⟨#[99,111,110,103,114,117,101,110,116]⟩,
 ⟨#[99,114,111,115,115]⟩,
 ⟨#[99,117,116]⟩,
 ⟨#[100,105,118,105,100,101]⟩,
 ⟨#[102,111,111,116]⟩,
 ⟨#[108,105,110,101]⟩,
 ⟨#[109,101,101,116]⟩,
 ⟨#[109,105,100,112,111,105,110,116]⟩,
 ⟨#[109,105,114,114,111,114]⟩,
 ⟨#[111,110]⟩,
 ⟨#[111,116,104,101,114]⟩,
 ⟨#[112,97,114,97,108,108,101,108]⟩,
 ⟨#[112,101,114,112,101,110,100,105,99,117,108,97,114]⟩,
 ⟨#[112,111,105,110,116,115]⟩,
 ⟨#[112,114,111,118,101]⟩,
 ⟨#[114,97,116,105,111]⟩,
 ⟨#[114,101,102,108,101,99,116]⟩,
 ⟨#[115,97,109,101]⟩,
 ⟨#[115,104,105,102,116]⟩,
 ⟨#[116,117,114,110]⟩]
def letB (c:Nat):Bool:=decide (97≤c∧c≤122) || decide (65≤c∧c≤90)
def digB (c:Nat):Bool:=decide (48≤c∧c≤57)
def gB (s:ByteArray) (k:Nat):Nat:=(s.data.toList.getD k 0).toNat
theorem Zxb (s:ByteArray) (k:Nat):gB s k < 256:=UInt8.toNat_lt _
def namB (s:ByteArray):Bool:=decide (0 < s.size∧s.size≤20) && (letB (gB s 0) && ((List.range s.size).all (λk=>letB (gB s k) || digB (gB s k)) && !(kwL.any λw=>w.toList == s.toList)))
theorem Zl6 (s:ByteArray):(s.toList == (⟨#[]⟩:ByteArray).toList)=decide (s.size=0):=by
 rw [ByteArray.toList_eq,ByteArray.toList_eq,Zyn,Zz3,Zy1];constructor
 ·intro h;have:=ZBn List.length h;exact this
 ·intro h;exact List.length_eq_zero_iff.1 h
theorem Zxc (s:ByteArray) (k:Nat):((s.data.toList.getD k 0).toNat:Int)=(gB s k:Int):=rfl
theorem Zi6 (s:ByteArray):∀n,n≤s.size→∃k,k≤n∧(∀j,j < k→(letB (gB s j) || digB (gB s j))=true)∧(k < n→(letB (gB s k) || digB (gB s k))=false)
 | 0,_=>⟨0,zo,λj h=>zo,λh=>zo⟩
 | n+1,h=>by
   obtain⟨k,h1,h2,h3⟩:=Zi6 s n zo;by_cases hk:k < n
   ·exact⟨k,zo,h2,λ_=>h3 hk⟩
   ·have:k=n:=zo;subst this
    cases hb:(letB (gB s k) || digB (gB s k)) with
    | true=>exact⟨k+1,zo,λj hj=>by by_cases e:j=k;rw [e];exact hb;exact h2 j zo,λh=>zo⟩
    | false=>exact⟨k,zo,h2,λ_=>hb⟩
def kinB (c:Nat):Int:=if c=32∨c=9∨c=13∨c=10 then 1 else if letB c=true then 2 else if digB c=true then 3 else if c=40∨c=41∨c=44∨c=59∨c=47∨c=45 then 4 else if c=58 then 5 else if c=35 then 6 else 0
theorem Zsl (c:Nat):kinB c=2↔letB c=true:=by
 unfold kinB letB;simp only [Zz2,Zy1]
 repeat' split
 all_goals omega
theorem kinB_dig (c:Nat):kinB c=3↔digB c=true:=by
 unfold kinB letB digB;simp only [Zz2,Zy1]
 repeat' split
 all_goals omega
theorem nmKind (c:Nat) (hc:c < 256):Pure prog 239 [.v (.int .u8 (c:Int))] (iv (kinB c)):=by
 unfold kinB letB digB;simp only [Zz2,Zy1];refine pI func239 rfl ntmps239 results239 call239 ?_;(focus (refine wklp w_t w_t w_t (w_r 0) ?_;(repeat' first|exact w_t|apply w_l);all_goals intros));all_goals (congr 2;repeat' split)
 all_goals (first|rfl|omega)
theorem nmEnd (s:ByteArray) (hs:s.size≤1000000000):∃n:Nat,Pure prog 240 [strA s,iv 0,.v (.bool true)] (iv n)∧n≤s.size∧(n=s.size↔(List.range s.size).all (λk=>letB (gB s k) || digB (gB s k))=true):=by
 obtain⟨n,h1,h2,h3⟩:=Zi6 s s.size (Zx7 _);refine⟨n,?_,h1,?_⟩
 ·refine pI func240 rfl ntmps240 results240 call240 ?_;(focus (refine wkap w_t w_t (w_r 0) ?_;(repeat' first|exact w_t|apply w_l);all_goals intros));refine Zad (ι:=Nat) (λi e m=>i≤n∧e 0=strA s∧e 1=iv i∧e 2=.v (.bool true)) (λi=>n - i) 0 zr ?_ ?_
  ·rintro i e m ⟨hi,e0,e1,e2⟩
   have hk:=nmKind (gB s i) (Zxb s i);have kl:=Zsl (gB s i);have kd:=kinB_dig (gB s i);by_cases hlt:i < n
   ·have hb:=h2 i hlt;rw [Zz2,←kl,←kd] at hb;clear kl kd;have hg:=Zxc s i;generalize kinB (gB s i)=x at *;rcases hb with hb | hb
    ·subst hb;(focus (refine wkap (w_4 e0 e1 e2 hg) (w_1 hk) (w_r 0) ?_;(repeat' first|exact w_t|apply w_l);all_goals intros));exact⟨i+1,⟨zo,gW e0,gS,gW e2⟩,zo⟩
    ·subst hb;(focus (refine wkap (w_4 e0 e1 e2 hg) (w_1 hk) (w_r 0) ?_;(repeat' first|exact w_t|apply w_l);all_goals intros));exact⟨i+1,⟨zo,gW e0,gS,gW e2⟩,zo⟩
   ·have hin:i=n:=zo;subst hin;by_cases hsz:i < s.size
    ·have hb:=h3 hsz;rw [ZAn] at hb;have b1:kinB (gB s i)≠2:=λh=>by rw [kl.1 h] at hb;exact absurd hb.1 zd
     have b2:kinB (gB s i)≠3:=λh=>by rw [kd.1 h] at hb;exact absurd hb.2 zd
     clear kl kd;have hg:=Zxc s i;generalize kinB (gB s i)=x at *;(focus (refine wklp (w_4 e0 e1 e2 hg) (w_1 hk) w_t (w_r 0) ?_;(repeat' first|exact w_t|apply w_l);all_goals intros))
    ·(focus (refine wklp (w_3 e0 e1 e2) w_t w_t (w_r 0) ?_;(repeat' first|exact w_t|apply w_l);all_goals intros))
  ·exact⟨Zyi _,gC,gC,gC⟩
 ·rw [ZAr];constructor
  ·intro h x hx;exact h2 x (by rw [h];exact List.mem_range.1 hx)
  ·intro h;rcases Zyr n s.size with h4 | h4
   ·have:=h n (List.mem_range.2 h4);rw [h3 h4] at this;cases this
   ·omega
theorem nmKeys:Pure prog 241 [] (.sl 1 (kwL.map strA)):=by
 unfold kwL;refine pI func241 rfl ntmps241 results241 call241 ?_;(focus (refine wklp w_t w_t w_t (w_r 0) ?_;(repeat' first|exact w_t|apply w_l);all_goals intros))
theorem rnKeys:Pure prog 191 [] (.sl 1 (kwL.map strA)):=by
 unfold kwL;refine pI func191 rfl ntmps191 results191 call191 ?_;exact wklp w_t w_t w_t (w_r 0) w_z
theorem Zrp (c:Nat) (hc:c < 256):Pure prog 189 [.v (.int .u8 (c:Int))] (.v (.bool (letB c))):=by
 unfold letB;refine pI func189 rfl ntmps189 results189 call189 ?_;exact wklp w_t w_t w_t (w_r 0) w_z
theorem rnDigit (c:Nat) (hc:c < 256):Pure prog 190 [.v (.int .u8 (c:Int))] (.v (.bool (digB c))):=by
 unfold digB;refine pI func190 rfl ntmps190 results190 call190 ?_;exact wklp w_t w_t w_t (w_r 0) w_z
theorem Zet:kwL.length=29:=rfl
theorem nmName (s:ByteArray) (hs:s.size≤1000000000):Pure prog 217 [strA s] (.v (.bool (namB s))):=by
 have he:=Zl6 s;unfold namB;by_cases h0:0 < s.size∧s.size≤20
 ·rw [Zx8 h0,Zzv];have h00:(decide (s.size=0))=false:=Zx6 zo;rw [h00] at he;have hk:=nmKind (gB s 0) (Zxb s 0);have hg:=Zxc s 0;have kl:=Zsl (gB s 0)
  cases hl:letB (gB s 0) with
  | false =>
    have hx:kinB (gB s 0)≠2:=λh=>by rw [kl.1 h] at hl;cases hl
    clear kl;rw [Zzb];generalize kinB (gB s 0)=x at *;refine pI func217 rfl ntmps217 results217 call217 ?_;(focus (refine wklp (w_2 he hg) (w_1 hk) w_t (w_r 0) ?_;(repeat' first|exact w_t|apply w_l);all_goals intros))
  | true =>
    have hx:kinB (gB s 0)=2:=kl.2 hl;rw [hx] at hk;rw [Zzv];obtain⟨n,ce,hn,hall⟩:=nmEnd s hs
    cases ha:(List.range s.size).all (λk=>letB (gB s k) || digB (gB s k)) with
    | false =>
      have hlt:n < s.size:=by
       rcases Zyr n s.size with h | h
       ·exact h
       ·rw [hall.1 zo] at ha;cases ha
      rw [Zzb];clear hall ha;refine pI func217 rfl ntmps217 results217 call217 ?_;(focus (refine wklp (w_2 he hg) (w_2 hk ce) w_t (w_r 0) ?_;(repeat' first|exact w_t|apply w_l);all_goals intros))
    | true =>
      have hnn:n=s.size:=hall.2 ha;subst hnn;rw [Zzv];clear hall ha hl hx kl;have ck:=nmKeys;refine pI func217 rfl ntmps217 results217 call217 ?_;(focus (refine wkap (w_4 he hg @Zbv @Zet) (w_3 hk ce ck) (w_r 0) ?_;(repeat' first|exact w_t|apply w_l);all_goals intros));refine Zad (ι:=Nat) (λi e m=>i≤29∧e 0=strA s∧e 25=.sl 1 (kwL.map strA)∧e 26=iv 29∧e 27=iv i∧(kwL.take i).any (λw=>w.toList == s.toList)=false) (λi=>29 - i) 0 zr ?_ ?_
      ·rintro i e m ⟨hi,e0,e25,e26,e27,hno⟩
       by_cases hlt:i < 29
       ·have hlt':i < kwL.length:=by rw [Zet];exact hlt
        have hgk:=Zaj strA hlt';have hsn:kwL.take (i+1)=kwL.take i++[kwL[i]]:=ZAy hlt';have hmem:kwL[i]∈kwL:=Zyl hlt';generalize kwL[i]=w at *
        cases hw:(w.toList == s.toList) with
        | true =>
          have:kwL.any (λw=>w.toList == s.toList)=true:=List.any_eq_true.2 ⟨w,hmem,hw⟩;rw [this];(focus (refine wklp (w_8 e0 e25 e26 e27 hgk hw @Zbv @Zet) w_t (w_1 @ZBo) (w_r 0) ?_;(repeat' first|exact w_t|apply w_l);all_goals intros))
        | false =>
          (focus (refine wkap (w_8 e0 e25 e26 e27 hgk hw @Zbv @Zet) w_t (w_r 0) ?_;(repeat' first|exact w_t|apply w_l);all_goals intros));exact⟨i+1,⟨zo,gW e0,gW e25,gW e26,gS,by rw [hsn,List.any_append,hno];simp [hw]⟩,zo⟩
       ·have hi2:i=29:=zo;subst hi2;rw [show kwL.take 29=kwL from by rw [←Zet,Zy7]] at hno;rw [hno];(focus (refine wklp (w_4 e0 e25 e26 e27) w_t (w_1 @ZBq) (w_r 0) ?_;(repeat' first|exact w_t|apply w_l);all_goals intros))
      ·exact⟨Zyi _,gC,gC,by(simp (disch:=omega) only [go_sem,Zx9,Zet]<;>repeat' first|rfl|refine⟨?_,?_⟩),gC,by simp⟩
 ·rw [Zx6 h0,Zzb];by_cases h1:s.size=0
  ·rw [Zx8 h1] at he;refine pI func217 rfl ntmps217 results217 call217 ?_;(focus (refine wklp (w_1 he) w_t w_t (w_r 0) ?_;(repeat' first|exact w_t|apply w_l);all_goals intros))
  ·rw [Zx6 h1] at he;refine pI func217 rfl ntmps217 results217 call217 ?_;(focus (refine wklp (w_1 he) w_t w_t (w_r 0) ?_;(repeat' first|exact w_t|apply w_l);all_goals intros))
theorem decode_1 (s:ByteArray) (k:Nat) (hk:k < s.size) (h:gB s k < 128):(Utf8.decode s k).2=1:=by
 have e:(s[k]'hk).toNat=gB s k:=by
  unfold gB;rw [Zyg,Zyf (by simpa using hk)];rfl
 rw [decode_ascii s k hk zo]
theorem ld_ascii {c:Nat} (h:(letB c || digB c)=true):c < 128:=by
 unfold letB digB at h;simp only [Zz2,Zy1] at h;omega
theorem rnName (s:ByteArray) (hs:s.size≤1000000000):Pure prog 130 [strA s] (.v (.bool (namB s))):=by
 have he:=Zl6 s;unfold namB;by_cases h0:0 < s.size∧s.size≤20
 ·rw [Zx8 h0,Zzv];have h00:(decide (s.size=0))=false:=Zx6 zo;rw [h00] at he;have hk:=Zrp (gB s 0) (Zxb s 0);have hg:=Zxc s 0
  cases hl:letB (gB s 0) with
  | false =>
    rw [hl] at hk;rw [Zzb];refine pI func130 rfl ntmps130 results130 call130 ?_;exact wklp (w_2 he hg) (w_1 hk) w_t (w_r 0) w_z
  | true =>
    rw [hl] at hk;rw [Zzv];obtain⟨n,h1,h2,h3⟩:=Zi6 s s.size (Zx7 _)
    have hall:(List.range s.size).all (λk=>letB (gB s k) || digB (gB s k))=decide (n=s.size):=by
     rw [Zyn,ZAr,Zy1];constructor
     ·intro h;rcases Zyr n s.size with h4 | h4
      ·have:=h n (List.mem_range.2 h4);rw [h3 h4] at this;cases this
      ·omega
     ·intro h x hx;exact h2 x (by rw [h];exact List.mem_range.1 hx)
    rw [hall];have ck:=rnKeys;refine Zqd (rs:=[.tmp 2]) func130 rfl ntmps130 results130 call130 zs ?_;refine Zra (Za7 (tok:=0) _ _ _ zr ?_)
    (refine wkap w_t w_t (w_r 0) (w_s ?_);intros)
    refine Zra (Za7 (tok:=0) _ _ _ zr ?_)
    (refine wkap (w_2 he hg) (w_1 hk) (w_r 0) (w_s ?_);intros)
    refine Zra ?_;clear hk hg he hall;refine Zxy (s:=s) (gC) underlying9 zo zo zo zo zo zo zo zr (λpos e=>pos≤n∧e 0=strA s) ?_ ?_ (λpos _=>Zt0 s pos) ?_
    ·intro pv;exact⟨Zyi _,gC⟩
    ·rintro pos e pv ⟨hp,e0⟩ epv hlt
     have hkl:=Zrp (gB s pos) (Zxb s pos);have hkd:=rnDigit (gB s pos) (Zxb s pos);have hg:=Zxc s pos;by_cases hpn:pos < n
     ·have hb:=h2 pos hpn;have hd:=decode_1 s pos hlt (ld_ascii hb);rw [hd];generalize (Utf8.decode s pos).1=cc
      cases hl2:letB (gB s pos) with
      | true =>
        rw [hl2] at hkl
        (refine wkap (w_2 e0 hg) (w_2 hkl hkd) (w_r 0) (w_s ?_);intros)
        exact⟨rfl,⟨zo,gW e0⟩,gW epv⟩
      | false =>
        rw [hl2,Bool.false_or] at hb;rw [hl2] at hkl;rw [hb] at hkd
        (refine wkap (w_2 e0 hg) (w_2 hkl hkd) (w_r 0) (w_s ?_);intros)
        exact⟨rfl,⟨zo,gW e0⟩,gW epv⟩
     ·have hpe:pos=n:=zo;subst hpe;have hb:=h3 hlt;rw [ZAn] at hb;rw [hb.1] at hkl;rw [hb.2] at hkd;have hne:decide (pos=s.size)=false:=Zx6 zo;rw [hne];generalize (Utf8.decode s pos).1=cc;generalize (Utf8.decode s pos).2=cw
      (refine wkap (w_2 e0 hg) (w_2 hkl hkd) (w_r 0) (w_s ?_);intros)
      refine⟨rfl,?_⟩;exact wklp w_t w_t w_t (w_r 0) w_z
    ·rintro pos e pv ⟨hp,e0⟩ epv hlt
     have hpe:n=s.size:=zo;rw [Zx8 hpe,Zzv]
     (refine wkap (w_1 e0) w_t (w_r 0) (w_s ?_);intros)
     refine⟨rfl,?_⟩;refine Znn (t_then ?_);refine Za7 (tok:=0) _ _ _ zr ?_
     (refine wkap (w_3 e0 @Zbv @Zet) (w_1 ck) (w_r 0) (w_s ?_);intros)
     refine Zad (ι:=Nat) (λi e m=>i≤29∧e 0=strA s∧e 36=.sl 1 (kwL.map strA)∧e 37=iv 29∧e 38=iv i∧(kwL.take i).any (λw=>w.toList == s.toList)=false) (λi=>29 - i) 0 zr ?_ ?_
     ·rintro i e m ⟨hi,e0,e25,e26,e27,hno⟩
      by_cases hlt:i < 29
      ·have hlt':i < kwL.length:=by rw [Zet];exact hlt
       have hgk:=Zaj strA hlt';have hsn:kwL.take (i+1)=kwL.take i++[kwL[i]]:=ZAy hlt';have hmem:kwL[i]∈kwL:=Zyl hlt';generalize kwL[i]=w at *;have hsy:(s.toList == w.toList)=(w.toList == s.toList):=by rw [Zyn,Zz3,Zz3];exact eq_comm
       cases hw:(w.toList == s.toList) with
       | true =>
         have:kwL.any (λw=>w.toList == s.toList)=true:=List.any_eq_true.2 ⟨w,hmem,hw⟩;rw [this];rw [hw] at hsy;exact wklp (w_8 e0 e25 e26 e27 hgk hsy @Zbv @Zet) w_t (w_1 @ZBo) (w_r 0) w_z
       | false =>
         rw [hw] at hsy
         (refine wkap (w_8 e0 e25 e26 e27 hgk hsy @Zbv @Zet) w_t (w_r 0) (w_s ?_);intros)
         exact⟨i+1,⟨zo,gW e0,gW e25,gW e26,gS,by rw [hsn,List.any_append,hno];simp [hw]⟩,zo⟩
      ·have hi2:i=29:=zo;subst hi2;rw [show kwL.take 29=kwL from by rw [←Zet,Zy7]] at hno;rw [hno];exact wklp (w_4 e0 e25 e26 e27) w_t (w_1 @ZBq) (w_r 0) w_z
     ·exact⟨Zyi _,gW e0,gC,by(simp (disch:=omega) only [go_sem,Zx9,Zet]<;>repeat' first|rfl|refine⟨?_,?_⟩),gC,by simp⟩
 ·rw [Zx6 h0,Zzb];by_cases h1:s.size=0
  ·rw [Zx8 h1] at he;refine pI func130 rfl ntmps130 results130 call130 ?_;exact wklp (w_1 he) w_t w_t (w_r 0) w_z
  ·rw [Zx6 h1] at he;refine pI func130 rfl ntmps130 results130 call130 ?_;exact wklp (w_1 he) w_t w_t (w_r 0) w_z
end Go.Proofs.YtenfejhaohihoaaGreat
namespace Go.Proofs.YtenfejhaohihoaaGreat
open Go Go.RowKit Go.Pg Go.Pol Go.Proofs.Tryz
attribute [-bool_to_prop] Bool.and_eq_decide Bool.or_eq_decide Bool.decide_beq_decide decide_eq_decide
def arS (k:Int):Int :=
 if k=1 then 0 else if k=2∨k=5∨k=6∨k=14 then 2 else if k=3∨k=4∨k=7∨k=8∨k=10∨k=11 then 3 else if k=9∨k=12∨k=13 then 4 else -1
def arG (k:Int):Int :=
 if k=8 then 2 else if k=1∨k=5 then 3 else if k=2∨k=3∨k=4∨k=6∨k=9 then 4 else if k=7 then 8 else 0
def outB (n:Int) (l:List Int):Bool:=l.any λa=>decide (a < 0) || decide (n≤a)
abbrev RS.zero:RS:=⟨0,.empty,[],⟨false,[],[]⟩⟩
def errS (ss:List RS) (i:Nat):Int :=
 let s:=ss.getD i RS.zero
 if arS s.k < 0 then 8
 else if (s.ar.length:Int)≠arS s.k then 1
 else if outB (i:Int) s.ar=true then 2
 else if (s.k=2∧s.r.ok=false)∨(s.k≠2∧s.r.none=false) then 1
 else if s.nm.size=0 then 0
 else if namB s.nm=false then 6
 else if (ss.take i).any (λt=>t.nm.toList == s.nm.toList)=true then 7
 else 0
def errG (g:RG) (n:Nat):Int :=
 if arG g.k=0 then 8
 else if (g.ar.length:Int)≠arG g.k then 1
 else if outB (n:Int) g.ar=true then 2
 else if (g.k=9∧g.r.ok=false)∨(g.k≠9∧g.r.none=false) then 1
 else 0
def fstE (f:Nat→Int):Nat→Int
 | 0=>0
 | n+1=>if fstE f n≠0 then fstE f n else f n
theorem Zf0 {f:Nat→Int}:∀{n:Nat},(∀j,j < n→f j=0)→fstE f n=0
 | 0,_=>rfl
 | n+1,h=>by
   unfold fstE;rw [Zx4 (by rw [Zf0 λj hj=>h j zo];simp)];exact h n zo
theorem Zks {f:Nat→Int} {i:Nat} (h:∀j,j < i→f j=0) (hi:f i≠0):∀{n:Nat},i < n→fstE f n=f i
 | 0,hn=>zo
 | n+1,hn=>by
   unfold fstE;by_cases e:i=n
   ·subst e;rw [Zx4 (by rw [Zf0 h];simp)]
   ·have:=Zks h hi (n:=n) zo;rw [this,Zx5 hi]
theorem Zju {f:Nat→Int}:∀{n:Nat},fstE f n=0→∀j,j < n→f j=0
 | 0,_,j,hj=>zo
 | n+1,h,j,hj=>by
   unfold fstE at h;split at h
   ·rename_i h1;exact absurd h h1
   ·rename_i h1;by_cases e:j=n
    ·subst e;exact h
    ·exact Zju (n:=n) (by rcases Decidable.em (fstE f n=0) with h2 | h2;exact h2;exact absurd h2 h1) j zo
def figE (ss:List RS) (gs:List RG):Int :=
 if 40 < ss.length∨8 < gs.length then 4
 else if fstE (errS ss) ss.length≠0 then fstE (errS ss) ss.length
 else fstE (λi=>errG (gs.getD i ⟨0,[],⟨false,[],[]⟩⟩) ss.length) gs.length
def frame (ss:List RS) (gs:List RG):List (Po × Po) × List Vt × Int :=
 if figE ss gs≠0 then ([],[],figE ss gs)
 else if (List.range ss.length).any (bigN ss)=true then ([],[],4)
 else ((frN ss ss.length).cs,(frN ss ss.length).vs,0)
theorem Zqi {n:Int} {l:List Int} (h:outB n l=false) {k:Nat} (hk:k < l.length):0≤gI l k∧gI l k < n:=by
 unfold outB at h;rw [List.any_eq_false] at h;have:=h (gI l k) (by rw [Zdr hk];exact Zyl hk);simp only [Zz2,Zy1] at this;omega
theorem Zge {ss:List RS} {i:Nat} (hi:i < ss.length) (h:errS ss i=0):0≤arS ss[i].k∧(ss[i].ar.length:Int)=arS ss[i].k∧(∀k,k < ss[i].ar.length→0≤gI ss[i].ar k∧gI ss[i].ar k < (i:Int))∧(ss[i].k=2→ss[i].r.ok=true):=by
 unfold errS at h;rw [show ss.getD i RS.zero=ss[i] from by rw [Zyg,Zyf hi];rfl] at h;generalize ss[i]=s at *;simp only at h;split at h
 ·omega
 ·split at h
  ·omega
  ·split at h
   ·omega
   ·split at h
    ·omega
    ·rename_i h1 h2 h3 h4;refine⟨zo,zo,λk hk=>Zqi (by simpa using h3) hk,λh5=>?_⟩
     cases h6:s.r.ok with
     | true=>rfl
     | false=>exact absurd (.inl ⟨h5,h6⟩) h4
attribute [go_sem] underlying111 underlying52 underlying53 underlying46
attribute [local go_sem] Zba Zbc Zbb Zbl Zfq Zcn Ze6 Zpg Zs0 Zbf Zbi Zck
theorem Zgf {q:Rat}:(q.num.sign=0)=(q=0):=by rw [Int.sign_eq_zero_iff_zero,Rat.num_eq_zero]
theorem poLex (s t:Tm) (hs:Sm s.2) (ht:Sm t.2):Pure prog 185 [tmA s,tmA t] (iv (lexC s.2 t.2 (max s.2.length t.2.length))):=by
 have c:Pure prog 223 [ivs s.2,ivs t.2,iv 0] (iv (cmpI s.2 t.2 0)):=monCmp s.2 t.2 0 hs ht;have e:cmpI s.2 t.2 0=lexC s.2 t.2 (max s.2.length t.2.length):=by unfold cmpI;rw [Zx4 zo]
 rw [e] at c;obtain⟨q,a⟩:=s;obtain⟨r,b⟩:=t;simp only at *;generalize lexC a b (max a.length b.length)=x at *;refine pI func185 rfl ntmps185 results185 call185 ?_;(focus (refine wklp w_t (w_1 c) w_t (w_r 0) ?_;(repeat' first|exact w_t|apply w_l);all_goals intros))
theorem poAdded (s t:Tm) {j k:Nat} (hs:Sz s.1 j) (ht:Sz t.1 k) (hj:j≤1000000) (hk:k≤1000000):Pure prog 186 [tmA s,tmA t] (.tup [tmA (s.1+t.1,s.2),.v (.bool (!decide ((s.1+t.1).num.sign=0)))]):=by
 have c:=ratAdd s.1 t.1 hs ht zo zo;have cs:=Zf4 (s.1+t.1) (hs.add ht) zo;obtain⟨q,a⟩:=s;obtain⟨r,b⟩:=t;simp only at *;generalize q+r=x at *;refine pI func186 rfl ntmps186 results186 call186 ?_
 (repeat' (first|(with_reducible first|refine stp ?_|apply gx1|apply gx2|apply gx3|apply gx4|apply gx5|apply gx6|apply gx7|apply gy8|apply gz2|apply gz3|refine gw0 (c) ?_ ?_|refine gw3 (c) ?_ ?_ ?_|refine gw0 (cs) ?_ ?_|refine gw3 (cs) ?_ ?_ ?_)|(with_reducible refine Zcv ?_;intro _)|((with_reducible refine gE ?_);(try simp (disch:=omega) only [go_sem])<;>first|rfl|omega)|with_reducible refine Zag zd ?_|((with_reducible apply gy1);iterate 3 focus rfl)|((with_reducible apply gy2);iterate 3 focus rfl)|((with_reducible apply gy3);iterate 2 focus rfl)|((with_reducible apply gy4);iterate 1 focus rfl)|((with_reducible apply gy5);iterate 4 focus rfl)|((with_reducible apply gy5c);iterate 4 focus rfl)|((with_reducible apply gy6);iterate 4 focus rfl)|((with_reducible apply Zgz);iterate 3 focus rfl)|((with_reducible apply Zgo);iterate 1 focus rfl)|((with_reducible apply gy7);iterate 1 focus rfl)|((with_reducible apply gy9);(focus ((with_reducible refine gE ?_);(try simp (disch:=omega) only [go_sem])<;>rfl)))|((with_reducible apply gz1);(focus first|rfl|(simp (disch:=omega) only [go_sem];done)))|((with_reducible apply Zbo (Zdv [(5,.v (.int .i64 x.num.sign))]) [] [4]);(focus kernel_rfl);(focus rfl);(focus kernel_rfl);(focus (simp only [Zyk,Zym,Nat.reduceAdd];rfl)))))
 (all_goals (try simp (disch:=omega) only [go_sem,Zx8,Zx6,Zx5,Zx4,Int.reduceAdd,Int.reduceSub,Int.reduceToNat,Zyh]));(all_goals first|done|rfl|(congr 2;first|done|omega|(rw [Zyn];simp only [bool_to_prop,Zyj,Zyw,Zyx,Zyy,Zyz];omega))|skip)
theorem Zpl {p q:Po} {i k:Nat} (hi:i < p.length) (hk:k < q.length):addM (p.drop i) (q.drop k) =
 if ltM q[k].2 p[i].2 then p[i] :: addM (p.drop (i+1)) (q.drop k) else if ltM p[i].2 q[k].2 then q[k] :: addM (p.drop i) (q.drop (k+1))
 else if p[i].1+q[k].1=0 then addM (p.drop (i+1)) (q.drop (k+1)) else (p[i].1+q[k].1,p[i].2) :: addM (p.drop (i+1)) (q.drop (k+1)):=by
 rw [ZCq hi,ZCq hk];rw [show addM (p[i] :: p.drop (i+1)) (q[k] :: q.drop (k+1))=_ from by unfold addM;rw [addP]]
theorem Zjx {p q:Po} {i k:Nat} (h:p.length≤i∨q.length≤k):addM (p.drop i) (q.drop k)=p.drop i++q.drop k:=by
 rcases h with h | h
 ·rw [Zzw h];simp [addM,addP]
 ·rw [Zzw h,Zzy];exact Zsy _
theorem poMerge (p q:Po) {j k e:Nat} (hp:PK p j e) (hq:PK q k e) (sp:SrtM p) (sq:SrtM q) (lp:p.length≤1000000) (lq:q.length≤1000000) (hj:j≤1000000) (hk:k≤1000000) (he:e≤16777216) :
 Pure prog 184 [poA p,poA q,.fn 185 [],.fn 186 []] (poA (addM p q)):=by
 refine pI func184 rfl ntmps184 results184 call184 ?_;(focus (refine wkad (w_1 @Zbv) w_t w_t ?_;(repeat' first|exact w_t|apply w_l);all_goals intros));rename_i sv0;refine Zad (ι:=Nat × Nat) (λx e m=>x.1≤p.length∧x.2≤q.length∧e 0=poA p∧e 1=poA q∧e 2=.fn 185 []∧e 3=.fn 186 []∧e 10=iv x.1∧e 11=iv x.2∧∃sv out,e 9=.own 20 sv∧m 20=some (.row sv 111 4 (out.map tmA) 0)∧out.length≤x.1+x.2∧addM p q=out++addM (p.drop x.1) (q.drop x.2)) (λx=>p.length+q.length - (x.1+x.2)) (0,0) zr ?_ ?_
 ·rintro ⟨i,l⟩ e m ⟨hi,hl,e0,e1,e2,e3,e10,e11,sv,out,e9,em,ho,hs⟩
  simp only at hi hl e10 e11 ho hs;by_cases hil:i < p.length∧l < q.length
  ·obtain⟨hi2,hl2⟩:=hil;have hg:=Zaj tmA hi2;have hh:=Zaj tmA hl2;have st:=Zpl hi2 hl2;have ms:=hp _ (Zyl hi2);have mt:=hq _ (Zyl hl2);have m1:=hp.sm he (Zyl hi2);have m2:=hq.sm he (Zyl hl2);have d1:=sp.dom _ (Zyl hi2);have d2:=sq.dom _ (Zyl hl2);generalize p[i]=s at *;generalize q[l]=t at *;have cl:=poLex s t m1 m2;have ca:=poAdded s t ms.1 mt.1 hj hk;have hlen:(out.map tmA).length=out.length:=Zx9 ..;rw [st] at hs;rcases Zlr d1 d2 with⟨h1,h2⟩ | ⟨h1,h1',h2,h3⟩ | ⟨h1,h1',h2⟩
   ·have h3:¬ltM t.2 s.2:=λh=>ordM.irr _ (ordM.tr _ _ _ h h1);rw [Zx4 h3,Zx5 h1] at hs;rw [h2] at cl;clear st ms mt m1 m2 d1 d2 ca;(focus (refine wkad (w_11 e0 e1 e2 e3 e9 e10 e11 em hg hh @Zbv) (w_1 cl) (w_1 (w_d 4 [(9,iv (-1))] [] [])) ?_;(repeat' first|exact w_t|apply w_l);all_goals intros));refine⟨(i,l+1),⟨by simp only;omega,by simp only;omega,gW e0,gW e1,gW e2,gW e3,gW e10,gS,_,out++[t],gC,by(simp (disch:=omega) only [go_sem,Zys]<;>repeat' first|rfl|refine⟨?_,?_⟩),by simp only [Zy0,Zyk,Zym];omega,by rw [hs,Zzd];rfl⟩,by simp only;omega⟩
   ·rw [Zx4 h1',Zx4 h1] at hs;rw [h3] at cl;by_cases hz:s.1+t.1=0
    ·rw [Zx5 hz] at hs;rw [Zx8 (show(s.1+t.1).num.sign=0 by rw [Zgf];exact hz)] at ca;clear st ms mt m1 m2 d1 d2;generalize (s.1+t.1)=z at *;(focus (refine wkad (w_12 e0 e1 e2 e3 e9 e10 e11 em hg hh @Zbv @ZBo) (w_2 cl ca) (w_2 (w_d 4 [(9,iv 0)] [] []) (w_d 5 [(9,.tup [tmA (z,s.2),.v (.bool false)])] [] [13])) ?_;(repeat' first|exact w_t|apply w_l);all_goals intros));refine⟨(i+1,l+1),⟨by simp only;omega,by simp only;omega,gW e0,gW e1,gW e2,gW e3,gS,gS,_,out,gW e9,gW em,by simp only;omega,hs⟩,by simp only;omega⟩
    ·rw [Zx4 hz] at hs;rw [Zx6 (show ¬(s.1+t.1).num.sign=0 by rw [Zgf];exact hz)] at ca;clear st ms mt m1 m2 d1 d2;generalize (s.1+t.1)=z at *;(focus (refine wkad (w_12 e0 e1 e2 e3 e9 e10 e11 em hg hh @Zbv @ZBq) (w_2 cl ca) (w_2 (w_d 4 [(9,iv 0)] [] []) (w_d 5 [(9,.tup [tmA (z,s.2),.v (.bool true)])] [] [13])) ?_;(repeat' first|exact w_t|apply w_l);all_goals intros));refine⟨(i+1,l+1),⟨by simp only;omega,by simp only;omega,gW e0,gW e1,gW e2,gW e3,gS,gS,_,out++[(z,s.2)],gC,by(simp (disch:=omega) only [go_sem,Zys]<;>repeat' first|rfl|refine⟨?_,?_⟩),by simp only [Zy0,Zyk,Zym];omega,by rw [hs,Zzd];rfl⟩,by simp only;omega⟩
   ·rw [Zx5 h1] at hs;rw [h2] at cl;clear st ms mt m1 m2 d1 d2 ca;(focus (refine wkad (w_11 e0 e1 e2 e3 e9 e10 e11 em hg hh @Zbv) (w_1 cl) (w_1 (w_d 4 [(9,iv 1)] [] [])) ?_;(repeat' first|exact w_t|apply w_l);all_goals intros));refine⟨(i+1,l),⟨by simp only;omega,by simp only;omega,gW e0,gW e1,gW e2,gW e3,gS,gW e11,_,out++[s],gC,by(simp (disch:=omega) only [go_sem,Zys]<;>repeat' first|rfl|refine⟨?_,?_⟩),by simp only [Zy0,Zyk,Zym];omega,by rw [hs,Zzd];rfl⟩,by simp only;omega⟩
  ·rw [Zjx zo] at hs;rw [hs];clear hs;have tp:(p.map tmA).take p.length=p.map tmA:=by rw [←Zx9 (f:=tmA),Zy7]
   have tq:(q.map tmA).take q.length=q.map tmA:=by rw [←Zx9 (f:=tmA),Zy7]
   by_cases hi2:i < p.length
   ·have hl2:l=q.length:=zo;subst hl2;(focus (refine wkad (w_15 e0 e1 e2 e3 e9 e10 e11 em @Zbv @l_drop @l_app @Zsk @Nat.min_self tp tq) w_t w_t ?_;(repeat' first|exact w_t|apply w_l);all_goals intros))
    (all_goals (try simp (disch:=omega) only [go_sem,Zzd,tp,tq,Zx8,Zx6,Zx5,Zx4,Int.reduceAdd,Int.reduceSub,Int.reduceToNat,Zyh]));(all_goals first|done|rfl|(congr 2;first|done|omega|(rw [Zyn];simp only [bool_to_prop,Zyj,Zyw,Zyx,Zyy,Zyz];omega))|skip)
    all_goals exact ZBn (AV.sl 4) (by simp only [Zys,List.map_drop])
   ·(focus (refine wkad (w_15 e0 e1 e2 e3 e9 e10 e11 em @Zbv @l_drop @l_app @Zsk @Nat.min_self tp tq) w_t w_t ?_;(repeat' first|exact w_t|apply w_l);all_goals intros))
    (all_goals (try simp (disch:=omega) only [go_sem,Zzd,tp,tq,Zx8,Zx6,Zx5,Zx4,Int.reduceAdd,Int.reduceSub,Int.reduceToNat,Zyh]));(all_goals first|done|rfl|(congr 2;first|done|omega|(rw [Zyn];simp only [bool_to_prop,Zyj,Zyw,Zyx,Zyy,Zyz];omega))|skip)
    all_goals exact ZBn (AV.sl 4) (by simp only [Zys,List.map_drop])
 ·exact⟨Zyi _,Zyi _,gC,gC,gC,gC,gC,gC,_,[],gC,by(simp (disch:=omega) only [go_sem,Zy6,List.replicate_zero]<;>repeat' first|rfl|refine⟨?_,?_⟩),by simp,by simp⟩
theorem Zkg (p q:Po) {j k e:Nat} (hp:PK p j e) (hq:PK q k e) (sp:SrtM p) (sq:SrtM q) (lp:p.length≤1000000) (lq:q.length≤1000000) (hj:j≤1000000) (hk:k≤1000000) (he:e≤16777216) :
 Pure prog 122 [poA p,poA q] (poA (addM p q)):=by
 have c:=poMerge p q hp hq sp sq lp lq hj hk he;generalize addM p q=r at *;refine pI func122 rfl ntmps122 results122 call122 ?_;(focus (refine wklp w_t (w_1 c) w_t (w_r 0) ?_;(repeat' first|exact w_t|apply w_l);all_goals intros))
theorem Zmj {p:Po} {t:Tm} {i:Nat} (hi:i < p.length):Zai mulM (p.take (i+1)) t=Zai mulM (p.take i) t++[(p[i].1*t.1,mulM p[i].2 t.2)]:=by
 unfold Zai;rw [ZAy hi,Zys];rfl
theorem Zdt (p:Po) (t:Tm):(Zai mulM p t).length=p.length:=by unfold Zai;simp
theorem poTimes (p:Po) (t:Tm) {j k e f:Nat} (hp:PK p j e) (ht:PK [t] k f) (sp:SrtM p) (h0:t.1≠0) (hd:Can t.2) (lp:p.length≤1000000) (hj:j≤1000000) (hk:k≤1000000) (he:e≤16777216) (hf:f≤16777216) :
 Pure prog 181 [poA p,.agg [.v (.bool (decide (t.1.num < 0))),lim (toL t.1.num.natAbs),lim (toL t.1.den),ivs t.2]] (poA (Zai mulM p t)):=by
 refine pI func181 rfl ntmps181 results181 call181 ?_;(focus (refine wkad (w_1 @Zbv) w_t w_t ?_;(repeat' first|exact w_t|apply w_l);all_goals intros));rename_i g3 sv0;refine Zad (ι:=Nat) (λi e m=>i≤p.length∧e 3=.pbox 3 g3 0∧m 3=some (.box g3 111 [.v (.bool (decide (t.1.num < 0))),lim (toL t.1.num.natAbs),lim (toL t.1.den),ivs t.2] false)∧e 12=poA p∧e 13=iv p.length∧e 14=iv i∧∃sv,e 5=.own 11 sv∧m 11=some (.row sv 111 4 ((Zai mulM (p.take i) t).map tmA) 0)) (λi=>p.length - i) 0 zr ?_ ?_
 ·rintro i e m ⟨hi,e3,m3,e12,e13,e14,sv,e5,m11⟩
  by_cases hlt:i < p.length
  ·have hg:=Zaj tmA hlt;have hs:=Zmj (t:=t) hlt;have ms:=hp _ (Zyl hlt);have m1:=hp.sm he (Zyl hlt);have m2:=ht.sm hf (.head _);have d1:=sp.dom _ (Zyl hlt);have n1:=(sp.1 _ (Zyl hlt)).1;have mt:=(ht t (.head _)).1;have hl:(Zai mulM (p.take i) t).length≤1000000:=by rw [Zdt,Zyp];omega
   generalize p[i]=s at *;have c1:=Zrv s.1 t.1 ms.1 mt zo zo;have c2:=Zf4 (s.1*t.1) (ms.1.mul mt) zo;have c3:Pure prog 222 [ivs s.2,ivs t.2] (ivs (Ziw (mulM s.2 t.2))):=monMul s.2 t.2 m1.wd m2.wd;rw [Zrk (mulK.dom _ _ d1 hd)] at c3
   have nz:¬(s.1*t.1).num.sign=0:=by
    rw [Zgf];intro h;rcases Rat.mul_eq_zero.1 h with h | h
    ·exact n1 h
    ·exact h0 h
   have nz2:(!decide ((s.1*t.1).num.sign=0))=true:=by rw [Zx6 nz];rfl
   obtain⟨s1,s2⟩:=s;simp only at *;clear ms m1 m2 d1 n1 mt;generalize s1*t.1=z at *;generalize mulM s2 t.2=w at *;generalize Zai mulM (p.take i) t=out at *;(focus (refine wkad (w_10 e3 m3 e12 e13 e14 e5 m11 hg @Zbv nz2) (w_3 c1 c2 c3) (w_1 (w_d 7 [(6,ivs w)] [9,1009] [11,34])) ?_;(repeat' first|exact w_t|apply w_l);all_goals intros));exact⟨i+1,⟨zo,gW e3,gW m3,gW e12,gW e13,gS,_,gC,by rw [hs,Zys];exact gC⟩,zo⟩
  ·have hi2:i=p.length:=zo;subst hi2;rw [Zy7] at m11;(focus (refine wkld (w_8 e3 m3 e12 e13 e14 e5 m11 @Zbv) w_t (w_1 m11) w_t ?_;(repeat' first|exact w_t|apply w_l);all_goals intros))
 ·exact⟨Zyi _,gC,gC,gC,by(simp (disch:=omega) only [go_sem,Zx9]<;>repeat' first|rfl|refine⟨?_,?_⟩),gC,_,gC,by(simp (disch:=omega) only [go_sem,ZA0,Zai,Zy6,List.replicate_zero]<;>repeat' first|rfl|refine⟨?_,?_⟩)⟩
theorem poTimesN (p:Po) (t:Tm) (hn:t.2=[]) {j k e f:Nat} (hp:PK p j e) (ht:PK [t] k f) (sp:SrtM p) (h0:t.1≠0) (hd:Can t.2) (lp:p.length≤1000000) (hj:j≤1000000) (hk:k≤1000000) (he:e≤16777216) (hf:f≤16777216) :
 Pure prog 181 [poA p,.agg [.v (.bool (decide (t.1.num < 0))),lim (toL t.1.num.natAbs),lim (toL t.1.den),.v (.slice none 0 0)]] (poA (Zai mulM p t)):=by
 refine pI func181 rfl ntmps181 results181 call181 ?_;(focus (refine wkad (w_1 @Zbv) w_t w_t ?_;(repeat' first|exact w_t|apply w_l);all_goals intros));rename_i g3 sv0;refine Zad (ι:=Nat) (λi e m=>i≤p.length∧e 3=.pbox 3 g3 0∧m 3=some (.box g3 111 [.v (.bool (decide (t.1.num < 0))),lim (toL t.1.num.natAbs),lim (toL t.1.den),.v (.slice none 0 0)] false)∧e 12=poA p∧e 13=iv p.length∧e 14=iv i∧∃sv,e 5=.own 11 sv∧m 11=some (.row sv 111 4 ((Zai mulM (p.take i) t).map tmA) 0)) (λi=>p.length - i) 0 zr ?_ ?_
 ·rintro i e m ⟨hi,e3,m3,e12,e13,e14,sv,e5,m11⟩
  by_cases hlt:i < p.length
  ·have hg:=Zaj tmA hlt;have hs:=Zmj (t:=t) hlt;have ms:=hp _ (Zyl hlt);have m1:=hp.sm he (Zyl hlt);have m2:=ht.sm hf (.head _);have d1:=sp.dom _ (Zyl hlt);have n1:=(sp.1 _ (Zyl hlt)).1;have mt:=(ht t (.head _)).1;have hl:(Zai mulM (p.take i) t).length≤1000000:=by rw [Zdt,Zyp];omega
   generalize p[i]=s at *;have c1:=Zrv s.1 t.1 ms.1 mt zo zo;have c2:=Zf4 (s.1*t.1) (ms.1.mul mt) zo;have c3:Pure prog 222 [ivs s.2,ivs t.2] (ivs (Ziw (mulM s.2 t.2))):=monMul s.2 t.2 m1.wd m2.wd;rw [Zrk (mulK.dom _ _ d1 hd)] at c3
   have nz:¬(s.1*t.1).num.sign=0:=by
    rw [Zgf];intro h;rcases Rat.mul_eq_zero.1 h with h | h
    ·exact n1 h
    ·exact h0 h
   have nz2:(!decide ((s.1*t.1).num.sign=0))=true:=by rw [Zx6 nz];rfl
   have c3:Pure prog 222 [ivs s.2,.v (.slice none 0 0)] (ivs (mulM s.2 t.2)):=by
    rw [hn] at c3 ⊢;exact Zih c3 (.cons (.refl _) (.cons (.nil 1) .nil))
   obtain⟨s1,s2⟩:=s;simp only at *;clear ms m1 m2 d1 n1 mt;generalize s1*t.1=z at *;generalize mulM s2 t.2=w at *;generalize Zai mulM (p.take i) t=out at *;(focus (refine wkad (w_10 e3 m3 e12 e13 e14 e5 m11 hg @Zbv nz2) (w_3 c1 c2 c3) (w_1 (w_d 7 [(6,ivs w)] [9,1009] [11,34])) ?_;(repeat' first|exact w_t|apply w_l);all_goals intros));exact⟨i+1,⟨zo,gW e3,gW m3,gW e12,gW e13,gS,_,gC,by rw [hs,Zys];exact gC⟩,zo⟩
  ·have hi2:i=p.length:=zo;subst hi2;rw [Zy7] at m11;(focus (refine wkld (w_8 e3 m3 e12 e13 e14 e5 m11 @Zbv) w_t (w_1 m11) w_t ?_;(repeat' first|exact w_t|apply w_l);all_goals intros))
 ·exact⟨Zyi _,gC,gC,gC,by(simp (disch:=omega) only [go_sem,Zx9]<;>repeat' first|rfl|refine⟨?_,?_⟩),gC,_,gC,by(simp (disch:=omega) only [go_sem,ZA0,Zai,Zy6,List.replicate_zero]<;>repeat' first|rfl|refine⟨?_,?_⟩)⟩
end Go.Proofs.YtenfejhaohihoaaGreat
