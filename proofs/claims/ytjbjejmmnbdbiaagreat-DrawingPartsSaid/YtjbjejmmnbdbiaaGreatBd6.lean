/- Contracts of the functions that the law reaches, and the rules by which they are walked. They say what a call hands back for every input within the bounds that each names; no other condition. -/
import Derived.Test.YtjbjejmmnbdbiaaGreatBd5
set_option linter.unusedSimpArgs false
set_option linter.unusedVariables false
set_option maxRecDepth 20000
set_option maxHeartbeats 16000000
namespace Go.Proofs.YtjbjejmmnbdbiaaGreat
open Go Go.RowKit Go.Pg Go.Proofs.Tryz
attribute [-bool_to_prop] Bool.and_eq_decide Bool.or_eq_decide Bool.decide_beq_decide decide_eq_decide
attribute [go_sem] underlying26 underlying28 underlying41 underlying169 szB zB zNat zInt zRat
attribute [local go_sem] Za9 Zba Za6
theorem Ze7 (s:Bool) (n:Nat) (hn:(toL n).length≤10000000000000):Pure prog 101 [.v (.bool s),lim (toL n)] (intZ (zI s n)):=by
 rw [Zf9];have hp:=@Zbl n;cases s
 ·refine pI func101 rfl ntmps101 results101 call101 ?_
  (refine wkvp w_t w_t (w_s ?_);intros)
  simp (disch:=omega) only [go_sem,Zzr]
 ·by_cases h:0 < n
  ·refine pI func101 rfl ntmps101 results101 call101 ?_
   (refine wkvp w_t w_t (w_s ?_);intros)
   simp (disch:=omega) only [go_sem,Zy6 h]
  ·refine pI func101 rfl ntmps101 results101 call101 ?_
   (refine wkvp w_t w_t (w_s ?_);intros)
   simp (disch:=omega) only [go_sem,Zy2 h]
theorem intOf' (s:Bool) (n:Nat) (hn:(toL n).length≤1000000000000):Pure prog 153 [.v (.bool s),lim (toL n)] (intZ (zI s n)):=by
 rw [Zf9];have hp:=@Zbl n;cases s
 ·refine pI func153 rfl ntmps153 results153 call153 ?_
  (refine wkvp w_t (w_1 (Zqz n hn)) (w_s ?_);intros)
  simp (disch:=omega) only [go_sem,Zzr]
 ·by_cases h:0 < n
  ·refine pI func153 rfl ntmps153 results153 call153 ?_
   (refine wkvp w_t (w_1 (Zqz n hn)) (w_s ?_);intros)
   simp (disch:=omega) only [go_sem,Zy6 h]
  ·refine pI func153 rfl ntmps153 results153 call153 ?_
   (refine wkvp w_t (w_1 (Zqz n hn)) (w_s ?_);intros)
   simp (disch:=omega) only [go_sem,Zy2 h]
theorem intNorm (s:Bool) (n:Nat) (hn:(toL n).length≤1000000000000):Pure prog 105 [intA s n] (intZ (zI s n)):=by
 refine pI func105 rfl ntmps105 results105 call105 ?_
 (refine wkvp w_t (w_1 (intOf' s n hn)) (w_s ?_);intros)
 simp (disch:=omega) only [go_sem]
theorem Zrd (s:Bool) (n:Nat) (hn:(toL n).length≤1000000000000):Pure prog 100 [intA s n] (.v (.int .i64 (zI s n).sign)):=by
 by_cases h:n=0
 ·have hb:Zn2 n=0:=Zhg.2 h;have hz:(zI s n).sign=0:=by subst h;cases s<;>rfl
  rw [hz];refine pI func100 rfl ntmps100 results100 call100 ?_
  (refine wkvp (w_2 hb @ZBs) (w_1 (nBits n hn)) (w_s ?_);intros)
  simp (disch:=omega) only [go_sem]
 ·have hb:Zn2 n≠0:=λe=>h (Zhg.1 e);cases s
  ·have hz:(zI false n).sign=1:=ZDo (by simp [zI];omega);rw [hz];refine pI func100 rfl ntmps100 results100 call100 ?_
   (refine wkvp w_t (w_1 (nBits n hn)) (w_s ?_);intros)
   simp (disch:=omega) only [go_sem]
  ·have hz:(zI true n).sign=-1:=ZCh (by simp [zI];omega);rw [hz];refine pI func100 rfl ntmps100 results100 call100 ?_
   (refine wkvp w_t (w_1 (nBits n hn)) (w_s ?_);intros)
   simp (disch:=omega) only [go_sem]
def cmpZ (a b:Int):Int:=if a < b then -1 else if b < a then 1 else 0
theorem Zxu (n m:Nat) (hn:(toL n).length≤1000000000000) (hm:(toL m).length≤1000000000000):Pure prog 150 [lim (toL n),lim (toL m)] (.v (.int .i64 (cmpN n m))):=by
 refine pI func150 rfl ntmps150 results150 call150 ?_
 (refine wkvp w_t (w_1 (nCmp n m hn hm)) (w_s ?_);intros)
 simp (disch:=omega) only [go_sem]
theorem intCmp (s t:Bool) (n m:Nat) (hn:(toL n).length≤1000000000000) (hm:(toL m).length≤1000000000000):Pure prog 99 [intA s n,intA t m] (.v (.int .i64 (cmpZ (zI s n) (zI t m)))):=by
 have cs:=Zrd s n hn;have ct:=Zrd t m hm;rcases ZB7 (zI s n).sign (zI t m).sign with h | h | h
 ·have hc:cmpZ (zI s n) (zI t m)=-1:=by
   unfold cmpZ;rw [Zy1];rcases ZB7 (zI s n) 0 with h1 | h1 | h1<;>rcases ZB7 (zI t m) 0 with h2 | h2 | h2<;>first
    | omega
    | (exfalso;simp [ZCh,ZDo,h1,h2] at h)
  rw [hc];refine pI func99 rfl ntmps99 results99 call99 ?_
  (refine wkad w_t (w_2 cs ct) (w_1 (w_d 1 [(1,.v (.int .i64 (zI s n).sign)),(3,.v (.int .i64 (zI t m).sign))] [] [])) (w_s ?_);intros)
  simp (disch:=omega) only [go_sem]
 ·have hcc:cmpZ (zI s n) (zI t m)=if (zI s n).sign < 0 then cmpN m n else cmpN n m:=by
   unfold cmpZ cmpN;cases s<;>cases t<;>simp only [zI,Zzt,Zzf,Zzp] at h ⊢
   ·have hs0:¬(n:Int).sign < 0:=by
     have:=Int.sign_nonneg_iff.2 (ZCg n);omega
    simp only [hs0,Zzp,Int.ofNat_lt]
   ·have h1:=Int.sign_nonneg_iff.2 (ZCg n)
    have h2:(-(m:Int)).sign≤0:=by
     rcases ZAi m with h3 | h3
     ·subst h3;simp
     ·rw [ZCh zo];omega
    have h3:(n:Int).sign=0:=zo;have h4:n=0:=by have:=Int.sign_eq_zero_iff_zero.1 h3;omega
    have h5:m=0:=by rw [h3] at h;have:=Int.sign_eq_zero_iff_zero.1 h.symm;omega
    subst h4;subst h5;simp
   ·have h1:=Int.sign_nonneg_iff.2 (ZCg m)
    have h2:(-(n:Int)).sign≤0:=by
     rcases ZAi n with h3 | h3
     ·subst h3;simp
     ·rw [ZCh zo];omega
    have h3:(m:Int).sign=0:=zo;have h4:m=0:=by have:=Int.sign_eq_zero_iff_zero.1 h3;omega
    have h5:n=0:=by rw [h3] at h;have:=Int.sign_eq_zero_iff_zero.1 h;omega
    subst h4;subst h5;simp
   ·rcases ZAi n with h3 | h3
    ·subst h3;have h5:m=0:=by have:=Int.sign_eq_zero_iff_zero.1 h.symm;omega
     subst h5;simp
    ·rw [Zy1 (c:=(-(n:Int)).sign < 0) (by rw [ZCh zo];omega)];have e1:(-(n:Int) < -(m:Int))↔m < n:=zo;have e2:(-(m:Int) < -(n:Int))↔n < m:=zo;simp only [e1,e2]
  rw [hcc];by_cases hneg:(zI s n).sign < 0
  ·rw [Zy1 hneg];refine pI func99 rfl ntmps99 results99 call99 ?_
   (refine wkad w_t (w_3 cs ct (Zxu m n hm hn)) (w_1 (w_d 1 [(1,.v (.int .i64 (zI s n).sign)),(3,.v (.int .i64 (zI t m).sign))] [] [])) (w_s ?_);intros)
   simp (disch:=omega) only [go_sem]
  ·rw [Zy0 hneg];refine pI func99 rfl ntmps99 results99 call99 ?_
   (refine wkad w_t (w_3 cs ct (Zxu n m hn hm)) (w_1 (w_d 1 [(1,.v (.int .i64 (zI s n).sign)),(3,.v (.int .i64 (zI t m).sign))] [] [])) (w_s ?_);intros)
   simp (disch:=omega) only [go_sem]
 ·have hc:cmpZ (zI s n) (zI t m)=1:=by
   have h0:zI t m < zI s n:=by
    rcases ZB7 (zI s n) 0 with h1 | h1 | h1<;>rcases ZB7 (zI t m) 0 with h2 | h2 | h2<;>first
     | omega
     | (exfalso;simp [ZCh,ZDo,h1,h2] at h)
   unfold cmpZ;rw [Zy0 zo,Zy1 h0]
  rw [hc];refine pI func99 rfl ntmps99 results99 call99 ?_
  (refine wkad w_t (w_2 cs ct) (w_1 (w_d 1 [(1,.v (.int .i64 (zI s n).sign)),(3,.v (.int .i64 (zI t m).sign))] [] [])) (w_s ?_);intros)
  simp (disch:=omega) only [go_sem]
theorem Zsv (s t:Bool) (n m:Nat) (hn:(toL n).length≤1000000000000) (hm:(toL m).length≤1000000000000):Pure prog 63 [intA s n,intA t m] (intZ (zI s n*zI t m)):=by
 have e:zI s n*zI t m=zI (s != t) (n*m):=by cases s<;>cases t<;>simp [zI,Int.mul_neg,Int.neg_mul]
 have lm:(toL (n*m)).length≤10000000000000:=by
  have h5:(toL (n*m)).length≤(toL n).length+(toL m).length:=by
   rw [Zaf,ZA8];exact Nat.mul_lt_mul'' (Zaf.1 (Zy5 _)) (Zaf.1 (Zy5 _))
  omega
 rw [e];have hne:(!(s == t))=(s != t):=rfl;refine pI func63 rfl ntmps63 results63 call63 ?_
 (refine wkad (w_1 hne) (w_2 (nMul n m hn hm) (Ze7 (s != t) (n*m) lm)) (w_1 (w_d 1 [(9,lim (toL (n*m))),(10,intZ (zI (s != t) (n*m)))] [11] [])) (w_s ?_);intros)
 simp (disch:=omega) only [go_sem]
theorem intAdd (s t:Bool) (n m:Nat) (hn:(toL n).length≤1000000000000) (hm:(toL m).length≤1000000000000):Pure prog 108 [intA s n,intA t m] (intZ (zI s n+zI t m)):=by
 by_cases hst:s=t
 ·subst hst;have e:zI s n+zI s m=zI s (n+m):=by cases s<;>simp [zI]<;>omega
  have la:(toL (n+m)).length≤10000000000000:=by
   have h5:(toL (n+m)).length≤max (toL n).length (toL m).length+1:=by
    rw [Zaf,ZA1];have h1:=Zaf.1 (Nat.le_max_left (toL n).length (toL m).length);have h2:=Zaf.1 (Nat.le_max_right (toL n).length (toL m).length);generalize 65536 ^ max (toL n).length (toL m).length=p at *;omega
   omega
  rw [e];have hb:(s == s)=true:=by cases s<;>rfl
  refine pI func108 rfl ntmps108 results108 call108 ?_
  (refine wkad (w_1 hb) (w_2 (nAdd n m hn hm) (Ze7 s (n+m) la)) (w_1 (w_d 2 [(6,lim (toL (n+m))),(7,intZ (zI s (n+m)))] [8] [])) (w_s ?_);intros)
  simp (disch:=omega) only [go_sem]
 ·have hb:(s == t)=false:=by cases s<;>cases t<;>first|rfl|exact absurd rfl hst
  have ht:t=!s:=by cases s<;>cases t<;>first|rfl|exact absurd rfl hst
  by_cases hlt:n < m
  ·have hc:cmpN n m=-1:=Zy1 hlt;have e:zI s n+zI t m=zI t (m - n):=by rw [ht];cases s<;>simp [zI]<;>omega
   have ls:(toL (m - n)).length≤10000000000000:=Zzg (Zat (Nat.sub_le _ _)) zo;have cs:=nSub m n hm hn;rw [Zy0 zo,Zy0 zo] at cs;rw [e];refine pI func108 rfl ntmps108 results108 call108 ?_
   (refine wkad (w_2 hb hc) (w_3 (nCmp n m hn hm) cs (Ze7 t (m - n) ls)) w_t (w_s ?_);intros)
   simp (disch:=omega) only [go_sem]
  ·have hc:0≤cmpN n m:=by unfold cmpN;rw [Zy0 hlt];split<;>omega
   have e:zI s n+zI t m=zI s (n - m):=by rw [ht];cases s<;>simp [zI]<;>omega
   have ls:(toL (n - m)).length≤10000000000000:=Zzg (Zat (Nat.sub_le _ _)) zo;have cs:=nSub n m hn hm;rw [Zy0 zo,Zy0 zo] at cs;rw [e];refine pI func108 rfl ntmps108 results108 call108 ?_
   (refine wkad (w_1 hb) (w_3 (nCmp n m hn hm) cs (Ze7 s (n - m) ls)) w_t (w_s ?_);intros)
   simp (disch:=omega) only [go_sem]
theorem Zxt (s:Bool) (n m:Nat) (hn:(toL n).length≤100000000000) (hm:(toL m).length≤100000000000) (h0:m≠0):Pure prog 110 [intA s n,intA false m] (.tup [intZ (zI s n/m),intZ (zI s n%m),.v (.int .i64 0)]):=by
 have cd:=Zq0 n m zo zo h0;have hq:(toL (n/m)).length≤100000000000:=Zzg (Zat (ZDc _ _)) hn;have hr:(toL (n%m)).length≤100000000000:=Zzg (Zat (Nat.mod_le _ _)) hn;have hp:=@Zbl (n%m);have hmp:=ZBi h0;cases s
 ·have e1:zI false n/m=zI false (n/m):=by simp [zI]
  have e2:zI false n%m=zI false (n%m):=by simp [zI]
  rw [e1,e2];refine pI func110 rfl ntmps110 results110 call110 ?_;(focus (refine wkad (w_1 @ZCm) (w_3 cd (Ze7 false (n/m) zo) (Ze7 false (n%m) zo)) w_t ?_;(repeat' first|exact w_t|apply w_l);all_goals intros));simp (disch:=omega) only [go_sem]
 ·by_cases hz:n%m=0
  ·have hdm:=ZBh n m;rw [hz,Zz3] at hdm
   have e1:zI true n/m=zI true (n/m):=by
    simp only [zI,Zzt];have:(n:Int)=(m:Int)*((n/m:Nat):Int):=by rw [←Int.natCast_mul,hdm]
    rw [this,←Int.mul_neg,ZDk _ zo]
   have e2:zI true n%m=zI false 0:=by
    simp only [zI,Zzt,Zzf,Zzp];have:(n:Int)=(m:Int)*((n/m:Nat):Int):=by rw [←Int.natCast_mul,hdm]
    rw [this,←Int.mul_neg,Int.mul_emod_right];rfl
   have l0:¬0 < (toL (n%m)).length:=by rw [hp,hz];omega
   have l0':(toL 0).length=0:=by rw [Zav];rfl
   rw [hz] at cd;rw [e1,e2];refine pI func110 rfl ntmps110 results110 call110 ?_;(focus (refine wkad (w_1 l0') (w_3 cd (Ze7 true (n/m) zo) (Ze7 false 0 zo)) w_t ?_;(repeat' first|exact w_t|apply w_l);all_goals intros));simp (disch:=omega) only [go_sem]
  ·have hrp:0 < (toL (n%m)).length:=hp.2 zo;have hml:=Zz9 n hmp;have hdm:=ZBh n m;have hnn:(n:Int)=(m:Int)*((n/m:Nat):Int)+((n%m:Nat):Int):=by rw [←Int.natCast_mul,←Int.natCast_add,hdm]
   have ee:zI true n=(m:Int)*(-(((n/m+1:Nat):Nat):Int))+((m - n%m:Nat):Int):=by
    simp only [zI,Zzt];have h5:((m - n%m:Nat):Int)=(m:Int) - ((n%m:Nat):Int):=zo
    have h6:(m:Int)*(-(((n/m+1:Nat):Nat):Int))=-((m:Int)*((n/m:Nat):Int)) - m:=by
     rw [Int.natCast_add,Int.mul_neg,Int.mul_add];generalize (m:Int)*((n/m:Nat):Int)=z;simp only [Int.natCast_one,Int.mul_one];omega
    rw [h5,h6];generalize (m:Int)*((n/m:Nat):Int)=z at hnn ⊢;omega
   have hlt:((m - n%m:Nat):Int) < (m:Int):=zo
   have e1:zI true n/m=zI true (n/m+1):=by
    rw [ee,Int.mul_add_ediv_left _ _ zo,Int.ediv_eq_zero_of_lt (ZCg _) hlt,Int.add_zero];rfl
   have e2:zI true n%m=zI false (m - n%m):=by
    rw [ee,Int.mul_add_emod_self_left,Int.emod_eq_of_lt (ZCg _) hlt];rfl
   have lq:(toL (n/m+1)).length≤10000000000000:=by
    have h5:(toL (n/m+1)).length≤(toL (n/m)).length+1:=by
     rw [Zaf,ZA1];have h1:=Zaf.1 (Zy5 (toL (n/m)).length);have h2:0 < 65536 ^ (toL (n/m)).length:=Nat.pow_pos zo;generalize 65536 ^ (toL (n/m)).length=p at *;omega
    omega
   have lr:(toL (m - n%m)).length≤10000000000000:=Zzg (Zat (Nat.sub_le _ _)) zo;have t1:toL 1=[1]:=by rw [Zew zo];simp [Zav]
   have ca:=nAdd (n/m) 1 zo (by rw [t1];simp);rw [t1] at ca;have cs:=nSub m (n%m) zo zo;rw [Zy0 zo,Zy0 zo] at cs;rw [e1,e2];refine pI func110 rfl ntmps110 results110 call110 ?_;(focus (refine wkax w_t (w_4 cd cs (Ze7 true (n/m+1) lq) (Ze7 false (m - n%m) lr)) w_t (w_1 ca) w_t w_t w_y (w_r 0) ?_;(repeat' first|exact w_t|apply w_l);all_goals intros));simp (disch:=omega) only [go_sem]
inductive Vk:AV→AV→Prop
 | refl (a:AV):Vk a a
 | nil (m:Nat):Vk (.v (.slice none 0 0)) (.sl m [])
 | agg (xs ys:List AV) (hl:xs.length=ys.length) (h:∀(j:Nat) (a b:AV),xs[j]?=some a→ys[j]?=some b→Vk a b):Vk (.agg xs) (.agg ys)
 | tup (xs ys:List AV) (hl:xs.length=ys.length) (h:∀(j:Nat) (a b:AV),xs[j]?=some a→ys[j]?=some b→Vk a b):Vk (.tup xs) (.tup ys)
 | sl (m:Nat) (es es':List AV) (hl:es.length=es'.length) (hm:∀e∈es',e.cells.length=m) (hok:∀e∈es',e.ok=true) (hf:(flat es).length=(flat es').length) (h:∀(j:Nat) (a b:AV),(flat es)[j]?=some a→(flat es')[j]?=some b→Vk a b):Vk (.sl m es) (.sl m es')
theorem Vk.rd {w:World} {imm:Imm} {a b:AV} (h:Vk a b):∀{x:Value},Rd w imm a x→Rd w imm b x:=by
 induction h with
 | refl a=>exact λh=>h
 | nil m =>
   intro x h;cases h;exact .sl m [] none 0 (λ_=>undef) zs zs (Zy5 _) zs zs (by simp [flat])
 | agg xs ys hl _ ih =>
   intro x h
   cases h with
   | agg _ vs hl2 hr =>
     refine .agg ys vs zo λj b x h1 h2=>?_;have hj:j < xs.length:=by rw [hl];exact(List.getElem?_eq_some_iff.1 h1).1
     exact ih j xs[j] b (Zy4 hj) h1 (hr j xs[j] x (Zy4 hj) h2)
 | tup xs ys hl _ ih =>
   intro x h
   cases h with
   | tup _ vs hl2 hr =>
     refine .tup ys vs zo λj b x h1 h2=>?_;have hj:j < xs.length:=by rw [hl];exact(List.getElem?_eq_some_iff.1 h1).1
     exact ih j xs[j] b (Zy4 hj) h1 (hr j xs[j] x (Zy4 hj) h2)
 | sl m es es' hl hm hok hf _ ih =>
   intro x h;obtain⟨A,cap,f,rfl,hcap,_,_,hn,hA,hr⟩:=(Rs.pure h).sl_inv;rw [hl];refine .sl m es' A cap f hm hok zo (λh=>hn zo) (λj hj=>hA j (by rw [hl];exact hj)) λj b hb=>?_;have hj:j < (flat es).length:=by rw [hf];exact(List.getElem?_eq_some_iff.1 hb).1
   exact ih j _ b (Zy4 hj) hb (hr j _ (Zy4 hj))
def VkL (xs ys:List AV):Prop:=xs.length=ys.length∧∀(j:Nat) (a b:AV),xs[j]?=some a→ys[j]?=some b→Vk a b
theorem VkL.nil:VkL [] []:=⟨rfl,λj a b h=>by simp at h⟩
theorem VkL.cons {a b:AV} {xs ys:List AV} (h:Vk a b) (t:VkL xs ys):VkL (a :: xs) (b :: ys):=by
 refine⟨by simp [t.1],λj x y h1 h2=>?_⟩
 cases j with
 | zero=>simp at h1 h2;subst h1;subst h2;exact h
 | succ j=>exact t.2 j x y (by simpa using h1) (by simpa using h2)
theorem VkL.refl (xs:List AV):VkL xs xs:=⟨rfl,λj a b h1 h2=>by rw [h1] at h2;cases h2;exact .refl _⟩
theorem Vk.aggL {xs ys:List AV} (h:VkL xs ys):Vk (.agg xs) (.agg ys):=.agg xs ys h.1 h.2
theorem Vk.tupL {xs ys:List AV} (h:VkL xs ys):Vk (.tup xs) (.tup ys):=.tup xs ys h.1 h.2
theorem Vk.slL {m:Nat} {es es':List AV} (hl:es.length=es'.length) (hm:∀e∈es',e.cells.length=m) (hok:∀e∈es',e.ok=true) (h:VkL (flat es) (flat es')):Vk (.sl m es) (.sl m es'):=.sl m es es' hl hm hok h.1 h.2
theorem Zwp {P:Program} {f:FuncId} {args args':List AV} {r r':AV} (h:Pure P f args' r) (ha:VkL args args') (hw:Vk r r'):Pure P f args r':=by
 refine⟨h.1,λw imm vs h1 h2 h3=>(h.2 w imm vs h1 (by rw [←ha.1];exact h2) λj b x e1 e2=>?_).mono λe w' he=>?_⟩
 ·have hj:j < args.length:=by rw [ha.1];exact(List.getElem?_eq_some_iff.1 e1).1
  exact(ha.2 j args[j] b (Zy4 hj) e1).rd (h3 j args[j] x (Zy4 hj) e2)
 ·obtain⟨x,imm',e1,e2,e3⟩:=he;exact⟨x,imm',e1,hw.rd e2,e3⟩
theorem Zm6 {P:Program} {f:FuncId} {args args':List AV} {r:AV} (h:Pure P f args' r) (ha:VkL args args'):Pure P f args r:=Zwp h ha (.refl _)
theorem Zcm {P:Program} {f:FuncId} {args:List AV} {r r':AV} (h:Pure P f args r) (hw:Vk r r'):Pure P f args r':=Zwp h (.refl _) hw
theorem Zfw (n m:Nat):(toL (n*m)).length≤(toL n).length+(toL m).length:=by
 rw [Zaf,ZA8];exact Nat.mul_lt_mul'' (Zaf.1 (Zy5 _)) (Zaf.1 (Zy5 _))
theorem Zpg (n m:Nat):(toL (n+m)).length≤max ((toL n).length) ((toL m).length)+1:=by
 rw [Zaf,ZA1];have h1:=Zaf.1 (Nat.le_max_left ((toL n).length) ((toL m).length));have h2:=Zaf.1 (Nat.le_max_right ((toL n).length) ((toL m).length));generalize 65536 ^ max ((toL n).length) ((toL m).length)=p at *;omega
theorem Zd2 {n m:Nat} (h:n≤m):(toL n).length≤(toL m).length:=Zat h
theorem Zhs:(toL 1).length=1:=by rw [Zew zo];simp [Zav]
theorem toL_one:toL 1=[1]:=by rw [Zew zo];simp [Zav]
abbrev ratQ (q:Rat):AV:=.agg [.v (.bool (decide (q.num < 0))),lim (toL q.num.natAbs),lim (toL q.den)]
abbrev ratA (s:Bool) (n d:Nat):AV:=.agg [.v (.bool s),lim (toL n),lim (toL d)]
def Sz (q:Rat) (k:Nat):Prop:=(toL q.num.natAbs).length≤k∧(toL q.den).length≤k
theorem Sz.mono {q:Rat} {k j:Nat} (h:Sz q k) (hk:k≤j):Sz q j:=⟨Zzg h.1 hk,Zzg h.2 hk⟩
theorem Zqm (z:Int) (m:Nat) (hm:m≠0):ratQ (mkRat z m)=.agg [.v (.bool (decide (z < 0))),lim (toL (z.natAbs/Nat.gcd z.natAbs m)),lim (toL (m/Nat.gcd z.natAbs m))]:=by
 unfold ratQ;rw [Rat.num_mkRat,Rat.den_mkRat,Zy0 hm,Zy0 hm,ZCp m z.natAbs];have hg:0 < Nat.gcd z.natAbs m:=ZDv _ zo;have hd:((Nat.gcd z.natAbs m:Nat):Int) ∣ z:=Int.ofNat_dvd_left.2 (Nat.gcd_dvd_left _ _);generalize Nat.gcd z.natAbs m=g at *;obtain⟨k,hk⟩:=hd;have hgz:(g:Int)≠0:=zo;have e1:z/(g:Int)=k:=by rw [hk,ZDk _ hgz]
 have e2:z.natAbs/g=k.natAbs:=by rw [hk,ZBm,ZBr,Nat.mul_div_cancel_left _ hg]
 have e3:(z < 0)↔(k < 0):=by
  rw [hk];constructor
  ·intro h;rcases (by omega:k < 0∨0≤k) with h1 | h1
   ·exact h1
   ·have:=Int.mul_nonneg (show(0:Int)≤g by omega) h1;omega
  ·intro h;exact Int.mul_neg_of_pos_of_neg zo h
 rw [e1,e2];simp only [e3]
theorem Sz.mk {z:Int} {m k:Nat} (hz:(toL z.natAbs).length≤k) (hm:(toL m).length≤k) (hk:1≤k):Sz (mkRat z m) k:=by
 unfold Sz;rw [Rat.num_mkRat,Rat.den_mkRat];by_cases h:m=0
 ·rw [Zy1 h,Zy1 h];refine⟨?_,by rw [Zhs];exact hk⟩;show(toL 0).length≤k;rw [Zav];simp
 ·rw [Zy0 h,Zy0 h];refine⟨Zzg (Zd2 ?_) hz,Zzg (Zd2 (ZDc _ _)) hm⟩;have hd:((Nat.gcd m z.natAbs:Nat):Int) ∣ z:=Int.ofNat_dvd_left.2 (Nat.gcd_dvd_right _ _);have hg:0 < Nat.gcd m z.natAbs:=Nat.gcd_pos_of_pos_left _ zo;generalize Nat.gcd m z.natAbs=g at *;obtain⟨c,hc⟩:=hd;rw [hc,ZDk _ zo,ZBm,ZBr];exact Nat.le_mul_of_pos_left _ hg
theorem Zer (a b:Int):(a+b).natAbs≤a.natAbs+b.natAbs:=zo
theorem Sz.pos {q:Rat} {k:Nat} (h:Sz q k):1≤k:=by
 have h1:=Zbl.2 q.den_pos;have h2:=h.2;omega
theorem Zd7 (a b:Rat) {j k:Nat} (ha:Sz a j) (hb:Sz b k):(toL (a.num*b.den).natAbs).length≤j+k:=by
 rw [ZBm,ZBr];exact Zzg (Zfw _ _) (ZDm ha.1 hb.2)
theorem Sz.mul {a b:Rat} {j k:Nat} (ha:Sz a j) (hb:Sz b k):Sz (a*b) (j+k):=by
 rw [Rat.mul_def'];refine Sz.mk ?_ (Zzg (Zfw _ _) (ZDm ha.2 hb.2)) (by have:=ha.pos;omega);rw [ZBm];exact Zzg (Zfw _ _) (ZDm ha.1 hb.1)
theorem Sz.add {a b:Rat} {j k:Nat} (ha:Sz a j) (hb:Sz b k):Sz (a+b) (j+k+1):=by
 rw [Rat.add_def'];refine Sz.mk ?_ (Zzg (Zfw _ _) (by have:=ha.2;have:=hb.2;omega)) zo;have h1:=Zd7 a b ha hb;have h2:=Zd7 b a hb ha;have h3:=Zd2 (Zer (a.num*b.den) (b.num*a.den));have h4:=Zpg (a.num*b.den).natAbs (b.num*a.den).natAbs;omega
theorem Sz.neg {a:Rat} {j:Nat} (ha:Sz a j):Sz (-a) j:=by
 unfold Sz;rw [Rat.neg_num,Rat.neg_den,Int.natAbs_neg];exact ha
theorem Sz.sub {a b:Rat} {j k:Nat} (ha:Sz a j) (hb:Sz b k):Sz (a - b) (j+k+1):=by
 rw [Rat.sub_eq_add_neg];exact ha.add hb.neg
theorem Sz.inv {a:Rat} {j:Nat} (ha:Sz a j):Sz (a⁻¹) j:=by
 unfold Sz;rw [Rat.num_inv,Rat.den_inv];by_cases h:a.num=0
 ·rw [Zy1 h,h];refine⟨?_,by rw [Zhs];exact ha.pos⟩;have:(Int.sign 0*(a.den:Int)).natAbs=0:=by simp
  rw [this];show(toL 0).length≤j;rw [Zav];simp
 ·rw [Zy0 h];refine⟨?_,ha.1⟩;rw [ZBm,ZBr,Int.natAbs_sign_of_ne_zero h,ZA3];exact ha.2
theorem Sz.div {a b:Rat} {j k:Nat} (ha:Sz a j) (hb:Sz b k):Sz (a/b) (j+k):=ha.mul hb.inv
theorem Sz.int {z:Int} {k:Nat} (h:(toL z.natAbs).length≤k) (hk:1≤k):Sz (z:Rat) k:=⟨h,by show(toL 1).length≤k;rw [Zhs];exact hk⟩
def cmpQ (a b:Rat):Int:=if a < b then -1 else if b < a then 1 else 0
theorem cmpQ_z (a b:Rat):cmpQ a b=cmpZ (a.num*b.den) (b.num*a.den):=by
 unfold cmpQ cmpZ;simp only [Rat.lt_iff]
theorem iMul (z w:Int) (hz:(toL z.natAbs).length≤1000000000000) (hw:(toL w.natAbs).length≤1000000000000):Pure prog 63 [intZ z,intZ w] (intZ (z*w)):=by
 have:=Zsv (decide (z < 0)) (decide (w < 0)) z.natAbs w.natAbs hz hw
 rwa [Zb6,Zb6] at this
theorem Zuj (z:Int) (d:Nat) (hz:(toL z.natAbs).length≤1000000000000) (hw:(toL d).length≤1000000000000):Pure prog 63 [intZ z,intA false d] (intZ (z*d)):=by
 have:=Zsv (decide (z < 0)) false z.natAbs d hz hw;rw [Zb6] at this;exact this
theorem iAddA (z:Int) (t:Bool) (m:Nat) (hz:(toL z.natAbs).length≤1000000000000) (hm:(toL m).length≤1000000000000):Pure prog 108 [intZ z,intA t m] (intZ (z+zI t m)):=by
 have:=intAdd (decide (z < 0)) t z.natAbs m hz hm
 rwa [Zb6] at this
theorem iAdd0 (t:Bool) (m:Nat) (hm:(toL m).length≤1000000000000):Pure prog 108 [.agg [.v (.bool false),.v (.slice none 0 0)],intA t m] (intZ (zI t m)):=by
 have h:=iAddA 0 t m (by show(toL 0).length≤_;rw [Zav];simp) hm;rw [Zzd] at h;refine Zm6 h (.cons (.aggL (.cons (.refl _) (.cons ?_ .nil))) (.cons (.refl _) .nil));show Vk _ (.sl 1 (u16s (toL 0)));rw [Zav];exact .nil 1
theorem iCmp (z w:Int) (hz:(toL z.natAbs).length≤1000000000000) (hw:(toL w.natAbs).length≤1000000000000):Pure prog 99 [intZ z,intZ w] (.v (.int .i64 (cmpZ z w))):=by
 have:=intCmp (decide (z < 0)) (decide (w < 0)) z.natAbs w.natAbs hz hw
 rwa [Zb6,Zb6] at this
theorem iSign (z:Int) (hz:(toL z.natAbs).length≤1000000000000):Pure prog 100 [intZ z] (.v (.int .i64 z.sign)):=by
 have:=Zrd (decide (z < 0)) z.natAbs hz
 rwa [Zb6] at this
theorem iDivMod (z:Int) (m:Nat) (hz:(toL z.natAbs).length≤100000000000) (hm:(toL m).length≤100000000000) (h0:m≠0):Pure prog 110 [intZ z,intA false m] (.tup [intZ (z/m),intZ (z%m),.v (.int .i64 0)]):=by
 have:=Zxt (decide (z < 0)) z.natAbs m hz hm h0
 rwa [Zb6] at this
def sumC (z w:Int):Nat→List AV
 | 0=>[.v (.bool false),.v (.slice none 0 0)]
 | 1=>[.v (.bool (decide (z < 0))),lim (toL z.natAbs)]
 | _=>[.v (.bool (decide (z+w < 0))),lim (toL (z+w).natAbs)]
theorem Zvc (x:Nat) (l:List Nat):u16s (x :: l)=AV.v (.int .u16 (x:Int)) :: u16s l:=rfl
theorem szShape:szOf prog 169=some 2:=by kernel_rfl
theorem zShape:Zaq prog 169=some (.agg #[.int .i64 0,.int .u16 0]):=by kernel_rfl
theorem eqShape:eqTy prog 169=true:=by kernel_rfl
theorem Zkx (n:Nat) (h:n < 65536):Sz (n:Rat) 1:=⟨Zaf.2 (by show((n:Int)).natAbs < _;simpa using h),Zaf.2 (by show 1 < 65536 ^ 1;decide)⟩
attribute [go_sem] szShape zShape underlying170
attribute [local go_sem] eqShape
theorem intOf (n:Nat) (hn:n < 9223372036854775808):Pure prog 58 [.v (.int .i64 (n:Int))] (intA false n):=by
 have l4:(toL n).length≤4:=Zaf.2 zo;have hm:=Ze7 false n zo;rw [Zf9,Zzr] at hm;refine pI func58 rfl ntmps58 results58 call58 ?_
 (refine wkvp w_t (w_2 (natOf n zo) hm) (w_s ?_);intros)
 simp (disch:=omega) only [go_sem]
theorem Zwa:Pure prog 66 [] (lim (toL 1)):=by
 rw [toL_one];refine pI func66 rfl ntmps66 results66 call66 ?_
 (refine wkvp w_t w_t (w_s ?_);intros)
 exact gC
theorem Zd6 (n:Nat):Pure prog 64 [lim (toL n)] (intA false n):=by
 refine pI func64 rfl ntmps64 results64 call64 ?_
 (refine wkvp w_t w_t (w_s ?_);intros)
 simp (disch:=omega) only [go_sem]
theorem Zl7 (n:Nat) (hn:(toL n).length≤1000000000000):Pure prog 60 [lim (toL n)] (.v (.bool (decide (n=1)))):=by
 by_cases h0:n=0
 ·subst h0;rw [Zav];refine pI func60 rfl ntmps60 results60 call60 ?_
  (refine wkvp w_t w_t (w_s ?_);intros)
  simp (disch:=omega) only [go_sem,Bool.and_self]
 ·have hd:decide (n=1)=(((((toL (n/65536)).length+1:Nat):Int) == 1) && (((n%65536:Nat):Int) == 1)):=by
   have hp:=@Zbl (n/65536);rw [Zzy];simp only [Zzu,Zzn,ZA6];omega
  rw [Zew zo,hd];refine pI func60 rfl ntmps60 results60 call60 ?_
  (refine wkvp (w_1 @Zvc) w_t (w_s ?_);intros)
  simp (disch:=omega) only [go_sem]
theorem Zkq (s:Bool) (n d:Nat) (h2:(toL d).length≤100000000000) (h0:d≠0):Pure prog 59 [ratA s n d] (.tup [intA s n,lim (toL d)]):=by
 have hb:Zn2 d≠0:=λe=>h0 (Zhg.1 e);refine pI func59 rfl ntmps59 results59 call59 ?_;(focus (refine wkad w_t (w_1 (nBits d zo)) (w_1 (w_d 3 [] [] [2])) ?_;(repeat' first|exact w_t|apply w_l);all_goals intros));simp (disch:=omega) only [go_sem]
theorem Zdq (q:Rat) {k:Nat} (h:Sz q k) (hk:k≤100000000000):Pure prog 59 [ratQ q] (.tup [intZ q.num,lim (toL q.den)]) :=
 Zkq _ _ _ (Zzg h.2 hk) q.den_nz
theorem Zg7 (s:Bool) (n m:Nat) (hn:(toL n).length≤100000000000) (hm:(toL m).length≤100000000000) (h0:m≠0):Pure prog 61 [intA s n,lim (toL m)] (ratQ (mkRat (zI s n) m)):=by
 have cn:=intNorm s n zo;have hz:=Zd8 s n;rw [Zqm _ _ h0];generalize zI s n=z at *;subst hz;have hmp:=Zbl.2 (ZBi h0);have g0:Nat.gcd z.natAbs m≠0:=Nat.ne_of_gt (ZDv _ zo);have hg:(toL (Nat.gcd z.natAbs m)).length≤100000000000:=Zzg (Zd2 (Nat.le_of_dvd zo (Nat.gcd_dvd_right _ _))) hm;have cg:=nGcd z.natAbs m zo zo;have c1:=Zl7 m zo;have c2:=Zl7 (Nat.gcd z.natAbs m) zo;by_cases hz0:z.natAbs=0
 ·have hzz:z=0:=zo;subst hzz;have l0:(toL 0).length=0:=by rw [Zav];rfl
  have n0:Int.natAbs 0=0:=rfl;have hd:decide ((0:Int) < 0)=false:=rfl;have cn:Pure prog 105 [intA s 0] (.agg [.v (.bool false),lim (toL 0)]):=cn;rw [n0] at hn ⊢;rw [Nat.gcd_zero_left,Nat.zero_div,Nat.div_self zo,hd];refine Zcm (r:=.agg [.v (.bool false),.v (.slice none 0 0),lim (toL 1)]) ?_ (.aggL (.cons (.refl _) (.cons ?_ (VkL.refl _))))
  ·refine pI func61 rfl ntmps61 results61 call61 ?_
   (refine wkvp (w_1 l0) (w_3 (Zqz m zo) cn Zwa) (w_s ?_);intros)
   simp (disch:=omega) only [go_sem]
  ·show Vk _ (.sl 1 (u16s (toL 0)));rw [Zav];exact .nil 1
 ·have hzp:=Zbl.2 (ZBi hz0);by_cases hm1:m=1
  ·subst hm1;rw [Nat.gcd_one_right,ZCv,ZCv];refine pI func61 rfl ntmps61 results61 call61 ?_
   (refine wkvp w_t (w_3 (Zqz 1 zo) cn c1) (w_s ?_);intros)
   simp (disch:=omega) only [go_sem]
  ·have d1:decide (m=1)=false:=Zy2 hm1;rw [d1] at c1;by_cases hg1:Nat.gcd z.natAbs m=1
   ·have d2:decide (Nat.gcd z.natAbs m=1)=true:=Zy6 hg1;rw [d2] at c2;rw [hg1,ZCv,ZCv];refine pI func61 rfl ntmps61 results61 call61 ?_
    (refine wkvp w_t (w_5 (Zqz m zo) cn c1 cg c2) (w_s ?_);intros)
    simp (disch:=omega) only [go_sem]
   ·have d2:decide (Nat.gcd z.natAbs m=1)=false:=Zy2 hg1;rw [d2] at c2;refine pI func61 rfl ntmps61 results61 call61 ?_
    (refine wkad w_t (w_7 (Zqz m zo) cn c1 cg c2 (Zq0 z.natAbs (Nat.gcd z.natAbs m) zo zo g0) (Zq0 m (Nat.gcd z.natAbs m) zo zo g0)) w_t (w_s ?_);intros)
    simp (disch:=omega) only [go_sem]
theorem Zwf (z w:Int) (hz:(toL z.natAbs).length≤100000000000) (hw:(toL w.natAbs).length≤100000000000) (h0:w≠0):Pure prog 57 [intZ z,intZ w] (.tup [ratQ (Rat.divInt z w),.v (.int .i64 0)]):=by
 have e:Rat.divInt z w=mkRat (zI (decide (z < 0) != decide (w < 0)) z.natAbs) w.natAbs:=by
  have ez:=Zb6 z;unfold zI at ez ⊢;rcases (by omega:w < 0∨0 < w) with h | h
  ·rw [Zy6 h];have hw1:w=-((w.natAbs:Nat):Int):=zo;rw [show Rat.divInt z w=Rat.divInt z (-((w.natAbs:Nat):Int)) by rw [←hw1],Rat.divInt_neg',Rat.divInt_ofNat];congr 1;by_cases h1:z < 0
   ·simp only [Zy6 h1,bne_self_eq_false,Zzf,Zzp];omega
   ·simp only [Zy2 h1,Bool.false_bne,Zzt];omega
  ·rw [Zy2 (by omega:¬w < 0)];have hw1:w=((w.natAbs:Nat):Int):=zo;rw [show Rat.divInt z w=Rat.divInt z ((w.natAbs:Nat):Int) by rw [←hw1],Rat.divInt_ofNat];congr 1;by_cases h1:z < 0
   ·simp only [Zy6 h1,Bool.bne_false,Zzt];omega
   ·simp only [Zy2 h1,bne_self_eq_false,Zzf,Zzp];omega
 have c:=Zg7 (decide (z < 0) != decide (w < 0)) z.natAbs w.natAbs hz hw zo;rw [←e] at c;have cs:=iSign w zo;have hs:w.sign≠0:=λh=>h0 (Int.sign_eq_zero_iff_zero.1 h);refine pI func57 rfl ntmps57 results57 call57 ?_;have hne (a b:Bool):(!(a == b))=(a != b):=rfl
 (refine wkvp (w_1 hne) (w_2 cs c) (w_s ?_);intros)
 simp (disch:=omega) only [go_sem]
theorem ratMake0 (z w:Int) (hw:w=0):Pure prog 57 [intZ z,intZ w] (.tup [.agg [.v (.bool false),.v (.slice none 0 0),.v (.slice none 0 0)],.v (.int .i64 3)]):=by
 subst hw;have cs:=iSign 0 (by show(toL 0).length≤_;rw [Zav];simp);have hs:Int.sign 0=0:=rfl;rw [hs] at cs;have cs:Pure prog 100 [.agg [.v (.bool false),lim (toL (Int.natAbs 0))]] (.v (.int .i64 0)):=cs;refine pI func57 rfl ntmps57 results57 call57 ?_
 (refine wkvp w_t (w_1 cs) (w_s ?_);intros)
 simp (disch:=omega) only [go_sem]
theorem Zwc (q:Rat) {k:Nat} (h:Sz q k) (hk:k≤100000000000):Pure prog 98 [ratQ q] (.v (.int .i64 q.num.sign)):=by
 have h1:=h.1;refine pI func98 rfl ntmps98 results98 call98 ?_
 (refine wkvp w_t (w_2 (Zdq q h hk) (iSign q.num zo)) (w_s ?_);intros)
 simp (disch:=omega) only [go_sem]
theorem ratFloor (q:Rat) {k:Nat} (h:Sz q k) (hk:k≤100000000000):Pure prog 67 [ratQ q] (intZ q.floor):=by
 have h1:=h.1;have h2:=h.2;have cd:=iDivMod q.num q.den zo zo q.den_nz;rw [Rat.floor_def];generalize q.num/(q.den:Int)=fz at *;generalize q.num%(q.den:Int)=fr at *;refine pI func67 rfl ntmps67 results67 call67 ?_
 (repeat' (first|(with_reducible first|refine stp ?_|apply gx1|apply gx2|apply gx3|apply gx4|apply gx5|apply gx6|apply gx7|apply gy8|apply gz2|apply gz3|refine gw0 (Zdq q h hk) ?_ ?_|refine gw3 (Zdq q h hk) ?_ ?_ ?_|refine gw0 (Zd6 q.den) ?_ ?_|refine gw3 (Zd6 q.den) ?_ ?_ ?_|refine gw0 (cd) ?_ ?_|refine gw3 (cd) ?_ ?_ ?_)|(with_reducible refine Zch ?_;intro _)|((with_reducible refine gE ?_);(try simp (disch:=omega) only [go_sem])<;>first|rfl|omega)|with_reducible refine Zai zd ?_|((with_reducible apply gy1);iterate 3 focus rfl)|((with_reducible apply gy2);iterate 3 focus rfl)|((with_reducible apply gy3);iterate 2 focus rfl)|((with_reducible apply gy4);iterate 1 focus rfl)|((with_reducible apply gy5);iterate 4 focus rfl)|((with_reducible apply gy5c);iterate 4 focus rfl)|((with_reducible apply gy6);iterate 4 focus rfl)|((with_reducible apply Zf0);iterate 3 focus rfl)|((with_reducible apply Zfu);iterate 1 focus rfl)|((with_reducible apply gy7);iterate 1 focus rfl)|((with_reducible apply gy9);(focus ((with_reducible refine gE ?_);(try simp (disch:=omega) only [go_sem])<;>rfl)))|((with_reducible apply gz1);(focus first|rfl|(simp (disch:=omega) only [go_sem];done)))|((with_reducible apply Zas (Zbu [(2,intA false q.den),(3,.tup [intZ fz,intZ fr,.v (.int .i64 0)])]) [] [5,6]);(focus kernel_rfl);(focus rfl);(focus kernel_rfl);(focus (simp only [Zze,Zzi,Nat.reduceAdd];rfl)))))
 simp (disch:=omega) only [go_sem]
theorem Zwb (s t:Bool) (n m:Nat) (hn:(toL n).length≤1000000000000) (hm:(toL m).length≤1000000000000):Pure prog 62 [.sl 2 [intA s n,intA t m]] (intZ (zI s n+zI t m)):=by
 have cz:=iAdd0 s n hn;have ca:=iAddA (zI s n) t m (by rw [Zd8];exact hn) hm;generalize zI s n=z at *;generalize zI t m=w at *;refine pI func62 rfl ntmps62 results62 call62 ?_
 (refine wkvp w_t w_t (w_s ?_);intros)
 refine Zab (ι:=Nat) (λk e mm=>k≤2∧e 6=.sl 2 [intA s n,intA t m]∧e 7=.v (.int .i64 2)∧e 8=.v (.int .i64 (k:Int))∧∃g2 g,e 2=.pbox 2 g2 0∧mm 2=some (.box g2 26 [.v (.bool false),.v (.slice none 0 0)] false)∧e 3=.pbox 3 g 0∧mm 3=some (.box g 26 (sumC z w k) false)) (λk=>2 - k) 0 zr ?_ ?_
 ·rintro k e mm ⟨hk,e6,e7,e8,g2,g,e2,m2,e3,m3⟩
  match k,hk with
  | 0,_ =>
    simp only [sumC] at m3
    (refine wkvp (w_8 e6 e7 e8 e2 m2 e3 m3 @ZBs) (w_1 cz) (w_s ?_);intros)
    exact⟨1,⟨zo,gW e6,gW e7,gW e8,g2,g,gW e2,gW m2,gW e3,by(simp (disch:=omega) only [go_sem,m3,sumC]<;>repeat' first|rfl|refine⟨?_,?_⟩)⟩,zo⟩
  | 1,_ =>
    simp only [sumC] at m3
    (refine wkvp (w_8 e6 e7 e8 e2 m2 e3 m3 @Int.natCast_one) (w_1 ca) (w_s ?_);intros)
    exact⟨2,⟨zo,gW e6,gW e7,gW e8,g2,g,gW e2,gW m2,gW e3,by(simp (disch:=omega) only [go_sem,m3,sumC]<;>repeat' first|rfl|refine⟨?_,?_⟩)⟩,zo⟩
  | 2,_ =>
    simp only [sumC] at m3
    (refine wkvp (w_7 e6 e7 e8 e2 m2 e3 m3) w_t (w_s ?_);intros)
    simp (disch:=omega) only [go_sem,e2]
 ·exact⟨zo,gC,gC,gC,_,_,gC,gC,gC,by(simp (disch:=omega) only [go_sem,sumC]<;>repeat' first|rfl|refine⟨?_,?_⟩)⟩
theorem ratSum (z w:Int) (hz:(toL z.natAbs).length≤1000000000000) (hw:(toL w.natAbs).length≤1000000000000):Pure prog 62 [.sl 2 [intZ z,intZ w]] (intZ (z+w)):=by
 have:=Zwb (decide (z < 0)) (decide (w < 0)) z.natAbs w.natAbs hz hw
 rwa [Zb6,Zb6] at this
theorem Zwd (n:Nat) (hn:n < 9223372036854775808):Pure prog 29 [.v (.int .i64 (n:Int))] (ratQ (n:Rat)):=by
 refine pI func29 rfl ntmps29 results29 call29 ?_;have hd:decide ((n:Rat).num < 0)=false:=Zy2 (by show ¬((n:Int) < 0);omega);have hn':(n:Rat).num.natAbs=n:=ZBr n;unfold ratQ;rw [hd,hn',Rat.den_natCast]
 (refine wkvp w_t (w_2 (intOf n hn) Zwa) (w_s ?_);intros)
 simp (disch:=omega) only [go_sem]
theorem Zwe (a b:Rat) {j k:Nat} (ha:Sz a j) (hb:Sz b k) (hj:j≤20000000000) (hk:k≤20000000000):Pure prog 30 [ratQ a,ratQ b] (ratQ (a*b)):=by
 obtain⟨a1,a2⟩:=id ha;obtain⟨b1,b2⟩:=id hb;have l1:(toL (a.num*b.num).natAbs).length≤j+k:=by rw [ZBm];exact Zzg (Zfw _ _) zo
 have l2:(toL (a.den*b.den)).length≤j+k:=Zzg (Zfw _ _) zo;have c:=Zg7 (decide (a.num*b.num < 0)) (a.num*b.num).natAbs (a.den*b.den) zo zo (ZCy a.den_nz b.den_nz);rw [Zb6,←Rat.mul_def'] at c;refine pI func30 rfl ntmps30 results30 call30 ?_
 (refine wkvp w_t (w_5 (Zdq a ha zo) (Zdq b hb zo) (iMul a.num b.num zo zo) (nMul a.den b.den zo zo) c) (w_s ?_);intros)
 simp (disch:=omega) only [go_sem]
theorem Zwj (s t:Bool) (n d m c:Nat) {j k:Nat} (a1:(toL n).length≤j) (a2:(toL d).length≤j) (b1:(toL m).length≤k) (b2:(toL c).length≤k) (hd0:d≠0) (hc0:c≠0) (hj:j≤20000000000) (hk:k≤20000000000) :
 Pure prog 28 [ratA s n d,ratA t m c] (ratQ (mkRat (zI s n) d+mkRat (zI t m) c)):=by
 have oa:=Zl7 d zo;have ob:=Zl7 c zo;have l2:(toL (d*c)).length≤j+k:=Zzg (Zfw _ _) zo;have z1:=Zd8 s n;have w1:=Zd8 t m;have pa:=Zkq s n d zo hd0;have pb:=Zkq t m c zo hc0;have eq:mkRat (zI s n) d+mkRat (zI t m) c=mkRat (zI s n*c+zI t m*d) (d*c):=Rat.mkRat_add_mkRat _ _ hd0 hc0;have cs0:=Zwb s t n m zo zo;have cm1:Pure prog 63 [intA s n,intA false c] (intZ (zI s n*c)):=Zsv s false n c zo zo;have cm2:Pure prog 63 [intA t m,intA false d] (intZ (zI t m*d)):=Zsv t false m d zo zo;rw [eq]
 have x1:(toL (zI s n*c).natAbs).length≤j+k:=by
  rw [ZBm,ZBr,z1];exact Zzg (Zfw _ _) zo
 have x2:(toL (zI t m*d).natAbs).length≤j+k:=by
  rw [ZBm,ZBr,w1];exact Zzg (Zfw _ _) zo
 by_cases h1:d=1∧c=1
 ·obtain⟨h1,h2⟩:=h1
  have l1:(toL (zI s n+zI t m).natAbs).length≤j+k+1:=by
   have h3:=Zd2 (Zer (zI s n) (zI t m));have h4:=Zpg (zI s n).natAbs (zI t m).natAbs;rw [z1,w1] at h3 h4;omega
  have c:=Zg7 (decide (zI s n+zI t m < 0)) (zI s n+zI t m).natAbs 1 zo (by rw [Zhs];omega) zo;rw [Zb6] at c;subst h1;subst h2;rw [Zy6 rfl] at oa ob;have e1:zI s n*((1:Nat):Int)+zI t m*((1:Nat):Int)=zI s n+zI t m:=zo;rw [e1,ZCb];refine pI func28 rfl ntmps28 results28 call28 ?_
  (refine wkax w_t (w_5 pa pb oa ob c) w_t (w_1 cs0) w_t w_t w_y (w_r 0) (w_s ?_);intros)
  simp (disch:=omega) only [go_sem]
 ·have l1:(toL (zI s n*c+zI t m*d).natAbs).length≤j+k+1:=by
   have h3:=Zd2 (Zer (zI s n*c) (zI t m*d));have h4:=Zpg (zI s n*c).natAbs (zI t m*d).natAbs;omega
  have cr:=Zg7 (decide (zI s n*c+zI t m*d < 0)) (zI s n*c+zI t m*d).natAbs (d*c) zo zo (ZCy hd0 hc0);rw [Zb6] at cr;have cs:=ratSum (zI s n*c) (zI t m*d) zo zo;have cw1:=Zd6 c;have cw2:=Zd6 d;have cm:=nMul d c zo zo;generalize zI s n*(c:Int)=y1 at *;generalize zI t m*(d:Int)=y2 at *;by_cases h2:d=1
  ·have h3:c≠1:=λh=>h1 ⟨h2,h⟩;rw [Zy6 h2] at oa;rw [Zy2 h3] at ob;refine pI func28 rfl ntmps28 results28 call28 ?_
   (refine wkax w_t (w_11 pa pb oa ob cw1 cm1 cw2 cm2 cs cm cr) (w_1 (w_d 5 [(2,intA false c),(3,intZ y1),(6,intA false d),(7,intZ y2),(8,.sl 2 [intZ y1,intZ y2]),(9,intZ (y1+y2)),(12,lim (toL (d*c))),(13,ratQ (mkRat (y1+y2) (d*c)))] [] [4])) w_t w_t w_t w_y (w_r 0) (w_s ?_);intros)
   simp (disch:=omega) only [go_sem]
  ·rw [Zy2 h2] at oa;refine pI func28 rfl ntmps28 results28 call28 ?_
   (refine wkax w_t (w_10 pa pb oa cw1 cm1 cw2 cm2 cs cm cr) (w_1 (w_d 5 [(2,intA false c),(3,intZ y1),(6,intA false d),(7,intZ y2),(8,.sl 2 [intZ y1,intZ y2]),(9,intZ (y1+y2)),(12,lim (toL (d*c))),(13,ratQ (mkRat (y1+y2) (d*c)))] [] [4])) w_t w_t w_t w_y (w_r 0) (w_s ?_);intros)
   simp (disch:=omega) only [go_sem]
theorem Zr9 (a b:Rat) {j k:Nat} (ha:Sz a j) (hb:Sz b k) (hj:j≤20000000000) (hk:k≤20000000000):Pure prog 28 [ratQ a,ratQ b] (ratQ (a+b)):=by
 have:=Zwj (decide (a.num < 0)) (decide (b.num < 0)) a.num.natAbs a.den b.num.natAbs b.den ha.1 ha.2 hb.1 hb.2 a.den_nz b.den_nz hj hk
 rwa [Zb6,Zb6,ZDd,ZDd] at this
theorem Zoo (a b:Rat) {j k:Nat} (ha:Sz a j) (hb:Sz b k) (hj:j≤20000000000) (hk:k≤20000000000):Pure prog 26 [ratQ a,ratQ b] (ratQ (a - b)):=by
 have c:=Zwj (decide (a.num < 0)) (!decide (b.num < 0)) a.num.natAbs a.den b.num.natAbs b.den ha.1 ha.2 hb.1 hb.2 a.den_nz b.den_nz hj hk
 have e:zI (!decide (b.num < 0)) b.num.natAbs=-b.num:=by
  have:=Zb6 b.num;unfold zI at *;by_cases h:b.num < 0
  ·simp only [Zy6 h,ZCm,Zzf,Zzp];omega
  ·simp only [Zy2 h,ZCw,Zzt];omega
 have e2:mkRat (-b.num) b.den=-b:=by rw [←Rat.neg_mkRat,ZDd]
 rw [Zb6,e,ZDd,e2,←Rat.sub_eq_add_neg] at c;refine pI func26 rfl ntmps26 results26 call26 ?_
 (refine wkvp w_t (w_1 c) (w_s ?_);intros)
 simp (disch:=omega) only [go_sem]
theorem Zwi (a b:Rat) {j k:Nat} (ha:Sz a j) (hb:Sz b k) (hj:j≤20000000000) (hk:k≤20000000000):Pure prog 55 [ratQ a,ratQ b] (.v (.int .i64 (cmpQ a b))):=by
 obtain⟨a1,a2⟩:=id ha;obtain⟨b1,b2⟩:=id hb;have sa:=Zwc a ha zo;have sb:=Zwc b hb zo;have pa:=Zdq a ha zo;have pb:=Zdq b hb zo;have cm1:=Zuj a.num b.den zo zo;have cm2:=Zuj b.num a.den zo zo;have x1:(toL (a.num*b.den).natAbs).length≤j+k:=Zd7 a b ha hb;have x2:(toL (b.num*a.den).natAbs).length≤k+j:=Zd7 b a hb ha;have cc:=iCmp (a.num*b.den) (b.num*a.den) zo zo;have cw1:=Zd6 b.den;have cw2:=Zd6 a.den;have dp:(0:Int) < a.den:=by have:=a.den_pos;omega
 have ep:(0:Int) < b.den:=by have:=b.den_pos;omega
 rw [cmpQ_z]
 have sg:∀z:Int,(z.sign=1∧0 < z)∨(z.sign=0∧z=0)∨(z.sign=-1∧z < 0):=by
  intro z;rcases ZB7 z 0 with h | h | h
  ·exact .inr (.inr ⟨ZCh h,h⟩)
  ·exact .inr (.inl ⟨by rw [h];rfl,h⟩)
  ·exact .inl ⟨ZDo h,h⟩
 have mp:∀z w:Int,0 < z→0 < w→0 < z*w:=λz w=>Int.mul_pos;have mz:∀w:Int,0*w=0:=λw=>Int.zero_mul w;have mn:∀z w:Int,z < 0→0 < w→z*w < 0:=λz w=>Int.mul_neg_of_neg_of_pos
 have sA:(a.num.sign=1→0 < a.num*b.den)∧(a.num.sign=0→a.num*b.den=0)∧(a.num.sign=-1→a.num*b.den < 0):=by
  rcases sg a.num with⟨h,h'⟩ | ⟨h,h'⟩ | ⟨h,h'⟩
  ·exact⟨λ_=>mp _ _ h' ep,λh2=>zo,λh2=>zo⟩
  ·exact⟨λh2=>zo,λ_=>(by rw [h'];exact mz _),λh2=>zo⟩
  ·exact⟨λh2=>zo,λh2=>zo,λ_=>mn _ _ h' ep⟩
 have sB:(b.num.sign=1→0 < b.num*a.den)∧(b.num.sign=0→b.num*a.den=0)∧(b.num.sign=-1→b.num*a.den < 0):=by
  rcases sg b.num with⟨h,h'⟩ | ⟨h,h'⟩ | ⟨h,h'⟩
  ·exact⟨λ_=>mp _ _ h' dp,λh2=>zo,λh2=>zo⟩
  ·exact⟨λh2=>zo,λ_=>(by rw [h'];exact mz _),λh2=>zo⟩
  ·exact⟨λh2=>zo,λh2=>zo,λ_=>mn _ _ h' dp⟩
 have ga:=sg a.num;have gb:=sg b.num;generalize a.num*(b.den:Int)=y1 at *;generalize b.num*(a.den:Int)=y2 at *;rcases ZB7 a.num.sign b.num.sign with h | h | h
 ·have hc:cmpZ y1 y2=-1:=by
   unfold cmpZ;rw [Zy1 zo]
  rw [hc];clear ga gb sA sB;refine pI func55 rfl ntmps55 results55 call55 ?_
  (refine wkad w_t (w_2 sa sb) (w_1 (w_d 1 [(1,.v (.int .i64 a.num.sign)),(3,.v (.int .i64 b.num.sign))] [] [])) (w_s ?_);intros)
  simp (disch:=omega) only [go_sem]
 ·refine pI func55 rfl ntmps55 results55 call55 ?_
  (refine wkvp w_t (w_2 sa sb) (w_s ?_);intros)
  apply Zas (Zbu [(1,.v (.int .i64 a.num.sign)),(3,.v (.int .i64 b.num.sign))]) [] [] zk zr zk;(focus (simp only [Zze,Zzi,Nat.reduceAdd];rfl))
  (refine wkax w_t (w_4 sa sb pa pb) w_t w_t w_t w_t w_t (w_r 0) (w_s ?_);intros)
  apply Zas (Zbu [(2,intA false b.den),(3,intZ y1),(6,intA false a.den),(7,intZ y2),(8,.v (.int .i64 (cmpZ y1 y2)))]) [] [] zk zr zk;(focus (simp only [Zze,Zzi,Nat.reduceAdd];rfl))
  (refine wkax w_t (w_5 cw1 cm1 cw2 cm2 cc) w_t w_t w_t w_t w_t (w_r 0) (w_s ?_);intros)
  simp (disch:=omega) only [go_sem]
 ·have hc:cmpZ y1 y2=1:=by
   unfold cmpZ;rw [Zy0 zo,Zy1 zo]
  rw [hc];clear ga gb sA sB;refine pI func55 rfl ntmps55 results55 call55 ?_
  (refine wkad w_t (w_2 sa sb) (w_1 (w_d 1 [(1,.v (.int .i64 a.num.sign)),(3,.v (.int .i64 b.num.sign))] [] [])) (w_s ?_);intros)
  simp (disch:=omega) only [go_sem]
theorem Zwh (a b:Rat) {j k:Nat} (ha:Sz a j) (hb:Sz b k) (hj:j≤20000000000) (hk:k≤20000000000) (h0:b≠0):Pure prog 56 [ratQ a,ratQ b] (.tup [ratQ (a/b),.v (.int .i64 0)]):=by
 obtain⟨a1,a2⟩:=id ha;obtain⟨b1,b2⟩:=id hb;have pa:=Zdq a ha zo;have pb:=Zdq b hb zo;have cm1:=Zuj a.num b.den zo zo;have cm2:=Zuj b.num a.den zo zo;have x1:(toL (a.num*b.den).natAbs).length≤j+k:=Zd7 a b ha hb;have x2:(toL (b.num*a.den).natAbs).length≤k+j:=Zd7 b a hb ha;have hb0:b.num≠0:=λe=>h0 (Rat.num_eq_zero.1 e);have hd0:(a.den:Int)≠0:=by have:=a.den_nz;omega
 have hw0:b.num*(a.den:Int)≠0:=Int.mul_ne_zero hb0 hd0;have cM:=Zwf (a.num*b.den) (b.num*a.den) zo zo hw0
 have e:Rat.divInt (a.num*b.den) (b.num*a.den)=a/b:=by
  rw [Rat.div_def,Rat.inv_def];have h1:a=Rat.divInt a.num a.den:=(Rat.num_divInt_den a).symm;rw [show a*Rat.divInt (b.den:Int) b.num=Rat.divInt a.num a.den*Rat.divInt (b.den:Int) b.num by rw [←h1],Rat.divInt_mul_divInt,Int.mul_comm b.num]
 rw [e] at cM;have cw1:=Zd6 b.den;have cw2:=Zd6 a.den;generalize a/b=q at *;generalize a.num*(b.den:Int)=y1 at *;generalize b.num*(a.den:Int)=y2 at *;refine pI func56 rfl ntmps56 results56 call56 ?_
 (repeat' (first|(with_reducible first|refine stp ?_|apply gx1|apply gx2|apply gx3|apply gx4|apply gx5|apply gx6|apply gx7|apply gy8|apply gz2|apply gz3|refine gw0 (pa) ?_ ?_|refine gw3 (pa) ?_ ?_ ?_|refine gw0 (pb) ?_ ?_|refine gw3 (pb) ?_ ?_ ?_|refine gw0 (cw1) ?_ ?_|refine gw3 (cw1) ?_ ?_ ?_|refine gw0 (cm1) ?_ ?_|refine gw3 (cm1) ?_ ?_ ?_|refine gw0 (cw2) ?_ ?_|refine gw3 (cw2) ?_ ?_ ?_|refine gw0 (cm2) ?_ ?_|refine gw3 (cm2) ?_ ?_ ?_|refine gw0 (cM) ?_ ?_|refine gw3 (cM) ?_ ?_ ?_)|(with_reducible refine Zch ?_;intro _)|((with_reducible refine gE ?_);(try simp (disch:=omega) only [go_sem])<;>first|rfl|omega)|with_reducible refine Zai zd ?_|((with_reducible apply gy1);iterate 3 focus rfl)|((with_reducible apply gy2);iterate 3 focus rfl)|((with_reducible apply gy3);iterate 2 focus rfl)|((with_reducible apply gy4);iterate 1 focus rfl)|((with_reducible apply gy5);iterate 4 focus rfl)|((with_reducible apply gy5c);iterate 4 focus rfl)|((with_reducible apply gy6);iterate 4 focus rfl)|((with_reducible apply Zf0);iterate 3 focus rfl)|((with_reducible apply Zfu);iterate 1 focus rfl)|((with_reducible apply gy7);iterate 1 focus rfl)|((with_reducible apply gy9);(focus ((with_reducible refine gE ?_);(try simp (disch:=omega) only [go_sem])<;>rfl)))|((with_reducible apply gz1);(focus first|rfl|(simp (disch:=omega) only [go_sem];done)))|((with_reducible apply Zas (Zbu [(2,intA false b.den),(3,intZ y1),(6,intA false a.den),(7,intZ y2),(8,.tup [ratQ q,.v (.int .i64 0)])]) [] [4]);(focus kernel_rfl);(focus rfl);(focus kernel_rfl);(focus (simp only [Zze,Zzi,Nat.reduceAdd];rfl)))))
 simp (disch:=omega) only [go_sem]
theorem Zqn (a b:Rat) {j k:Nat} (ha:Sz a j) (hb:Sz b k) (hj:j≤20000000000) (hk:k≤20000000000) (h0:b=0):Pure prog 56 [ratQ a,ratQ b] (.tup [.agg [.v (.bool false),.v (.slice none 0 0),.v (.slice none 0 0)],.v (.int .i64 3)]):=by
 obtain⟨a1,a2⟩:=id ha;obtain⟨b1,b2⟩:=id hb;have pa:=Zdq a ha zo;have pb:=Zdq b hb zo;have cm1:=Zuj a.num b.den zo zo;have cm2:=Zuj b.num a.den zo zo;have e0:b.num*(a.den:Int)=0:=by rw [h0,Rat.zero_num,Int.zero_mul]
 have cM:=ratMake0 (a.num*b.den) (b.num*a.den) e0;have cw1:=Zd6 b.den;have cw2:=Zd6 a.den;clear h0 e0;generalize a.num*(b.den:Int)=y1 at *;generalize b.num*(a.den:Int)=y2 at *;refine pI func56 rfl ntmps56 results56 call56 ?_
 (repeat' (first|(with_reducible first|refine stp ?_|apply gx1|apply gx2|apply gx3|apply gx4|apply gx5|apply gx6|apply gx7|apply gy8|apply gz2|apply gz3|refine gw0 (pa) ?_ ?_|refine gw3 (pa) ?_ ?_ ?_|refine gw0 (pb) ?_ ?_|refine gw3 (pb) ?_ ?_ ?_|refine gw0 (cw1) ?_ ?_|refine gw3 (cw1) ?_ ?_ ?_|refine gw0 (cm1) ?_ ?_|refine gw3 (cm1) ?_ ?_ ?_|refine gw0 (cw2) ?_ ?_|refine gw3 (cw2) ?_ ?_ ?_|refine gw0 (cm2) ?_ ?_|refine gw3 (cm2) ?_ ?_ ?_|refine gw0 (cM) ?_ ?_|refine gw3 (cM) ?_ ?_ ?_)|(with_reducible refine Zch ?_;intro _)|((with_reducible refine gE ?_);(try simp (disch:=omega) only [go_sem])<;>first|rfl|omega)|with_reducible refine Zai zd ?_|((with_reducible apply gy1);iterate 3 focus rfl)|((with_reducible apply gy2);iterate 3 focus rfl)|((with_reducible apply gy3);iterate 2 focus rfl)|((with_reducible apply gy4);iterate 1 focus rfl)|((with_reducible apply gy5);iterate 4 focus rfl)|((with_reducible apply gy5c);iterate 4 focus rfl)|((with_reducible apply gy6);iterate 4 focus rfl)|((with_reducible apply Zf0);iterate 3 focus rfl)|((with_reducible apply Zfu);iterate 1 focus rfl)|((with_reducible apply gy7);iterate 1 focus rfl)|((with_reducible apply gy9);(focus ((with_reducible refine gE ?_);(try simp (disch:=omega) only [go_sem])<;>rfl)))|((with_reducible apply gz1);(focus first|rfl|(simp (disch:=omega) only [go_sem];done)))|((with_reducible apply Zas (Zbu [(2,intA false b.den),(3,intZ y1),(6,intA false a.den),(7,intZ y2),(8,.tup [.agg [.v (.bool false),.v (.slice none 0 0),.v (.slice none 0 0)],.v (.int .i64 3)])]) [] [4]);(focus kernel_rfl);(focus rfl);(focus kernel_rfl);(focus (simp only [Zze,Zzi,Nat.reduceAdd];rfl)))))
 simp (disch:=omega) only [go_sem]
theorem Zip {z:Int} (h:z < 0):intZ z=intA true z.natAbs:=by unfold intZ;rw [Zy6 h]
theorem Zhb {z:Int} (h:¬z < 0):intZ z=intA false z.natAbs:=by unfold intZ;rw [Zy2 h]
theorem zOf' (s:Bool) (n:Nat) (hn:(toL n).length≤1000000000000):Pure prog 84 [.v (.bool s),lim (toL n)] (intZ (zI s n)):=by
 rw [Zf9];have hp:=@Zbl n;cases s
 ·refine pI func84 rfl ntmps84 results84 call84 ?_
  (refine wkvp w_t (w_1 (rNorm n hn)) (w_s ?_);intros)
  simp (disch:=omega) only [go_sem,Zzr]
 ·by_cases h:0 < n
  ·have h2:=hp.2 h;refine pI func84 rfl ntmps84 results84 call84 ?_
   (refine wkvp w_t (w_1 (rNorm n hn)) (w_s ?_);intros)
   simp (disch:=omega) only [go_sem,Zy6 h]
  ·have h2:¬0 < (toL n).length:=λh3=>h (hp.1 h3);refine pI func84 rfl ntmps84 results84 call84 ?_
   (refine wkvp w_t (w_1 (rNorm n hn)) (w_s ?_);intros)
   simp (disch:=omega) only [go_sem,Zy2 h]
theorem zNorm (s:Bool) (n:Nat) (hn:(toL n).length≤1000000000000):Pure prog 45 [intA s n] (intZ (zI s n)):=by
 refine pI func45 rfl ntmps45 results45 call45 ?_
 (refine wkvp w_t (w_1 (zOf' s n hn)) (w_s ?_);intros)
 simp (disch:=omega) only [go_sem]
theorem Zu2 (z:Int) (hz:(toL z.natAbs).length≤1000000000000):Pure prog 45 [intZ z] (intZ z):=by
 have:=zNorm (decide (z < 0)) z.natAbs hz
 rwa [Zb6] at this
theorem zOf (n:Nat) (hn:n < 9223372036854775808):Pure prog 85 [.v (.int .i64 (n:Int))] (intA false n):=by
 have l4:(toL n).length≤4:=Zaf.2 zo;have hm:=zOf' false n zo;rw [Zf9,Zzr] at hm;refine pI func85 rfl ntmps85 results85 call85 ?_
 (refine wkvp w_t (w_2 (Zjv n zo) hm) (w_s ?_);intros)
 simp (disch:=omega) only [go_sem]
theorem zSign (z:Int) (hz:(toL z.natAbs).length≤1000000000000):Pure prog 17 [intZ z] (.v (.int .i64 z.sign)):=by
 have cn:=Zu2 z hz;have hp:=@Zbl z.natAbs;rcases ZB7 z 0 with h | h | h
 ·rw [ZCh h];have h2:=hp.2 zo;rw [Zip h] at cn ⊢;refine pI func17 rfl ntmps17 results17 call17 ?_
  (refine wkvp w_t (w_1 cn) (w_s ?_);intros)
  simp (disch:=omega) only [go_sem]
 ·have h2:¬0 < (toL z.natAbs).length:=λh3=>by have:=hp.1 h3;omega
  have hs:z.sign=0:=by rw [h];rfl
  rw [hs];rw [Zhb zo] at cn ⊢;refine pI func17 rfl ntmps17 results17 call17 ?_
  (refine wkvp w_t (w_1 cn) (w_s ?_);intros)
  simp (disch:=omega) only [go_sem]
 ·rw [ZDo h];have h2:=hp.2 zo;rw [Zhb zo] at cn ⊢;refine pI func17 rfl ntmps17 results17 call17 ?_
  (refine wkvp w_t (w_1 cn) (w_s ?_);intros)
  simp (disch:=omega) only [go_sem]
theorem zCmp (z w:Int) (hz:(toL z.natAbs).length≤1000000000000) (hw:(toL w.natAbs).length≤1000000000000):Pure prog 126 [intZ z,intZ w] (.v (.int .i64 (cmpZ z w))):=by
 have c1:=Zu2 z hz;have c2:=Zu2 w hw;have ca:=rCmp z.natAbs w.natAbs hz hw;have cb:=rCmp w.natAbs z.natAbs hw hz;by_cases h1:z < 0
 ·by_cases h2:w < 0
  ·have hc:cmpZ z w=cmpN w.natAbs z.natAbs:=by
    unfold cmpZ cmpN;have e1:(z < w)↔(w.natAbs < z.natAbs):=zo;have e2:(w < z)↔(z.natAbs < w.natAbs):=zo;simp only [e1,e2]
   rw [hc];rw [Zip h1] at c1 ⊢;rw [Zip h2] at c2 ⊢;refine pI func126 rfl ntmps126 results126 call126 ?_
   (refine wkad w_t (w_3 c1 c2 cb) (w_1 (w_d 1 [(1,.agg [.v (.bool true),lim (toL z.natAbs)]),(3,.agg [.v (.bool true),lim (toL w.natAbs)])] [4,5] [])) (w_s ?_);intros)
   simp (disch:=omega) only [go_sem]
  ·have hc:cmpZ z w=-1:=Zy1 zo;rw [hc];rw [Zip h1] at c1 ⊢;rw [Zhb h2] at c2 ⊢;refine pI func126 rfl ntmps126 results126 call126 ?_
   (refine wkad w_t (w_2 c1 c2) (w_1 (w_d 1 [(1,.agg [.v (.bool true),lim (toL z.natAbs)]),(3,.agg [.v (.bool false),lim (toL w.natAbs)])] [4,5] [])) (w_s ?_);intros)
   simp (disch:=omega) only [go_sem]
 ·by_cases h2:w < 0
  ·have hc:cmpZ z w=1:=by unfold cmpZ;rw [Zy0 zo,Zy1 zo]
   rw [hc];rw [Zhb h1] at c1 ⊢;rw [Zip h2] at c2 ⊢;refine pI func126 rfl ntmps126 results126 call126 ?_
   (refine wkad w_t (w_2 c1 c2) (w_1 (w_d 1 [(1,.agg [.v (.bool false),lim (toL z.natAbs)]),(3,.agg [.v (.bool true),lim (toL w.natAbs)])] [4,5] [])) (w_s ?_);intros)
   simp (disch:=omega) only [go_sem]
  ·have hc:cmpZ z w=cmpN z.natAbs w.natAbs:=by
    unfold cmpZ cmpN;have e1:(z < w)↔(z.natAbs < w.natAbs):=zo;have e2:(w < z)↔(w.natAbs < z.natAbs):=zo;simp only [e1,e2]
   rw [hc];rw [Zhb h1] at c1 ⊢;rw [Zhb h2] at c2 ⊢;refine pI func126 rfl ntmps126 results126 call126 ?_
   (refine wkad w_t (w_3 c1 c2 ca) (w_1 (w_d 1 [(1,.agg [.v (.bool false),lim (toL z.natAbs)]),(3,.agg [.v (.bool false),lim (toL w.natAbs)])] [4,5] [])) (w_s ?_);intros)
   simp (disch:=omega) only [go_sem]
theorem zMul (s t:Bool) (n m:Nat) (hn:(toL n).length≤400000000000) (hm:(toL m).length≤400000000000):Pure prog 52 [intA s n,intA t m] (intZ (zI s n*zI t m)):=by
 have e:zI s n*zI t m=zI (s != t) (n*m):=by cases s<;>cases t<;>simp [zI,Int.mul_neg,Int.neg_mul]
 have lm:=Zfw n m;have hne:(!(s == t))=(s != t):=rfl;rw [e];refine pI func52 rfl ntmps52 results52 call52 ?_
 (refine wkad (w_1 hne) (w_2 (rMul n m zo zo) (zOf' (s != t) (n*m) zo)) (w_1 (w_d 1 [(9,lim (toL (n*m))),(10,intZ (zI (s != t) (n*m)))] [11] [])) (w_s ?_);intros)
 simp (disch:=omega) only [go_sem]
theorem zAdd (s t:Bool) (n m:Nat) (hn:(toL n).length≤400000000000) (hm:(toL m).length≤400000000000):Pure prog 51 [intA s n,intA t m] (intZ (zI s n+zI t m)):=by
 by_cases hst:s=t
 ·subst hst;have e:zI s n+zI s m=zI s (n+m):=by cases s<;>simp [zI]<;>omega
  have la:=Zpg n m;rw [e];have hb:(s == s)=true:=by cases s<;>rfl
  refine pI func51 rfl ntmps51 results51 call51 ?_
  (refine wkad (w_1 hb) (w_2 (rAdd n m zo zo) (zOf' s (n+m) zo)) (w_1 (w_d 2 [(6,lim (toL (n+m))),(7,intZ (zI s (n+m)))] [8] [])) (w_s ?_);intros)
  simp (disch:=omega) only [go_sem]
 ·have hb:(s == t)=false:=by cases s<;>cases t<;>first|rfl|exact absurd rfl hst
  have ht:t=!s:=by cases s<;>cases t<;>first|rfl|exact absurd rfl hst
  have c1:=rSub n m zo zo;have c2:=rSub m n zo zo;by_cases hlt:n < m
  ·have e:zI s n+zI t m=zI t (m - n):=by rw [ht];cases s<;>simp [zI]<;>omega
   have ls:(toL (m - n)).length≤1000000000000:=Zzg (Zd2 (Nat.sub_le _ _)) zo;rw [Zy1 hlt,Zy1 hlt] at c1;rw [Zy0 zo,Zy0 zo] at c2;rw [e];refine pI func51 rfl ntmps51 results51 call51 ?_
   (refine wkad (w_1 hb) (w_3 c1 c2 (zOf' t (m - n) ls)) w_t (w_s ?_);intros)
   simp (disch:=omega) only [go_sem]
  ·have e:zI s n+zI t m=zI s (n - m):=by rw [ht];cases s<;>simp [zI]<;>omega
   have ls:(toL (n - m)).length≤1000000000000:=Zzg (Zd2 (Nat.sub_le _ _)) zo;rw [Zy0 hlt,Zy0 hlt] at c1;rw [e];refine pI func51 rfl ntmps51 results51 call51 ?_
   (refine wkad (w_1 hb) (w_2 c1 (zOf' s (n - m) ls)) w_t (w_s ?_);intros)
   simp (disch:=omega) only [go_sem]
theorem gcd_le_l (n m:Nat) (h:m≠0):Nat.gcd n m≠0:=Nat.ne_of_gt (ZDv _ (ZBi h))
theorem intZ_div (s:Bool) (n g:Nat) (hg:g ∣ n) (h0:g≠0):intZ (zI s (n/g))=.agg [.v (.bool (decide (zI s n < 0))),lim (toL (n/g))]:=by
 rw [Zf9,zI_lt]
 have:(0 < n/g)↔(0 < n):=by
  obtain⟨k,rfl⟩:=hg;rw [Nat.mul_div_cancel_left _ (ZBi h0)];constructor
  ·intro h;exact Nat.mul_pos (ZBi h0) h
  ·intro h;exact ZBi λe=>by rw [e] at h;simp at h
 simp only [this]
theorem Zwn (s:Bool) (n m:Nat) (hn:(toL n).length≤100000000000) (hm:(toL m).length≤100000000000) (h0:m≠0):Pure prog 46 [intA s n,lim (toL m)] (ratQ (mkRat (zI s n) m)):=by
 rw [Zqm _ _ h0,Zd8];have g0:=gcd_le_l n m h0;have hgd:=Nat.gcd_dvd_left n m;have hmp:=Zbl.2 (ZBi h0);have hg:(toL (Nat.gcd n m)).length≤100000000000:=Zzg (Zd2 (Nat.le_of_dvd zo (Nat.gcd_dvd_right _ _))) hm;have hq:(toL (n/Nat.gcd n m)).length≤100000000000:=Zzg (Zd2 (ZDc _ _)) hn;have cg:=rGcd n m zo zo;have c1:=Zwl n (Nat.gcd n m) zo zo g0;have c2:=Zwl m (Nat.gcd n m) zo zo g0;have cn:=zNorm s (n/Nat.gcd n m) zo;rw [intZ_div s n _ hgd g0] at cn;refine pI func46 rfl ntmps46 results46 call46 ?_
 (refine wkvp w_t (w_5 (rNorm m zo) cg c1 c2 cn) (w_s ?_);intros)
 simp (disch:=omega) only [go_sem]
theorem Zt1 (q:Rat) {k:Nat} (h:Sz q k) (hk:k≤100000000000):Pure prog 18 [ratQ q] (ratQ q):=by
 have c:=Zwn (decide (q.num < 0)) q.num.natAbs q.den (Zzg h.1 hk) (Zzg h.2 hk) q.den_nz;rw [Zb6,ZDd] at c;refine pI func18 rfl ntmps18 results18 call18 ?_
 (refine wkvp w_t (w_1 c) (w_s ?_);intros)
 simp (disch:=omega) only [go_sem]
theorem Zsa (n:Nat):Pure prog 53 [lim (toL n)] (intA false n):=by
 refine pI func53 rfl ntmps53 results53 call53 ?_
 (refine wkvp w_t w_t (w_s ?_);intros)
 simp (disch:=omega) only [go_sem]
theorem qOf (n:Nat) (hn:n < 9223372036854775808):Pure prog 47 [.v (.int .i64 (n:Int))] (ratQ (n:Rat)):=by
 have l4:(toL n).length≤4:=Zaf.2 zo;have c:=Zwn false n 1 zo (by rw [Zhs];omega) zo
 have e:mkRat (zI false n) 1=(n:Rat):=by
  have:=ZDd (n:Rat);exact this
 rw [e] at c;refine pI func47 rfl ntmps47 results47 call47 ?_
 (refine wkvp w_t (w_3 (zOf n hn) (Zjv 1 zo) c) (w_s ?_);intros)
 simp (disch:=omega) only [go_sem]
theorem qMul (a b:Rat) {j k:Nat} (ha:Sz a j) (hb:Sz b k) (hj:j≤20000000000) (hk:k≤20000000000):Pure prog 22 [ratQ a,ratQ b] (ratQ (a*b)):=by
 obtain⟨a1,a2⟩:=id ha;obtain⟨b1,b2⟩:=id hb;have l1:(toL (a.num*b.num).natAbs).length≤j+k:=by rw [ZBm];exact Zzg (Zfw _ _) zo
 have l2:(toL (a.den*b.den)).length≤j+k:=Zzg (Zfw _ _) zo;have c:=Zwn (decide (a.num*b.num < 0)) (a.num*b.num).natAbs (a.den*b.den) zo zo (ZCy a.den_nz b.den_nz);rw [Zb6,←Rat.mul_def'] at c;have cz:=zMul (decide (a.num < 0)) (decide (b.num < 0)) a.num.natAbs b.num.natAbs zo zo;rw [Zb6,Zb6] at cz;have cd:=rMul a.den b.den zo zo;generalize a*b=q at *;generalize a.num*b.num=y at *;refine pI func22 rfl ntmps22 results22 call22 ?_
 (refine wkad w_t (w_3 cz cd c) (w_1 (w_d 1 [(4,intZ y),(9,lim (toL (a.den*b.den))),(10,ratQ q)] [11] [])) (w_s ?_);intros)
 simp (disch:=omega) only [go_sem]
theorem qAdd (a b:Rat) {j k:Nat} (ha:Sz a j) (hb:Sz b k) (hj:j≤20000000000) (hk:k≤20000000000):Pure prog 21 [ratQ a,ratQ b] (ratQ (a+b)):=by
 obtain⟨a1,a2⟩:=id ha;obtain⟨b1,b2⟩:=id hb;have na:=Zt1 a ha zo;have nb:=Zt1 b hb zo;have cm1:=zMul (decide (a.num < 0)) false a.num.natAbs b.den zo zo;have cm2:=zMul (decide (b.num < 0)) false b.num.natAbs a.den zo zo;rw [Zb6] at cm1 cm2;have cm1:Pure prog 52 [intZ a.num,intA false b.den] (intZ (a.num*b.den)):=cm1;have cm2:Pure prog 52 [intZ b.num,intA false a.den] (intZ (b.num*a.den)):=cm2;have x1:(toL (a.num*b.den).natAbs).length≤j+k:=Zd7 a b ha hb;have x2:(toL (b.num*a.den).natAbs).length≤k+j:=Zd7 b a hb ha
 have l1:(toL (a.num*b.den+b.num*a.den).natAbs).length≤j+k+1:=by
  have h3:=Zd2 (Zer (a.num*b.den) (b.num*a.den));have h4:=Zpg (a.num*b.den).natAbs (b.num*a.den).natAbs;omega
 have l2:(toL (a.den*b.den)).length≤j+k:=Zzg (Zfw _ _) zo;have ca:=zAdd (decide (a.num*b.den < 0)) (decide (b.num*a.den < 0)) (a.num*b.den).natAbs (b.num*a.den).natAbs zo zo;rw [Zb6,Zb6] at ca;have c:=Zwn (decide (a.num*b.den+b.num*a.den < 0)) (a.num*b.den+b.num*a.den).natAbs (a.den*b.den) zo zo (ZCy a.den_nz b.den_nz);rw [Zb6,←Rat.add_def'] at c;have cw1:=Zsa b.den;have cw2:=Zsa a.den;have cd:=rMul a.den b.den zo zo;generalize a+b=q at *;generalize a.num*(b.den:Int)=y1 at *;generalize b.num*(a.den:Int)=y2 at *;refine pI func21 rfl ntmps21 results21 call21 ?_
 (refine wkvp w_t w_t (w_s ?_);intros)
 apply Zas (Zbu [(1,ratQ a),(3,ratQ b)]) [4,5] [] zk zr zk;(focus (simp only [Zze,Zzi,Nat.reduceAdd];rfl))
 (refine wkax w_t (w_2 na nb) w_t w_t w_t w_t w_t (w_r 0) (w_s ?_);intros)
 apply Zas (Zbu [(4,intA false b.den),(5,intZ y1),(10,intA false a.den),(11,intZ y2),(12,intZ (y1+y2)),(17,lim (toL (a.den*b.den))),(18,ratQ q)]) [19] [] zk zr zk;(focus (simp only [Zze,Zzi,Nat.reduceAdd];rfl))
 (refine wkax w_t (w_7 cw1 cm1 cw2 cm2 ca cd c) w_t w_t w_t w_t w_t (w_r 0) (w_s ?_);intros)
 simp (disch:=omega) only [go_sem]
theorem qCmp (a b:Rat) {j k:Nat} (ha:Sz a j) (hb:Sz b k) (hj:j≤20000000000) (hk:k≤20000000000):Pure prog 81 [ratQ a,ratQ b] (.v (.int .i64 (cmpQ a b))):=by
 obtain⟨a1,a2⟩:=id ha;obtain⟨b1,b2⟩:=id hb;have na:=Zt1 a ha zo;have nb:=Zt1 b hb zo;have cm1:=zMul (decide (a.num < 0)) false a.num.natAbs b.den zo zo;have cm2:=zMul (decide (b.num < 0)) false b.num.natAbs a.den zo zo;rw [Zb6] at cm1 cm2;have cm1:Pure prog 52 [intZ a.num,intA false b.den] (intZ (a.num*b.den)):=cm1;have cm2:Pure prog 52 [intZ b.num,intA false a.den] (intZ (b.num*a.den)):=cm2;have x1:(toL (a.num*b.den).natAbs).length≤j+k:=Zd7 a b ha hb;have x2:(toL (b.num*a.den).natAbs).length≤k+j:=Zd7 b a hb ha;have cc:=zCmp (a.num*b.den) (b.num*a.den) zo zo;rw [cmpQ_z]
 have cw1:=Zsa b.den;have cw2:=Zsa a.den;generalize a.num*(b.den:Int)=y1 at *;generalize b.num*(a.den:Int)=y2 at *;refine pI func81 rfl ntmps81 results81 call81 ?_
 (refine wkvp w_t w_t (w_s ?_);intros)
 apply Zas (Zbu [(1,ratQ a),(3,ratQ b)]) [4,5] [] zk zr zk;(focus (simp only [Zze,Zzi,Nat.reduceAdd];rfl))
 (refine wkax w_t (w_2 na nb) w_t w_t w_t w_t w_t (w_r 0) (w_s ?_);intros)
 apply Zas (Zbu [(4,intA false b.den),(5,intZ y1),(10,intA false a.den),(11,intZ y2),(12,.v (.int .i64 (cmpZ y1 y2)))]) [] [] zk zr zk;(focus (simp only [Zze,Zzi,Nat.reduceAdd];rfl))
 (refine wkax w_t (w_5 cw1 cm1 cw2 cm2 cc) w_t w_t w_t w_t w_t (w_r 0) (w_s ?_);intros)
 simp (disch:=omega) only [go_sem]
theorem Zwg (n m:Nat) (hn:n < 9223372036854775808) (hm:m < 9223372036854775808) (h0:m≠0):Pure prog 27 [.v (.int .i64 (n:Int)),.v (.int .i64 (m:Int))] (ratQ (mkRat n m)):=by
 have l4:(toL n).length≤4:=Zaf.2 zo;have m4:(toL m).length≤4:=Zaf.2 zo;have c:=Zwf (n:Int) (m:Int) (by rw [ZBr];omega) (by rw [ZBr];omega) zo;rw [Rat.divInt_ofNat] at c
 have e1:intZ (n:Int)=intA false n:=by
  have:=Zf9 false n
  rwa [Zzr] at this
 have e2:intZ (m:Int)=intA false m:=by
  have:=Zf9 false m
  rwa [Zzr] at this
 rw [e1,e2] at c;generalize mkRat (n:Int) m=q at *;refine pI func27 rfl ntmps27 results27 call27 ?_
 (refine wkvp w_t (w_3 (intOf n hn) (intOf m hm) c) (w_s ?_);intros)
 simp (disch:=omega) only [go_sem]
theorem szIv:szOf prog 36=some 6:=by kernel_rfl
theorem zIv:Zaq prog 36=some (.agg #[.bool false,.slice none 0 0,.slice none 0 0,.bool false,.slice none 0 0,.slice none 0 0]):=by kernel_rfl
theorem Zoa:szOf prog 38=some 12:=by kernel_rfl
theorem zBox:Zaq prog 38=some (.agg #[.bool false,.slice none 0 0,.slice none 0 0,.bool false,.slice none 0 0,.slice none 0 0,.bool false,.slice none 0 0,.slice none 0 0,.bool false,.slice none 0 0,.slice none 0 0]):=by kernel_rfl
attribute [go_sem] underlying36
structure RQ where
 s:Bool
 l:List Nat
 d:List Nat
def RQ.lm (r:RQ) (k:Nat):Prop:=Lm r.l∧Lm r.d∧r.l.length≤k∧r.d.length≤k
abbrev RQ.av (r:RQ):AV:=.agg [.v (.bool r.s),lim r.l,lim r.d]
def RQ.zok (s:Bool) (l:List Nat):Bool:=valL l && !(s && decide (l.length=0))
def RQ.ok (r:RQ):Bool:=RQ.zok r.s r.l && valL r.d && (Nat.gcd (nv r.l) (nv r.d) == 1) && decide (0 < r.d.length)
def RQ.q (r:RQ):Rat:=mkRat (zI r.s (nv r.l)) (nv r.d)
theorem RQ.ok_av {r:RQ} {k:Nat} (hl:r.lm k) (h:r.ok=true):r.av=ratQ r.q∧Sz r.q k:=by
 obtain⟨s,l,d⟩:=r;obtain⟨h1,h2,h3,h4⟩:=hl;simp only [RQ.ok,RQ.zok,Zzn,Zzu,ZAv,ZA6] at h;obtain⟨⟨⟨⟨v1,v2⟩,v3⟩,v4⟩,v5⟩:=h;have e1:=(Zmt h1).1 v1;have e2:=(Zmt h2).1 v3;simp only [RQ.av,RQ.q] at *;generalize nv l=n at *;generalize nv d=m at *;subst e1;subst e2;have hm:m≠0:=by have:=Zbl.1 v5;omega
 have hs:decide (zI s n < 0)=s:=by
  rw [zI_lt];cases s
  ·rfl
  ·have:(toL n).length≠0:=by simpa using v2
   rw [Zy6 (Zbl.1 zo)];rfl
 refine⟨?_,Sz.mk (by rw [Zd8];exact h3) h4 zo⟩;rw [Zqm _ _ hm,Zd8,v4,ZCv,ZCv,hs]
theorem Zp1 {a b:Nat}:toL a=toL b↔a=b:=⟨λh=>by rw [←Zam a,h,Zam],λh=>by rw [h]⟩
theorem zRight (s:Bool) (l:List Nat) (hs:l.length≤1000000000000) (hl:Lm l):Pure prog 40 [.agg [.v (.bool s),lim l]] (.v (.bool (RQ.zok s l))):=by
 have cv:=Zr6 l zo hl;unfold RQ.zok;generalize valL l=v at *;cases v
 ·refine pI func40 rfl ntmps40 results40 call40 ?_
  (refine wkvp (w_1 @Zzr) (w_1 cv) (w_s ?_);intros)
  simp (disch:=omega) only [go_sem,Zzr]
 ·cases s
  ·refine pI func40 rfl ntmps40 results40 call40 ?_
   (refine wkvp (w_1 @Zzr) (w_1 cv) (w_s ?_);intros)
   simp (disch:=omega) only [go_sem,Zzr]
  ·by_cases h0:l.length=0
   ·refine pI func40 rfl ntmps40 results40 call40 ?_
    (refine wkvp (w_2 h0 @ZBs) (w_1 cv) (w_s ?_);intros)
    simp (disch:=omega) only [go_sem,h0]
   ·refine pI func40 rfl ntmps40 results40 call40 ?_
    (refine wkvp w_t (w_1 cv) (w_s ?_);intros)
    simp (disch:=omega) only [go_sem,h0,Zy2 h0]
theorem Zop (s:Bool) (l d:List Nat) (h1:Lm l) (h2:Lm d) (h3:l.length≤1000000000000) (h4:d.length≤1000000000000):Pure prog 16 [.agg [.v (.bool s),lim l,lim d]] (.v (.bool (RQ.ok ⟨s,l,d⟩))):=by
 have cz:=zRight s l h3 h1;have cv:=Zr6 d zo h2;have cg:=refGcd l d zo zo h1 h2
 have hgl:(toL (Nat.gcd (nv l) (nv d))).length≤1000000000000:=by
  have l1:=Zap h1;have l2:=Zap h2;by_cases hd:nv d=0
  ·rw [hd,Nat.gcd_zero_right];omega
  ·exact Zzg (Zd2 (Nat.gcd_le_right _ zo)) zo
 have cs:=refSameN (toL (Nat.gcd (nv l) (nv d))) (toL 1) zo (by rw [Zhs];omega) (Zan _) (Zan _);rw [show decide (toL (Nat.gcd (nv l) (nv d))=toL 1)=(Nat.gcd (nv l) (nv d) == 1) from by rw [Zzy,Zzu,ZA6];exact Zp1] at cs;unfold RQ.ok;generalize RQ.zok s l=v at *;simp only;generalize Nat.gcd (nv l) (nv d)=g at *;cases v
 ·refine pI func16 rfl ntmps16 results16 call16 ?_
  (refine wkvp (w_1 @Zzr) (w_1 cz) (w_s ?_);intros)
  simp (disch:=omega) only [go_sem,Zzr]
 ·generalize valL d=v at *;cases v
  ·refine pI func16 rfl ntmps16 results16 call16 ?_
   (refine wkvp (w_1 @Zzr) (w_2 cz cv) (w_s ?_);intros)
   simp (disch:=omega) only [go_sem,Zzr]
  ·by_cases hg:g=1
   ·have hgb:(g == 1)=true:=by rw [ZA6];exact hg
    rw [hgb] at cs ⊢;by_cases hd:0 < d.length
    ·rw [Zy6 hd];refine pI func16 rfl ntmps16 results16 call16 ?_
     (refine wkvp w_t (w_5 cz cv cg (Zjv 1 zo) cs) (w_s ?_);intros)
     simp (disch:=omega) only [go_sem]
    ·rw [Zy2 hd];refine pI func16 rfl ntmps16 results16 call16 ?_
     (refine wkvp w_t (w_5 cz cv cg (Zjv 1 zo) cs) (w_s ?_);intros)
     simp (disch:=omega) only [go_sem,ZBt]
   ·have hgb:(g == 1)=false:=by rw [ZD0];exact hg
    rw [hgb] at cs ⊢;refine pI func16 rfl ntmps16 results16 call16 ?_
    (refine wkvp (w_2 @ZBt @Zzr) (w_5 cz cv cg (Zjv 1 zo) cs) (w_s ?_);intros)
    simp (disch:=omega) only [go_sem,ZBt,Zzr]
section
variable {N n:Nat} {cs:List AV}
theorem agN16:Zgd prog 125=false:=by kernel_rfl
theorem cs16:prog.cellsOf 125=1:=by kernel_rfl
theorem shNat (h:Zci prog N n 24 cs):∃l:List Nat,cs=[lim l]∧Lm l∧l.length≤N:=by
 obtain⟨bs,rfl,hl,hq⟩:=Zdo (g:=λk:Nat=>[AV.v (.int .u16 (k:Int))]) (Q:=λk=>k < 65536) underlying24 h λm x hx=>by
  obtain⟨i,rfl,hw⟩:=Zgl underlying125 hx;have:=wf_u16 hw;exact⟨i.toNat,by rw [ZB0 this.1],zo⟩
 refine⟨bs,?_,hq,hl⟩;rw [cs16];have:(bs.map λb:Nat=>Zdc prog 125 [AV.v (.int .u16 (b:Int))])=u16s bs:=ZBp λb _=>Zh9 agN16 _;rw [this]
theorem shInt (h:Zci prog N n 26 cs):∃(s:Bool) (l:List Nat),cs=[.v (.bool s),lim l]∧Lm l∧l.length≤N:=by
 obtain⟨m,rfl,hs⟩:=Zcj underlying26 zk h;obtain⟨x,y,rfl,h1,hs⟩:=hs.inv;obtain⟨z,y,rfl,h2,hs⟩:=hs.inv;obtain rfl:=hs.inv0;obtain⟨s,rfl⟩:=Ztu underlying4 h1;obtain⟨l,rfl,h3,h4⟩:=shNat h2;exact⟨s,l,rfl,h3,h4⟩
theorem Zp8 (h:Zci prog N n 28 cs):∃r:RQ,cs=[.v (.bool r.s),lim r.l,lim r.d]∧r.lm N:=by
 obtain⟨m,rfl,hs⟩:=Zcj underlying28 zk h;obtain⟨x,y,rfl,h1,hs⟩:=hs.inv;obtain⟨z,y,rfl,h2,hs⟩:=hs.inv;obtain rfl:=hs.inv0;obtain⟨s,l,rfl,h3,h4⟩:=shInt h1;obtain⟨d,rfl,h5,h6⟩:=shNat h2;exact⟨⟨s,l,d⟩,rfl,h3,h5,h4,h6⟩
theorem Zl4 (h:Zci prog N n 36 cs):∃r q:RQ,cs=[.v (.bool r.s),lim r.l,lim r.d,.v (.bool q.s),lim q.l,lim q.d]∧r.lm N∧q.lm N:=by
 obtain⟨m,rfl,hs⟩:=Zcj underlying36 zk h;obtain⟨x,y,rfl,h1,hs⟩:=hs.inv;obtain⟨z,y,rfl,h2,hs⟩:=hs.inv;obtain rfl:=hs.inv0;obtain⟨r,rfl,h3⟩:=Zp8 h1;obtain⟨q,rfl,h4⟩:=Zp8 h2;exact⟨r,q,rfl,h3,h4⟩
structure RP where
 x:RQ
 y:RQ
abbrev RP.av (p:RP):AV:=.agg [.v (.bool p.x.s),lim p.x.l,lim p.x.d,.v (.bool p.y.s),lim p.y.l,lim p.y.d]
def RP.lm (p:RP) (k:Nat):Prop:=p.x.lm k∧p.y.lm k
end
abbrev iv (n:Int):AV:=.v (.int .i64 n)
abbrev strA (s:ByteArray):AV:=.v (.string s)
abbrev ivs (l:List Int):AV:=.sl 1 (l.map iv)
abbrev Vt:=Int × Int × Int
abbrev Vt.av (v:Vt):AV:=.agg [iv v.1,iv v.2.1,iv v.2.2]
theorem Zxz {α:Type} {f:α→AV} {l:List α} {j:Nat} {d:α} (h:j < l.length):(l.map f).getD j .u=f (l.getD j d):=by
 rw [Zzc,ZAb,Zy4 h,Zzc,Zy4 h];rfl
theorem Zcx {α:Type} {l:List α} {j:Nat} {d:α} (h:j < l.length):l.getD j d∈l:=by
 rw [Zzc,Zy4 h];exact Zzm h
theorem Zac {α:Type} (f:α→AV) {l:List α} {k:Nat} (h:k < l.length):(l.map f).getD k .u=f l[k]:=by
 rw [Zzc,ZAb,Zy4 h];rfl
theorem Zbt:szOf prog 41=some 1:=by kernel_rfl
theorem zErr:Zaq prog 41=some (.int .i64 0):=by kernel_rfl
theorem Zbm:szOf prog 9=some 1:=by kernel_rfl
theorem Zbo:Zec prog 9=some 16:=by kernel_rfl
theorem zStr:Zaq prog 9=some (.string ByteArray.empty):=by kernel_rfl
theorem Zft:szOf prog 275=some 3:=by kernel_rfl
theorem Zf1:Zec prog 275=some 24:=by kernel_rfl
theorem zVar:Zaq prog 275=some (.agg #[.int .i64 0,.int .i64 0,.int .i64 0]):=by kernel_rfl
theorem Zbs:szOf prog 62=some 2:=by kernel_rfl
theorem Zcs:Zaq prog 62=some (.agg #[.slice none 0 0,.slice none 0 0]):=by kernel_rfl
theorem Zca:szOf prog 49=some 2:=by kernel_rfl
theorem zFig:Zaq prog 49=some (.agg #[.slice none 0 0,.slice none 0 0]):=by kernel_rfl
theorem Zct:szOf prog 280=some 4:=by kernel_rfl
theorem Zs9:Zec prog 280=some 80:=by kernel_rfl
theorem Zel:Zaq prog 280=some (.agg #[.bool false,.slice none 0 0,.slice none 0 0,.slice none 0 0]):=by kernel_rfl
theorem Zcb:szOf prog 203=some 2:=by kernel_rfl
theorem Zcf:Zec prog 203=some 48:=by kernel_rfl
theorem Zdh:Zaq prog 203=some (.agg #[.slice none 0 0,.slice none 0 0]):=by kernel_rfl
theorem Za3:szOf prog 78=some 6:=by kernel_rfl
theorem Za4:Zec prog 78=some 104:=by kernel_rfl
theorem Zb8:Zaq prog 78=some (.agg #[.int .i64 0,.string ByteArray.empty,.slice none 0 0,.bool false,.slice none 0 0,.slice none 0 0]):=by kernel_rfl
theorem Zbz:szOf prog 80=some 5:=by kernel_rfl
theorem Zb1:Zec prog 80=some 88:=by kernel_rfl
theorem Zdb:Zaq prog 80=some (.agg #[.int .i64 0,.slice none 0 0,.bool false,.slice none 0 0,.slice none 0 0]):=by kernel_rfl
theorem Zkd:szOf prog 161=some 3:=by kernel_rfl
theorem Zlk:Zec prog 161=some 40:=by kernel_rfl
theorem Zpw:Zaq prog 161=some (.agg #[.int .i64 0,.slice none 0 0,.int .i64 0]):=by kernel_rfl
theorem Zcu:szOf prog 157=some 1:=by kernel_rfl
theorem Zcz:Zec prog 157=some 24:=by kernel_rfl
theorem Zem:Zaq prog 157=some (.slice none 0 0):=by kernel_rfl
theorem Zru:szOf prog 278=some 1:=by kernel_rfl
theorem Zta:Zec prog 278=some 24:=by kernel_rfl
theorem zMono:Zaq prog 278=some (.slice none 0 0):=by kernel_rfl
theorem Zbx:szOf prog 53=some 1:=by kernel_rfl
theorem zSlI:Zaq prog 53=some (.slice none 0 0):=by kernel_rfl
theorem Zb9:szOf prog 46=some 1:=by kernel_rfl
theorem zSlS:Zaq prog 46=some (.slice none 0 0):=by kernel_rfl
theorem Zdd:szOf prog 47=some 1:=by kernel_rfl
theorem zSlF:Zaq prog 47=some (.slice none 0 0):=by kernel_rfl
theorem Zeo:szOf prog 59=some 1:=by kernel_rfl
theorem zSlC:Zaq prog 59=some (.slice none 0 0):=by kernel_rfl
theorem Zen:szOf prog 60=some 1:=by kernel_rfl
theorem zSlV:Zaq prog 60=some (.slice none 0 0):=by kernel_rfl
theorem Zlr:szOf prog 63=some 1:=by kernel_rfl
theorem bySlP:Zec prog 63=some 24:=by kernel_rfl
theorem zSlP:Zaq prog 63=some (.slice none 0 0):=by kernel_rfl
theorem Zey:szOf prog 135=some 1:=by kernel_rfl
theorem Zgi:Zaq prog 135=some (.slice none 0 0):=by kernel_rfl
theorem Zl1:szOf prog 153=some 1:=by kernel_rfl
theorem Zth:Zaq prog 153=some (.slice none 0 0):=by kernel_rfl
theorem Zyp (x:Nat) (hx:x < 256):Pure prog 175 [.v (.int .u64 (x:Int))] (iv (len8 x:Nat)):=by
 refine Zaa (tok:=0) (rs:=[.tmp 2]) func175 rfl ntmps175 results175 call175 zr zs ?_;have b:=Zi4 (i:=x) zo
 (repeat' (first|(apply o_tab (g:=len8) (n:=256) zk zk zo)|(with_reducible first|refine stp ?_|apply gx1|apply gx2|apply gx3|apply gx4|apply gx5|apply gx6|apply gx7)|(with_reducible refine Zch ?_;intro _)|((with_reducible refine gE ?_);(try simp (disch:=omega) only [go_sem])<;>first|rfl|omega)|with_reducible refine Zai zd ?_))
 simp (disch:=omega) only [go_sem,Zzd]
theorem bitsLen (x:Nat) (hx:x < 256):Pure prog 125 [.v (.int .u64 (x:Int))] (iv (len8 x:Nat)):=by
 have c:=Zyp x hx;generalize ((len8 x:Nat):Int)=r at *;refine pI func125 rfl ntmps125 results125 call125 ?_
 (refine wkap w_t (w_1 c) (w_r 0) (w_s ?_);intros)
 all_goals exact gL
attribute [go_sem] underlying2
theorem zOfM:Pure prog 85 [iv (-1)] (intZ (-1)):=by
 have hm:=zOf' true 1 (by rw [Zhs];omega);have h0:=Zjv 0 zo;have h1:=Zjv 1 zo;have ha:=rAdd 0 1 (by rw [Zav];simp) (by rw [Zhs];omega);rw [show zI true 1=-1 from rfl] at hm;rw [show 0+1=1 from rfl] at ha;rw [show intZ (-1)=.agg [.v (.bool true),lim (toL 1)] from rfl] at hm ⊢;generalize toL 1=l at *;generalize toL 0=k at *;refine pI func85 rfl ntmps85 results85 call85 ?_;exact wklp w_t (w_4 h0 h1 ha hm) w_t (w_r 0) w_z
theorem qOfM:Pure prog 47 [iv (-1)] (ratQ (-1)):=by
 have c:=zOfM;have h1:=Zjv 1 zo;have co:Pure prog 46 [.agg [.v (.bool true),lim (toL 1)],lim (toL 1)] (ratQ (mkRat (zI true 1) 1)):=Zwn true 1 1 (by rw [Zhs];omega) (by rw [Zhs];omega) zo;rw [show mkRat (zI true 1) 1=(-1:Rat) from rfl] at co;rw [show intZ (-1)=.agg [.v (.bool true),lim (toL 1)] from rfl] at c;rw [show ratQ (-1)=.agg [.v (.bool true),lim (toL 1),lim (toL 1)] from rfl] at *;generalize toL 1=l at *;refine pI func47 rfl ntmps47 results47 call47 ?_;exact wklp w_t (w_3 c h1 co) w_t (w_r 0) w_z
theorem szA4C:szOf prog 243=some 8:=by kernel_rfl
theorem zA4C:Zaq prog 243=some (.agg #[.slice none 0 0,.slice none 0 0,.slice none 0 0,.slice none 0 0,.slice none 0 0,.slice none 0 0,.slice none 0 0,.slice none 0 0]):=by kernel_rfl
attribute [go_sem] underlying38 underlying70 szIv zIv zBox
attribute [local go_sem] Zoa
abbrev Zqs (a b:Rat):AV:=.agg [.v (.bool (decide (a.num < 0))),lim (toL a.num.natAbs),lim (toL a.den),.v (.bool (decide (b.num < 0))),lim (toL b.num.natAbs),lim (toL b.den)]
abbrev boxQ (a b c d:Rat):AV:=.agg [.v (.bool (decide (a.num < 0))),lim (toL a.num.natAbs),lim (toL a.den),.v (.bool (decide (b.num < 0))),lim (toL b.num.natAbs),lim (toL b.den),
 .v (.bool (decide (c.num < 0))),lim (toL c.num.natAbs),lim (toL c.den),.v (.bool (decide (d.num < 0))),lim (toL d.num.natAbs),lim (toL d.den)]
def hlf:Rat:=mkRat 1 2
theorem Zk5:Sz hlf 1:=Sz.mk (Zaf.2 zd) (Zaf.2 zd) (Zy5 _)
theorem Zs4 {a b:Rat}:cmpQ a b < 0↔a < b:=by
 unfold cmpQ;by_cases h:a < b
 ·simp [h]
 ·rw [Zy0 h];by_cases h2:b < a
  ·simp [h,h2]
  ·simp [h,h2]
theorem cmpQ_pos {a b:Rat}:0 < cmpQ a b↔b < a:=by
 unfold cmpQ;by_cases h:a < b
 ·rw [Zy1 h];constructor
  ·intro h2;omega
  ·intro h2;exact absurd (Rat.le_of_lt h) (Rat.not_le.2 h2)
 ·rw [Zy0 h];by_cases h2:b < a
  ·simp [h2]
  ·simp [h2]
theorem Zgt (n:Nat) (h:n < 65536):Sz (n:Rat) 1:=Sz.int (z:=(n:Int)) (by rw [ZBr];exact Zaf.2 zo) (Zy5 _)
abbrev zeroR:AV:=.agg [.v (.bool false),.v (.slice none 0 0),.v (.slice none 0 0)]
theorem Zyd (a b:Rat) {j k:Nat} (ha:Sz a j) (hb:Sz b k) (hj:j≤100000) (hk:k≤100000):Pure prog 23 [Zqs a b] (ratQ ((a+b)*hlf)):=by
 have ca:=Zr9 a b ha hb zo zo;have cf:Pure prog 27 [.v (.int .i64 1),.v (.int .i64 2)] (ratQ hlf):=Zwg 1 2 zo zo zo;have cm:=Zwe (a+b) hlf (ha.add hb) Zk5 zo zo;generalize (a+b)*hlf=q at *;generalize a+b=y at *;generalize hlf=hf at *;refine pI func23 rfl ntmps23 results23 call23 ?_;(focus (refine wkad w_t (w_3 ca cf cm) w_t ?_;(repeat' first|exact w_t|apply w_l);all_goals intros));simp (disch:=omega) only [go_sem]
def fac (w h:Nat) (x y:Rat):Rat :=
 if x=0 then (if y=0 then 1 else ((h - 40:Nat):Rat)/y) else if y=0 then ((w - 40:Nat):Rat)/x
 else if ((h - 40:Nat):Rat)/y < ((w - 40:Nat):Rat)/x then ((h - 40:Nat):Rat)/y else ((w - 40:Nat):Rat)/x
theorem dFactor (x y:Rat) (w h:Nat) {j:Nat} (hx:Sz x j) (hy:Sz y j) (hj:j≤10000) (hw:w≤4000) (hh:h≤4000) (hw1:100≤w) (hh1:100≤h):Pure prog 25 [ratQ x,ratQ y,.v (.int .i64 (w:Int)),.v (.int .i64 (h:Int))] (ratQ (fac w h x y)):=by
 have ew:(w:Int) - 40=((w - 40:Nat):Int):=zo;have eh:(h:Int) - 40=((h - 40:Nat):Int):=zo;have kw:=Zgt (w - 40) zo;have kh:=Zgt (h - 40) zo;have sw:=kw.div hx;have sh:=kh.div hy;have c1:Pure prog 29 [.v (.int .i64 1)] (ratQ 1):=Zwd 1 zo;have cw:=Zwd (w - 40) zo;have ch:=Zwd (h - 40) zo;unfold fac;by_cases h0:x=0
 ·have qx:=Zqn ((w - 40:Nat):Rat) x kw hx zo zo h0;rw [Zy1 h0];by_cases h1:y=0
  ·have qy:=Zqn ((h - 40:Nat):Rat) y kh hy zo zo h1;rw [Zy1 h1];clear h0 h1;generalize ((w - 40:Nat):Rat)=q1 at *;generalize ((h - 40:Nat):Rat)=q2 at *;refine pI func25 rfl ntmps25 results25 call25 ?_;(focus (refine wkvp w_t w_t ?_;(repeat' first|exact w_t|apply w_l);all_goals intros));apply Zas (Zbu [(2,ratQ q1),(4,.tup [zeroR,.v (.int .i64 3)])]) [] [9] zk zr zk;(focus (simp only [Zze,Zzi,Nat.reduceAdd];rfl));(focus (refine wkax (w_1 ew) (w_2 cw qx) w_t w_t w_t w_t w_t (w_r 0) ?_;(repeat' first|exact w_t|apply w_l);all_goals intros));apply Zas (Zbu [(2,ratQ q2),(4,.tup [zeroR,.v (.int .i64 3)])]) [] [11] zk zr zk;(focus (simp only [Zze,Zzi,Nat.reduceAdd];rfl))
   (focus (refine wkax (w_1 eh) (w_3 ch qy c1) w_t w_t w_t w_t w_t (w_r 0) ?_;(repeat' first|exact w_t|apply w_l);all_goals intros));simp (disch:=omega) only [go_sem]
  ·have qy:=Zwh ((h - 40:Nat):Rat) y kh hy zo zo h1;rw [Zy0 h1];clear h0 h1;generalize ((h - 40:Nat):Rat)/y=q at *;generalize ((w - 40:Nat):Rat)=q1 at *;generalize ((h - 40:Nat):Rat)=q2 at *;refine pI func25 rfl ntmps25 results25 call25 ?_;(focus (refine wkvp w_t w_t ?_;(repeat' first|exact w_t|apply w_l);all_goals intros));apply Zas (Zbu [(2,ratQ q1),(4,.tup [zeroR,.v (.int .i64 3)])]) [] [9] zk zr zk;(focus (simp only [Zze,Zzi,Nat.reduceAdd];rfl));(focus (refine wkax (w_1 ew) (w_2 cw qx) w_t w_t w_t w_t w_t (w_r 0) ?_;(repeat' first|exact w_t|apply w_l);all_goals intros))
   apply Zas (Zbu [(2,ratQ q2),(4,.tup [ratQ q,.v (.int .i64 0)])]) [] [11] zk zr zk;(focus (simp only [Zze,Zzi,Nat.reduceAdd];rfl));(focus (refine wkax (w_1 eh) (w_3 ch qy c1) w_t w_t w_t w_t w_t (w_r 0) ?_;(repeat' first|exact w_t|apply w_l);all_goals intros));simp (disch:=omega) only [go_sem]
 ·have qx:=Zwh ((w - 40:Nat):Rat) x kw hx zo zo h0;rw [Zy0 h0];by_cases h1:y=0
  ·have qy:=Zqn ((h - 40:Nat):Rat) y kh hy zo zo h1;rw [Zy1 h1];clear h0 h1;generalize ((w - 40:Nat):Rat)/x=q at *;generalize ((w - 40:Nat):Rat)=q1 at *;generalize ((h - 40:Nat):Rat)=q2 at *;refine pI func25 rfl ntmps25 results25 call25 ?_;(focus (refine wkvp w_t w_t ?_;(repeat' first|exact w_t|apply w_l);all_goals intros));apply Zas (Zbu [(2,ratQ q1),(4,.tup [ratQ q,.v (.int .i64 0)])]) [] [9] zk zr zk;(focus (simp only [Zze,Zzi,Nat.reduceAdd];rfl));(focus (refine wkax (w_1 ew) (w_2 cw qx) w_t w_t w_t w_t w_t (w_r 0) ?_;(repeat' first|exact w_t|apply w_l);all_goals intros))
   apply Zas (Zbu [(2,ratQ q2),(4,.tup [zeroR,.v (.int .i64 3)])]) [] [11] zk zr zk;(focus (simp only [Zze,Zzi,Nat.reduceAdd];rfl));(focus (refine wkax (w_1 eh) (w_3 ch qy c1) w_t w_t w_t w_t w_t (w_r 0) ?_;(repeat' first|exact w_t|apply w_l);all_goals intros));simp (disch:=omega) only [go_sem]
  ·have qy:=Zwh ((h - 40:Nat):Rat) y kh hy zo zo h1;rw [Zy0 h1];have cc:=Zwi (((h - 40:Nat):Rat)/y) (((w - 40:Nat):Rat)/x) sh sw zo zo;have hc:=@Zs4 (((h - 40:Nat):Rat)/y) (((w - 40:Nat):Rat)/x);clear h0 h1;generalize cmpQ (((h - 40:Nat):Rat)/y) (((w - 40:Nat):Rat)/x)=s at *;by_cases hlt:((h - 40:Nat):Rat)/y < ((w - 40:Nat):Rat)/x
   ·rw [Zy1 hlt];have hs:=hc.2 hlt;clear hc hlt;generalize ((w - 40:Nat):Rat)/x=q3 at *;generalize ((h - 40:Nat):Rat)/y=q4 at *;generalize ((w - 40:Nat):Rat)=q1 at *;generalize ((h - 40:Nat):Rat)=q2 at *;refine pI func25 rfl ntmps25 results25 call25 ?_;(focus (refine wkvp w_t w_t ?_;(repeat' first|exact w_t|apply w_l);all_goals intros));apply Zas (Zbu [(2,ratQ q1),(4,.tup [ratQ q3,.v (.int .i64 0)])]) [] [9] zk zr zk;(focus (simp only [Zze,Zzi,Nat.reduceAdd];rfl));(focus (refine wkax (w_1 ew) (w_2 cw qx) w_t w_t w_t w_t w_t (w_r 0) ?_;(repeat' first|exact w_t|apply w_l);all_goals intros))
    apply Zas (Zbu [(2,ratQ q2),(4,.tup [ratQ q4,.v (.int .i64 0)])]) [] [11] zk zr zk;(focus (simp only [Zze,Zzi,Nat.reduceAdd];rfl));(focus (refine wkax (w_1 eh) (w_3 ch qy cc) w_t w_t w_t w_t w_t (w_r 0) ?_;(repeat' first|exact w_t|apply w_l);all_goals intros));simp (disch:=omega) only [go_sem]
   ·rw [Zy0 hlt];have hs:¬s < 0:=λh5=>hlt (hc.1 h5);clear hc hlt;generalize ((w - 40:Nat):Rat)/x=q3 at *;generalize ((h - 40:Nat):Rat)/y=q4 at *;generalize ((w - 40:Nat):Rat)=q1 at *;generalize ((h - 40:Nat):Rat)=q2 at *;refine pI func25 rfl ntmps25 results25 call25 ?_;(focus (refine wkvp w_t w_t ?_;(repeat' first|exact w_t|apply w_l);all_goals intros));apply Zas (Zbu [(2,ratQ q1),(4,.tup [ratQ q3,.v (.int .i64 0)])]) [] [9] zk zr zk;(focus (simp only [Zze,Zzi,Nat.reduceAdd];rfl));(focus (refine wkax (w_1 ew) (w_2 cw qx) w_t w_t w_t w_t w_t (w_r 0) ?_;(repeat' first|exact w_t|apply w_l);all_goals intros))
    apply Zas (Zbu [(2,ratQ q2),(4,.tup [ratQ q4,.v (.int .i64 0)])]) [] [11] zk zr zk;(focus (simp only [Zze,Zzi,Nat.reduceAdd];rfl));(focus (refine wkax (w_1 eh) (w_3 ch qy cc) w_t w_t w_t w_t w_t (w_r 0) ?_;(repeat' first|exact w_t|apply w_l);all_goals intros));simp (disch:=omega) only [go_sem]
theorem dWhole (q:Rat) {j:Nat} (hq:Sz q j) (hj:j≤100000) (n:Nat) (hn:n < 65536) (hf:q.floor=(n:Int)):Pure prog 31 [ratQ q] (.v (.int .i64 (n:Int))):=by
 have cf:=ratFloor q hq zo
 have e:intZ q.floor=intA false n:=by
  rw [hf];have:=Zf9 false n
  rwa [Zzr] at this
 rw [e] at cf;have l4:(toL n).length≤4:=Zaf.2 zo;have cu:=Zxb (toL n) zo (Zan _);rw [Zam,Zy1 zo,Zy6 (by omega:n < 18446744073709551616)] at cu;refine pI func31 rfl ntmps31 results31 call31 ?_;(focus (refine wkad w_t (w_2 cf cu) w_t ?_;(repeat' first|exact w_t|apply w_l);all_goals intros));simp (disch:=omega) only [go_sem]
attribute [go_sem] underlying22 underlying40 underlying54
def minF (m:Rat) (l:List Rat):Rat:=l.foldl (λm a=>if a < m then a else m) m
def maxF (m:Rat) (l:List Rat):Rat:=l.foldl (λm a=>if m < a then a else m) m
theorem Zxh (m:Rat) (l:List Rat) (a:Rat):minF m (l++[a])=if a < minF m l then a else minF m l:=by unfold minF;rw [List.foldl_append];rfl
theorem Zxi (m:Rat) (l:List Rat) (a:Rat):maxF m (l++[a])=if maxF m l < a then a else maxF m l:=by unfold maxF;rw [List.foldl_append];rfl
theorem Znj {k:Nat}:∀(l:List Rat) (m:Rat),Sz m k→(∀a∈l,Sz a k)→Sz (minF m l) k
 | [],m,h,_=>h
 | a :: l,m,h,h2=>by
   show Sz (minF (if a < m then a else m) l) k;refine Znj l _ ?_ λb hb=>h2 b (ZAr _ hb);split
   ·exact h2 a ZAc
   ·exact h
theorem Znl {k:Nat}:∀(l:List Rat) (m:Rat),Sz m k→(∀a∈l,Sz a k)→Sz (maxF m l) k
 | [],m,h,_=>h
 | a :: l,m,h,h2=>by
   show Sz (maxF (if m < a then a else m) l) k;refine Znl l _ ?_ λb hb=>h2 b (ZAr _ hb);split
   ·exact h2 a ZAc
   ·exact h
theorem Zex {α:Type} {l:List α} {k:Nat} (h:k < l.length):l.take (k+1)=l.take k++[l[k]]:=by rw [ZCi,Zy4 h];rfl
theorem Zk0 {α:Type} {l:List α} (f:α→AV) {k:Nat} (h:k < l.length):(l.map f).getD k .u=f l[k]:=by rw [Zzc,Zy4 (by simpa using h)];simp
abbrev Zc3 (a:Rat):List AV:=[.v (.bool (decide (a.num < 0))),lim (toL a.num.natAbs),lim (toL a.den)]
theorem minF_nil (m:Rat):minF m []=m:=rfl
theorem maxF_nil (m:Rat):maxF m []=m:=rfl
theorem dEnds (q0:Rat) (rest:List Rat) {j:Nat} (h0:Sz q0 j) (hr:∀a∈rest,Sz a j) (hj:j≤100000) (hl:rest.length≤1000):Pure prog 24 [.sl 3 ((q0 :: rest).map ratQ)] (.tup [ratQ (minF q0 rest),ratQ (maxF q0 rest)]):=by
 refine pI func24 rfl ntmps24 results24 call24 ?_;(focus (refine wkad w_t w_t (w_1 (w_d 1 [] [] [2,3])) ?_;(repeat' first|exact w_t|apply w_l);all_goals intros));have htk:List.take rest.length (rest.map ratQ)=rest.map ratQ:=ZA4 (by rw [Zy3];omega);refine Zab (ι:=Nat) (λk e m=>k≤rest.length∧e 13=.sl 3 (rest.map ratQ)∧e 14=.v (.int .i64 rest.length)∧e 15=.v (.int .i64 (k:Int)) ∧
  ∃g2 g3,e 2=.pbox 2 g2 0∧e 3=.pbox 3 g3 0∧m 2=some (.box g2 28 (Zc3 (minF q0 (rest.take k))) false)∧m 3=some (.box g3 28 (Zc3 (maxF q0 (rest.take k))) false)) (λk=>rest.length - k) 0 zr ?_ ?_
 ·rintro k e m ⟨hk,e13,e14,e15,g2,g3,e2,e3,m2,m3⟩
  by_cases hlt:k < rest.length
  ·have hget:(rest.map ratQ).getD k .u=ratQ rest[k]:=Zk0 ratQ hlt;have sm:=Znj (rest.take k) q0 h0 λa ha=>hr a (ZAe ha);have sM:=Znl (rest.take k) q0 h0 λa ha=>hr a (ZAe ha);have sa:=hr rest[k] (Zzm hlt);have c1:=Zwi rest[k] (minF q0 (rest.take k)) sa sm zo zo;have c2:=Zwi rest[k] (maxF q0 (rest.take k)) sa sM zo zo;have n1:=@Zs4 rest[k] (minF q0 (rest.take k));have n2:=@cmpQ_pos rest[k] (maxF q0 (rest.take k));have t1:minF q0 (rest.take (k+1))=if rest[k] < minF q0 (rest.take k) then rest[k] else minF q0 (rest.take k):=by rw [Zex hlt];exact Zxh _ _ _
   have t2:maxF q0 (rest.take (k+1))=if maxF q0 (rest.take k) < rest[k] then rest[k] else maxF q0 (rest.take k):=by rw [Zex hlt];exact Zxi _ _ _
   generalize cmpQ rest[k] (minF q0 (rest.take k))=s1 at *;generalize cmpQ rest[k] (maxF q0 (rest.take k))=s2 at *;generalize minF q0 (rest.take k)=p at *;generalize maxF q0 (rest.take k)=q at *;generalize rest[k]=a at *;simp only [Zc3] at m2 m3;by_cases ha:a < p
   ·have ha':=n1.2 ha;rw [Zy1 ha] at t1;by_cases hb:q < a
    ·have hb':=n2.2 hb;rw [Zy1 hb] at t2;(focus (refine wkad (w_8 e13 e14 e15 e2 e3 m2 m3 hget) (w_2 c1 c2) w_t ?_;(repeat' first|exact w_t|apply w_l);all_goals intros));exact⟨k+1,⟨zo,gW e13,gW e14,gS,g2,g3,gW e2,gW e3,by(simp (disch:=omega) only [go_sem,t1,Zc3]<;>repeat' first|rfl|refine⟨?_,?_⟩),by(simp (disch:=omega) only [go_sem,t2,Zc3]<;>repeat' first|rfl|refine⟨?_,?_⟩)⟩,zo⟩
    ·have hb':¬0 < s2:=λh5=>hb (n2.1 h5);rw [Zy0 hb] at t2;(focus (refine wkad (w_8 e13 e14 e15 e2 e3 m2 m3 hget) (w_2 c1 c2) w_t ?_;(repeat' first|exact w_t|apply w_l);all_goals intros));exact⟨k+1,⟨zo,gW e13,gW e14,gS,g2,g3,gW e2,gW e3,by(simp (disch:=omega) only [go_sem,t1,Zc3]<;>repeat' first|rfl|refine⟨?_,?_⟩),by(simp (disch:=omega) only [go_sem,m3,t2,Zc3]<;>repeat' first|rfl|refine⟨?_,?_⟩)⟩,zo⟩
   ·have ha':¬s1 < 0:=λh5=>ha (n1.1 h5);rw [Zy0 ha] at t1;by_cases hb:q < a
    ·have hb':=n2.2 hb;rw [Zy1 hb] at t2;(focus (refine wkad (w_8 e13 e14 e15 e2 e3 m2 m3 hget) (w_2 c1 c2) w_t ?_;(repeat' first|exact w_t|apply w_l);all_goals intros));exact⟨k+1,⟨zo,gW e13,gW e14,gS,g2,g3,gW e2,gW e3,by(simp (disch:=omega) only [go_sem,m2,t1,Zc3]<;>repeat' first|rfl|refine⟨?_,?_⟩),by(simp (disch:=omega) only [go_sem,t2,Zc3]<;>repeat' first|rfl|refine⟨?_,?_⟩)⟩,zo⟩
    ·have hb':¬0 < s2:=λh5=>hb (n2.1 h5);rw [Zy0 hb] at t2;(focus (refine wkad (w_8 e13 e14 e15 e2 e3 m2 m3 hget) (w_2 c1 c2) w_t ?_;(repeat' first|exact w_t|apply w_l);all_goals intros));exact⟨k+1,⟨zo,gW e13,gW e14,gS,g2,g3,gW e2,gW e3,by(simp (disch:=omega) only [go_sem,m2,t1,Zc3]<;>repeat' first|rfl|refine⟨?_,?_⟩),by(simp (disch:=omega) only [go_sem,m3,t2,Zc3]<;>repeat' first|rfl|refine⟨?_,?_⟩)⟩,zo⟩
  ·rw [ZA4 zo] at m2 m3;simp only [Zc3] at m2 m3;(focus (refine wkad (w_7 e13 e14 e15 e2 e3 m2 m3) w_t w_t ?_;(repeat' first|exact w_t|apply w_l);all_goals intros));simp (disch:=omega) only [go_sem,e2,e3,m2,m3]
 ·exact⟨zo,by(simp (disch:=omega) only [go_sem,ZAj,Zy3,htk]<;>repeat' first|rfl|refine⟨?_,?_⟩),by(simp (disch:=omega) only [go_sem,ZAj,Zy3,Nat.min_self]<;>repeat' first|rfl|refine⟨?_,?_⟩),gC,_,_,gC,gC,by(simp (disch:=omega) only [go_sem,Zc3,ZBx,minF_nil]<;>repeat' first|rfl|refine⟨?_,?_⟩),by(simp (disch:=omega) only [go_sem,Zc3,ZBx,maxF_nil]<;>repeat' first|rfl|refine⟨?_,?_⟩)⟩
theorem byRat:Zec prog 28=some 56:=by kernel_rfl
theorem szP2:szOf prog 54=some 2:=by kernel_rfl
theorem byP2:Zec prog 54=some 16:=by kernel_rfl
theorem zP2:Zaq prog 54=some (.agg #[.int .i64 0,.int .i64 0]):=by kernel_rfl
theorem eqP2:eqTy prog 54=true:=by kernel_rfl
attribute [go_sem] byRat szP2 byP2 zP2
attribute [local go_sem] eqP2 List.not_mem_nil false_imp_iff
structure BxQ where
 a:Rat
 b:Rat
 c:Rat
 d:Rat
abbrev BxQ.av (x:BxQ):AV:=boxQ x.a x.b x.c x.d
def BxQ.cx (x:BxQ):Rat:=(x.a+x.b)*hlf
def BxQ.cy (x:BxQ):Rat:=(x.c+x.d)*hlf
def BxQ.sz (x:BxQ) (k:Nat):Prop:=Sz x.a k∧Sz x.b k∧Sz x.c k∧Sz x.d k
def pxR (f x0:Rat) (b:BxQ):Rat:=((20:Nat):Rat)+f*(b.cx - x0)
def pyR (f y0:Rat) (h:Nat) (b:BxQ):Rat:=((h - 20:Nat):Rat) - f*(b.cy - y0)
def rnd (q:Rat):Nat:=(q+hlf).floor.toNat
def Zqh (q:Rat):Prop:=0≤(q+hlf).floor∧(q+hlf).floor < 65536
abbrev pixA (f x0 y0:Rat) (h:Nat) (b:BxQ):AV:=.agg [.v (.int .i64 (rnd (pxR f x0 b):Int)),.v (.int .i64 (rnd (pyR f y0 h b):Int))]
theorem Zrj {b:BxQ} {K:Nat} (h:b.sz K):Sz b.cx (K+K+1+1):=(h.1.add h.2.1).mul Zk5
theorem Zri {b:BxQ} {K:Nat} (h:b.sz K):Sz b.cy (K+K+1+1):=(h.2.2.1.add h.2.2.2).mul Zk5
theorem rnd_eq {q:Rat} (h:Zqh q):(q+hlf).floor=(rnd q:Int)∧rnd q < 65536:=by
 unfold rnd Zqh at *;omega
theorem one_sz:Sz 1 1:=Zgt 1 zo
theorem fac_sz {w h J:Nat} {x y:Rat} (hw:w≤4000) (hh:h≤4000) (hx:Sz x J) (hy:Sz y J):Sz (fac w h x y) (1+J):=by
 have sw:=(Zgt (w - 40) zo).div hx;have sh:=(Zgt (h - 40) zo).div hy;unfold fac;split
 ·split
  ·exact one_sz.mono zo
  ·exact sh
 ·split
  ·exact sw
  ·split
   ·exact sh
   ·exact sw
theorem Zyb (w h:Int) (h1:100≤w) (h2:w≤4000) (h3:100≤h) (h4:h≤4000):Pure prog 10 [.sl 12 [],.v (.int .i64 w),.v (.int .i64 h)] (.tup [.v (.slice none 0 0),.v (.int .i64 0)]):=by
 refine pI func10 rfl ntmps10 results10 call10 ?_;(focus (refine wkad (w_1 @ZBs) w_t w_t ?_;(repeat' first|exact w_t|apply w_l);all_goals intros));simp (disch:=omega) only [go_sem]
theorem Zyc (b0:BxQ) (rest:List BxQ) (w h:Nat) {K:Nat} (hs:∀b∈b0 :: rest,b.sz K) (hl:rest.length≤100) (h1:100≤w) (h2:w≤4000) (h3:100≤h) (h4:h≤4000)
 {x0 x1 y0 y1 f:Rat} (ex0:minF b0.cx (rest.map BxQ.cx)=x0) (ex1:maxF b0.cx (rest.map BxQ.cx)=x1) (ey0:minF b0.cy (rest.map BxQ.cy)=y0) (ey1:maxF b0.cy (rest.map BxQ.cy)=y1)
 (ef:fac w h (x1 - x0) (y1 - y0)=f) (hok:∀b∈b0 :: rest,Zqh (pxR f x0 b)∧Zqh (pyR f y0 h b)) (hK:K≤1000) :
 Pure prog 10 [.sl 12 ((b0 :: rest).map BxQ.av),.v (.int .i64 (w:Int)),.v (.int .i64 (h:Int))] (.tup [.sl 2 ((b0 :: rest).map (pixA f x0 y0 h)),.v (.int .i64 0)]):=by
 have sx0:Sz x0 (K+K+1+1):=by rw [←ex0];exact Znj _ _ (Zrj (hs b0 ZAc)) λa ha=>by obtain⟨b,hb,rfl⟩:=List.mem_map.1 ha;exact Zrj (hs b (ZAr _ hb))
 have sx1:Sz x1 (K+K+1+1):=by rw [←ex1];exact Znl _ _ (Zrj (hs b0 ZAc)) λa ha=>by obtain⟨b,hb,rfl⟩:=List.mem_map.1 ha;exact Zrj (hs b (ZAr _ hb))
 have sy0:Sz y0 (K+K+1+1):=by rw [←ey0];exact Znj _ _ (Zri (hs b0 ZAc)) λa ha=>by obtain⟨b,hb,rfl⟩:=List.mem_map.1 ha;exact Zri (hs b (ZAr _ hb))
 have sy1:Sz y1 (K+K+1+1):=by rw [←ey1];exact Znl _ _ (Zri (hs b0 ZAc)) λa ha=>by obtain⟨b,hb,rfl⟩:=List.mem_map.1 ha;exact Zri (hs b (ZAr _ hb))
 have sf:Sz f (1+(K+K+1+1+(K+K+1+1)+1)):=by rw [←ef];exact fac_sz h2 h4 (sx1.sub sx0) (sy1.sub sy0)
 have cE1:=dEnds b0.cx (rest.map BxQ.cx) (Zrj (hs b0 ZAc)) (λa ha=>by obtain⟨b,hb,rfl⟩:=List.mem_map.1 ha;exact Zrj (hs b (ZAr _ hb))) zo (by rw [Zy3];omega);have cE2:=dEnds b0.cy (rest.map BxQ.cy) (Zri (hs b0 ZAc)) (λa ha=>by obtain⟨b,hb,rfl⟩:=List.mem_map.1 ha;exact Zri (hs b (ZAr _ hb))) zo (by rw [Zy3];omega);rw [ex0,ex1] at cE1;rw [ey0,ey1] at cE2;have hxs:b0.cx :: rest.map BxQ.cx=(b0 :: rest).map BxQ.cx:=rfl;have hys:b0.cy :: rest.map BxQ.cy=(b0 :: rest).map BxQ.cy:=rfl;rw [hxs,List.map_map] at cE1
 rw [hys,List.map_map] at cE2;have cS1:=Zoo x1 x0 sx1 sx0 zo zo;have cS2:=Zoo y1 y0 sy1 sy0 zo zo;have cF:=dFactor (x1 - x0) (y1 - y0) w h (sx1.sub sx0) (sy1.sub sy0) zo h2 h4 h1 h3;rw [ef] at cF;have cH:Pure prog 27 [.v (.int .i64 1),.v (.int .i64 2)] (ratQ hlf):=Zwg 1 2 zo zo zo;have c20:Pure prog 29 [.v (.int .i64 20)] (ratQ ((20:Nat):Rat)):=Zwd 20 zo;have ch20:=Zwd (h - 20) zo;have eh:(h:Int) - 20=((h - 20:Nat):Int):=zo;have s20:=Zgt 20 zo;have sh20:=Zgt (h - 20) zo;have hlen:(b0 :: rest).length=rest.length+1:=rfl;have hn0:(b0 :: rest).length≤101:=zo;have hn1:0 < (b0 :: rest).length:=zo
 generalize hd1:x1 - x0=dx at *;generalize hd2:y1 - y0=dy at *;generalize b0 :: rest=bs at *;clear ex0 ex1 ey0 ey1 ef hxs hys hlen hl;refine pI func10 rfl ntmps10 results10 call10 ?_;(focus (refine wkad w_t w_t w_t ?_;(repeat' first|exact w_t|apply w_l);all_goals intros));refine Zc7 (Frz.nilOwn (d:=8) 50 3 28 (gC)) ?_;refine Zc7 (Frz.nilOwn (d:=9) 56 3 28 (gC)) ?_;refine Zab (ι:=Nat) (λk e m=>k≤bs.length∧e 0=.sl 12 (bs.map BxQ.av)∧e 1=.v (.int .i64 (w:Int))∧e 2=.v (.int .i64 (h:Int))∧e 39=.sl 12 (bs.map BxQ.av)∧e 40=.v (.int .i64 bs.length)∧e 41=.v (.int .i64 (k:Int)) ∧
  ∃sv8 sv9,e 8=.own 50 sv8∧m 50=some (.row sv8 28 3 ((bs.take k).map (ratQ ∘ BxQ.cx)) 0)∧e 9=.own 56 sv9∧m 56=some (.row sv9 28 3 ((bs.take k).map (ratQ ∘ BxQ.cy)) 0)) (λk=>bs.length - k) 0 zr ?_ ?_
 ·rintro k e m ⟨hk,e0,e1,e2,e39,e40,e41,sv8,sv9,e8,m50,e9,m56⟩
  by_cases hlt:k < bs.length
  ·have hget:(bs.map BxQ.av).getD k .u=boxQ bs[k].a bs[k].b bs[k].c bs[k].d:=Zk0 BxQ.av hlt;have hb:=hs bs[k] (Zzm hlt);have c1:Pure prog 23 [Zqs bs[k].a bs[k].b] (ratQ bs[k].cx):=Zyd _ _ hb.1 hb.2.1 zo zo;have c2:Pure prog 23 [Zqs bs[k].c bs[k].d] (ratQ bs[k].cy):=Zyd _ _ hb.2.2.1 hb.2.2.2 zo zo;have t1:(bs.take (k+1)).map (ratQ ∘ BxQ.cx)=(bs.take k).map (ratQ ∘ BxQ.cx)++[ratQ bs[k].cx]:=by rw [Zex hlt,Zzz];rfl
   have t2:(bs.take (k+1)).map (ratQ ∘ BxQ.cy)=(bs.take k).map (ratQ ∘ BxQ.cy)++[ratQ bs[k].cy]:=by rw [Zex hlt,Zzz];rfl
   clear hb;generalize bs[k].cx=q1 at *;generalize bs[k].cy=q2 at *;generalize bs[k].a=va at *;generalize bs[k].b=vb at *;generalize bs[k].c=vc at *;generalize bs[k].d=vd at *;(focus (refine wkax (w_5 e39 e40 e41 hget @Zbq) w_t w_t w_t w_t w_t w_t (w_r 0) ?_;(repeat' first|exact w_t|apply w_l);all_goals intros));apply Zas (Zbu [(3,ratQ q1),(4,.sl 3 [ratQ q1]),(9,ratQ q2),(10,.sl 3 [ratQ q2])]) [5,1005,11,1011] [50,56] zk zr zk;(focus (simp only [Zze,Zzi,Nat.reduceAdd];rfl));(focus (refine wkax (w_5 e8 e9 e41 m50 m56) (w_2 c1 c2) w_t w_t w_t w_t w_t (w_r 0) ?_;(repeat' first|exact w_t|apply w_l);all_goals intros))
   exact⟨k+1,⟨zo,gW e0,gW e1,gW e2,gW e39,gW e40,gS,_,_,gC,gW t1,gC,gW t2⟩,zo⟩
  ·rw [ZA4 zo] at m50 m56;(focus (refine wkax (w_7 e39 e40 e41 e8 e9 m50 m56) w_t w_t w_t (w_2 cE1 cE2) w_t w_t (w_r 0) ?_;(repeat' first|exact w_t|apply w_l);all_goals intros));apply Zas (Zbu [(2,ratQ dx),(5,ratQ dy),(8,ratQ f)]) [] [16] zk zr zk;(focus (simp only [Zze,Zzi,Nat.reduceAdd];rfl));(focus (refine wkax (w_4 e0 e1 e2 @Zbq) (w_4 cS1 cS2 cF cH) w_t w_t w_t w_t w_t (w_r 0) ?_;(repeat' first|exact w_t|apply w_l);all_goals intros));refine Zc7 (Frz.own (d:=8) (k:=50) (sv:=sv8) (mm:=3) (ty:=28) (es:=bs.map (ratQ ∘ BxQ.cx)) (pub:=(bs.map (ratQ ∘ BxQ.cx)).length) (gW e8) (gW m50)) ?_
   refine Zc7 (Frz.own (d:=9) (k:=56) (sv:=sv9) (mm:=3) (ty:=28) (es:=bs.map (ratQ ∘ BxQ.cy)) (pub:=(bs.map (ratQ ∘ BxQ.cy)).length) (gW e9) (gW m56)) ?_;refine Zc7 (Frz.nilOwn (d:=18) 116 2 54 (gC)) ?_;clear hk hlt e0 e1 e39 e40 e41 e8 e9 m50 m56;refine Zab (ι:=Nat) (λk e m=>k≤bs.length∧e 2=.v (.int .i64 (h:Int))∧e 8=.sl 3 (bs.map (ratQ ∘ BxQ.cx))∧e 9=.sl 3 (bs.map (ratQ ∘ BxQ.cy))∧e 79=.v (.int .i64 bs.length)∧e 80=.v (.int .i64 (k:Int)) ∧
    ∃g12 g14 g16 g17 sv,e 12=.pbox 12 g12 0∧m 12=some (.box g12 28 (Zc3 x0) false)∧e 14=.pbox 14 g14 0∧m 14=some (.box g14 28 (Zc3 y0) false)∧e 16=.pbox 16 g16 0∧m 16=some (.box g16 28 (Zc3 f) false)∧e 17=.pbox 17 g17 0∧m 17=some (.box g17 28 (Zc3 hlf) false) ∧
     e 18=.own 116 sv∧m 116=some (.row sv 54 2 ((bs.take k).map (pixA f x0 y0 h)) 0)) (λk=>bs.length - k) 0 zr ?_ ?_
   ·clear e2
    rintro k e m ⟨hk,e2,e8,e9,e79,e80,g12,g14,g16,g17,sv,e12,m12,e14,m14,e16,m16,e17,m17,e18,m116⟩
    by_cases hlt:k < bs.length
    ·have hb:=hs bs[k] (Zzm hlt);have hr:=hok bs[k] (Zzm hlt);have sx:=Zrj hb;have sy:=Zri hb;have hgx:(bs.map (ratQ ∘ BxQ.cx)).getD k .u=ratQ bs[k].cx:=Zk0 (ratQ ∘ BxQ.cx) hlt;have hgy:(bs.map (ratQ ∘ BxQ.cy)).getD k .u=ratQ bs[k].cy:=Zk0 (ratQ ∘ BxQ.cy) hlt;have tk:(bs.take (k+1)).map (pixA f x0 y0 h)=(bs.take k).map (pixA f x0 y0 h)++[pixA f x0 y0 h bs[k]]:=by rw [Zex hlt,Zzz];rfl
     have cD1:=Zoo bs[k].cx x0 sx sx0 zo zo;have cM1:=Zwe f (bs[k].cx - x0) sf (sx.sub sx0) zo zo;have sX:=s20.add (sf.mul (sx.sub sx0));have cA1:Pure prog 28 [ratQ ((20:Nat):Rat),ratQ (f*(bs[k].cx - x0))] (ratQ (pxR f x0 bs[k])):=Zr9 ((20:Nat):Rat) (f*(bs[k].cx - x0)) s20 (sf.mul (sx.sub sx0)) zo zo;have sX:Sz (pxR f x0 bs[k]) _:=sX;have cA2:=Zr9 (pxR f x0 bs[k]) hlf sX Zk5 zo zo;have rX:=rnd_eq hr.1;have cW1:=dWhole (pxR f x0 bs[k]+hlf) (sX.add Zk5) zo (rnd (pxR f x0 bs[k])) rX.2 rX.1;have cD2:=Zoo bs[k].cy y0 sy sy0 zo zo;have cM2:=Zwe f (bs[k].cy - y0) sf (sy.sub sy0) zo zo
     have sY:=sh20.sub (sf.mul (sy.sub sy0));have cA3:Pure prog 26 [ratQ ((h - 20:Nat):Rat),ratQ (f*(bs[k].cy - y0))] (ratQ (pyR f y0 h bs[k])):=Zoo ((h - 20:Nat):Rat) (f*(bs[k].cy - y0)) sh20 (sf.mul (sy.sub sy0)) zo zo;have sY:Sz (pyR f y0 h bs[k]) _:=sY;have cA4:=Zr9 (pyR f y0 h bs[k]) hlf sY Zk5 zo zo;have rY:=rnd_eq hr.2;have cW2:=dWhole (pyR f y0 h bs[k]+hlf) (sY.add Zk5) zo (rnd (pyR f y0 h bs[k])) rY.2 rY.1;clear hb hr sx sy sX sY rX rY;simp only [pixA] at tk;generalize rnd (pxR f x0 bs[k])=px at *;generalize rnd (pyR f y0 h bs[k])=py at *;generalize pxR f x0 bs[k]+hlf=Xh at *
     generalize pyR f y0 h bs[k]+hlf=Yh at *;generalize pxR f x0 bs[k]=X at *;generalize pyR f y0 h bs[k]=Y at *;generalize f*(bs[k].cx - x0)=m1 at *;generalize f*(bs[k].cy - y0)=mm2 at *;generalize bs[k].cx - x0=r1 at *;generalize bs[k].cy - y0=r2 at *;generalize bs[k].cx=q1 at *;generalize bs[k].cy=q2 at *;generalize ((20:Nat):Rat)=z20 at *;generalize ((h - 20:Nat):Rat)=zh at *;simp only [Zc3] at m12 m14 m16 m17;(focus (refine wkax (w_2 e79 e80) w_t w_t w_t w_t w_t w_t (w_r 0) ?_;(repeat' first|exact w_t|apply w_l);all_goals intros));apply Zas (Zbu [(0,ratQ z20),(7,ratQ r1),(8,ratQ m1),(9,ratQ X)]) [] [20] zk zr zk;(focus (simp only [Zze,Zzi,Nat.reduceAdd];rfl))
     (focus (refine wkax (w_8 e80 e8 e12 m12 e16 m16 hgx @Zbq) (w_4 c20 cD1 cM1 cA1) w_t w_t w_t w_t w_t (w_r 0) ?_;(repeat' first|exact w_t|apply w_l);all_goals intros));apply Zas (Zbu [(2,ratQ zh),(9,ratQ r2),(10,ratQ mm2),(11,ratQ Y)]) [] [21] zk zr zk;(focus (simp only [Zze,Zzi,Nat.reduceAdd];rfl));(focus (refine wkax (w_10 e80 eh e2 e9 e14 m14 e16 m16 hgy @Zbq) (w_4 ch20 cD2 cM2 cA3) w_t w_t w_t w_t w_t (w_r 0) ?_;(repeat' first|exact w_t|apply w_l);all_goals intros));apply Zas (Zbu [(3,ratQ Xh),(4,.v (.int .i64 (px:Int))),(7,ratQ Yh),(8,.v (.int .i64 (py:Int))),(10,.sl 2 [.agg [.v (.int .i64 (px:Int)),.v (.int .i64 (py:Int))]])]) [11] [116] zk zr zk;(focus (simp only [Zze,Zzi,Nat.reduceAdd];rfl))
     (focus (refine wkax (w_5 e80 e17 m17 e18 m116) (w_4 cA2 cW1 cA4 cW2) w_t w_t w_t w_t w_t (w_r 0) ?_;(repeat' first|exact w_t|apply w_l);all_goals intros));exact⟨k+1,⟨zo,gW e2,gW e8,gW e9,gW e79,gS,g12,g14,g16,g17,_,gW e12,gW m12,gW e14,gW m14,gW e16,gW m16,gW e17,gW m17,gC,gW tk⟩,zo⟩
    ·rw [ZA4 zo] at m116;(focus (refine wkax (w_4 e79 e80 e18 m116) w_t w_t w_t w_t w_t w_t (w_r 0) ?_;(repeat' first|exact w_t|apply w_l);all_goals intros));simp (disch:=omega) only [go_sem,e18,m116]
   ·exact⟨zo,gW e2,gC,gC,by(simp (disch:=omega) only [go_sem,Zy3]<;>repeat' first|rfl|refine⟨?_,?_⟩),gC,_,_,_,_,_,gC,by(simp (disch:=omega) only [go_sem,Zc3]<;>repeat' first|rfl|refine⟨?_,?_⟩),gC,by(simp (disch:=omega) only [go_sem,Zc3]<;>repeat' first|rfl|refine⟨?_,?_⟩),gC,by(simp (disch:=omega) only [go_sem,Zc3]<;>repeat' first|rfl|refine⟨?_,?_⟩),gC,by(simp (disch:=omega) only [go_sem,Zc3]<;>repeat' first|rfl|refine⟨?_,?_⟩),gC,gC⟩
 ·exact⟨zo,gC,gC,gC,gC,by(simp (disch:=omega) only [go_sem,Zy3]<;>repeat' first|rfl|refine⟨?_,?_⟩),gC,_,_,gC,gC,gC,gC⟩
structure RBox where
 a:RQ
 b:RQ
 c:RQ
 d:RQ
abbrev RBox.av (x:RBox):AV:=.agg [.v (.bool x.a.s),lim x.a.l,lim x.a.d,.v (.bool x.b.s),lim x.b.l,lim x.b.d,.v (.bool x.c.s),lim x.c.l,lim x.c.d,.v (.bool x.d.s),lim x.d.l,lim x.d.d]
def RBox.lm (x:RBox) (k:Nat):Prop:=x.a.lm k∧x.b.lm k∧x.c.lm k∧x.d.lm k
def iok (lo hi:RQ):Bool:=lo.ok && hi.ok && decide (cmpQ lo.q hi.q≤0)
def RQ.sh (r:RQ):Bool:=r.ok && decide (r.l.length≤4) && decide (r.d.length≤4)
def RBox.iok (x:RBox):Bool:=Go.Proofs.YtjbjejmmnbdbiaaGreat.iok x.a x.b && Go.Proofs.YtjbjejmmnbdbiaaGreat.iok x.c x.d
def RBox.sh (x:RBox):Bool:=x.a.sh && x.b.sh && x.c.sh && x.d.sh
theorem Zyu {α:Type} {l:List α} {p:α→Bool} {k:Nat} (h:k < l.length) (hp:p l[k]=false):l.all p=false:=by
 rw [List.all_eq_false];exact⟨l[k],Zzm h,by rw [hp];simp⟩
theorem Ztc {α:Type} {l:List α} {p:α→Bool} {k:Nat} (h:k < l.length) (h1:(l.take k).all p=true) (hp:p l[k]=true):(l.take (k+1)).all p=true:=by
 rw [Zex h,List.all_append,h1];simp [hp]
theorem vRight (lo hi:RQ) (h1:lo.lm 1100000) (h2:hi.lm 1100000):Pure prog 39 [.agg [.v (.bool lo.s),lim lo.l,lim lo.d,.v (.bool hi.s),lim hi.l,lim hi.d]] (.v (.bool (iok lo hi))):=by
 have c1:=Zop lo.s lo.l lo.d h1.1 h1.2.1 (by have:=h1.2.2.1;omega) (by have:=h1.2.2.2;omega);have c2:=Zop hi.s hi.l hi.d h2.1 h2.2.1 (by have:=h2.2.2.1;omega) (by have:=h2.2.2.2;omega)
 have cc:lo.ok=true→hi.ok=true→Pure prog 81 [lo.av,hi.av] (.v (.int .i64 (cmpQ lo.q hi.q))):=by
  intro k1 k2;obtain⟨e1,s1⟩:=RQ.ok_av (k:=1100000) h1 k1;obtain⟨e2,s2⟩:=RQ.ok_av (k:=1100000) h2 k2;rw [e1,e2];exact qCmp _ _ s1 s2 zo zo
 unfold iok;have e1:RQ.ok ⟨lo.s,lo.l,lo.d⟩=lo.ok:=rfl;have e2:RQ.ok ⟨hi.s,hi.l,hi.d⟩=hi.ok:=rfl;rw [e1] at c1;rw [e2] at c2;generalize lo.ok=v1 at *;generalize hi.ok=v2 at *;cases v1
 ·refine pI func39 rfl ntmps39 results39 call39 ?_;(focus (refine wkad (w_1 @Zzr) (w_1 c1) w_t ?_;(repeat' first|exact w_t|apply w_l);all_goals intros));simp (disch:=omega) only [go_sem,Zzr]
 ·cases v2
  ·refine pI func39 rfl ntmps39 results39 call39 ?_;(focus (refine wkad (w_1 @Zzr) (w_2 c1 c2) w_t ?_;(repeat' first|exact w_t|apply w_l);all_goals intros));simp (disch:=omega) only [go_sem,Zzr]
  ·have cc:=cc rfl rfl;generalize cmpQ lo.q hi.q=s at *;by_cases hs:s≤0
   ·rw [Zy6 hs];refine pI func39 rfl ntmps39 results39 call39 ?_;(focus (refine wkad w_t (w_3 c1 c2 cc) w_t ?_;(repeat' first|exact w_t|apply w_l);all_goals intros));simp (disch:=omega) only [go_sem]
   ·rw [Zy2 hs];refine pI func39 rfl ntmps39 results39 call39 ?_;(focus (refine wkad (w_1 @ZBt) (w_3 c1 c2 cc) w_t ?_;(repeat' first|exact w_t|apply w_l);all_goals intros));simp (disch:=omega) only [go_sem,ZBt]
theorem Zk4 (r:RQ) (h:r.lm 1100000):Pure prog 6 [r.av] (.v (.bool r.sh)):=by
 have c1:=Zop r.s r.l r.d h.1 h.2.1 (by have:=h.2.2.1;omega) (by have:=h.2.2.2;omega);have e1:RQ.ok ⟨r.s,r.l,r.d⟩=r.ok:=rfl;rw [e1] at c1;unfold RQ.sh;have l1:=h.2.2.1;have l2:=h.2.2.2;generalize r.ok=v1 at *;cases v1
 ·refine pI func6 rfl ntmps6 results6 call6 ?_;(focus (refine wkad (w_1 @Zzr) (w_1 c1) w_t ?_;(repeat' first|exact w_t|apply w_l);all_goals intros));simp (disch:=omega) only [go_sem,Zzr]
 ·by_cases h1:r.l.length≤4
  ·rw [Zy6 h1];by_cases h2:r.d.length≤4
   ·rw [Zy6 h2];refine pI func6 rfl ntmps6 results6 call6 ?_;(focus (refine wkad w_t (w_1 c1) w_t ?_;(repeat' first|exact w_t|apply w_l);all_goals intros));simp (disch:=omega) only [go_sem]
   ·rw [Zy2 h2];refine pI func6 rfl ntmps6 results6 call6 ?_;(focus (refine wkad w_t (w_1 c1) w_t ?_;(repeat' first|exact w_t|apply w_l);all_goals intros));simp (disch:=omega) only [go_sem,ZBt]
  ·rw [Zy2 h1];refine pI func6 rfl ntmps6 results6 call6 ?_;(focus (refine wkad w_t (w_1 c1) w_t ?_;(repeat' first|exact w_t|apply w_l);all_goals intros));simp (disch:=omega) only [go_sem,ZBt,Zzr]
theorem bRight (l:List RBox) (h:∀b∈l,b.lm 1100000) (hl:l.length≤1000000000):Pure prog 15 [.sl 12 (l.map RBox.av)] (.v (.bool (l.all RBox.iok))):=by
 refine pI func15 rfl ntmps15 results15 call15 ?_;(focus (refine wkad (w_1 @Zbq) w_t w_t ?_;(repeat' first|exact w_t|apply w_l);all_goals intros));refine Zab (ι:=Nat) (λk e m=>k≤l.length∧e 5=.sl 12 (l.map RBox.av)∧e 6=.v (.int .i64 l.length)∧e 7=.v (.int .i64 (k:Int))∧(l.take k).all RBox.iok=true) (λk=>l.length - k) 0 zr ?_ ?_
 ·rintro k e m ⟨hk,e5,e6,e7,hall⟩
  by_cases hlt:k < l.length
  ·have hget:(l.map RBox.av).getD k .u=RBox.av l[k]:=Zk0 RBox.av hlt;have hb:=h l[k] (Zzm hlt);have c1:=vRight l[k].a l[k].b hb.1 hb.2.1;have c2:=vRight l[k].c l[k].d hb.2.2.1 hb.2.2.2;have hf:=@Zyu _ l RBox.iok k hlt;have ht:=@Ztc _ l RBox.iok k hlt hall;unfold RBox.iok at hf ht;generalize iok l[k].a l[k].b=v1 at *;generalize iok l[k].c l[k].d=v2 at *;cases v1
   ·have hf:=hf rfl;have hf:l.all RBox.iok=false:=hf;(focus (refine wkad (w_5 e5 e6 e7 hget @Zbq) (w_1 c1) w_t ?_;(repeat' first|exact w_t|apply w_l);all_goals intros));simp (disch:=omega) only [go_sem,hf]
   ·cases v2
    ·have hf:=hf rfl;have hf:l.all RBox.iok=false:=hf;(focus (refine wkad (w_5 e5 e6 e7 hget @Zbq) (w_2 c1 c2) w_t ?_;(repeat' first|exact w_t|apply w_l);all_goals intros));simp (disch:=omega) only [go_sem,hf]
    ·have ht:=ht rfl;(focus (refine wkad (w_5 e5 e6 e7 hget @Zbq) (w_2 c1 c2) w_t ?_;(repeat' first|exact w_t|apply w_l);all_goals intros));exact⟨k+1,⟨zo,gW e5,gW e6,gS,ht⟩,zo⟩
  ·rw [ZA4 zo] at hall;(focus (refine wkad (w_4 e5 e6 e7 @Zbq) w_t w_t ?_;(repeat' first|exact w_t|apply w_l);all_goals intros));simp (disch:=omega) only [go_sem,hall]
 ·exact⟨zo,gC,gC,gC,by simp⟩
def okB (l:List RBox):Bool:=l.all RBox.sh && decide (l.length≤12) && l.all RBox.iok
theorem lBoxes (l:List RBox) (h:∀b∈l,b.lm 1100000) (hl:l.length≤1000000000):Pure prog 5 [.sl 12 (l.map RBox.av)] (.v (.bool (okB l))):=by
 have cR:=bRight l h hl;unfold okB;refine pI func5 rfl ntmps5 results5 call5 ?_;(focus (refine wkad (w_1 @Zbq) w_t w_t ?_;(repeat' first|exact w_t|apply w_l);all_goals intros));refine Zab (ι:=Nat) (λk e m=>k≤l.length∧e 0=.sl 12 (l.map RBox.av)∧e 5=.sl 12 (l.map RBox.av)∧e 6=.v (.int .i64 l.length)∧e 7=.v (.int .i64 (k:Int))∧(l.take k).all RBox.sh=true) (λk=>l.length - k) 0 zr ?_ ?_
 ·rintro k e m ⟨hk,e0,e5,e6,e7,hall⟩
  by_cases hlt:k < l.length
  ·have hget:(l.map RBox.av).getD k .u=RBox.av l[k]:=Zk0 RBox.av hlt;have hb:=h l[k] (Zzm hlt);have c1:=Zk4 l[k].a hb.1;have c2:=Zk4 l[k].b hb.2.1;have c3:=Zk4 l[k].c hb.2.2.1;have c4:=Zk4 l[k].d hb.2.2.2;have hf:=@Zyu _ l RBox.sh k hlt;have ht:=@Ztc _ l RBox.sh k hlt hall;unfold RBox.sh at hf ht;generalize l[k].a.sh=v1 at *;generalize l[k].b.sh=v2 at *;generalize l[k].c.sh=v3 at *;generalize l[k].d.sh=v4 at *;cases v1
   ·have hf:l.all RBox.sh=false:=hf rfl;(focus (refine wkad (w_5 e5 e6 e7 hget @Zbq) (w_1 c1) w_t ?_;(repeat' first|exact w_t|apply w_l);all_goals intros));simp (disch:=omega) only [go_sem,hf,Zzr]
   ·cases v2
    ·have hf:l.all RBox.sh=false:=hf rfl;(focus (refine wkad (w_5 e5 e6 e7 hget @Zbq) (w_2 c1 c2) w_t ?_;(repeat' first|exact w_t|apply w_l);all_goals intros));simp (disch:=omega) only [go_sem,hf,Zzr]
    ·cases v3
     ·have hf:l.all RBox.sh=false:=hf rfl;(focus (refine wkad (w_5 e5 e6 e7 hget @Zbq) (w_3 c1 c2 c3) w_t ?_;(repeat' first|exact w_t|apply w_l);all_goals intros));simp (disch:=omega) only [go_sem,hf,Zzr]
     ·cases v4
      ·have hf:l.all RBox.sh=false:=hf rfl;(focus (refine wkad (w_5 e5 e6 e7 hget @Zbq) (w_4 c1 c2 c3 c4) w_t ?_;(repeat' first|exact w_t|apply w_l);all_goals intros));simp (disch:=omega) only [go_sem,hf,Zzr]
      ·have ht:=ht rfl;(focus (refine wkad (w_5 e5 e6 e7 hget @Zbq) (w_4 c1 c2 c3 c4) w_t ?_;(repeat' first|exact w_t|apply w_l);all_goals intros));exact⟨k+1,⟨zo,gW e0,gW e5,gW e6,gS,ht⟩,zo⟩
  ·rw [ZA4 zo] at hall;by_cases h12:l.length≤12
   ·rw [Zy6 h12];(focus (refine wkad (w_5 e0 e5 e6 e7 @Zbq) (w_1 cR) w_t ?_;(repeat' first|exact w_t|apply w_l);all_goals intros));simp (disch:=omega) only [go_sem,hall]
   ·rw [Zy2 h12];(focus (refine wkad (w_5 e0 e5 e6 e7 @Zbq) (w_1 cR) w_t ?_;(repeat' first|exact w_t|apply w_l);all_goals intros));simp (disch:=omega) only [go_sem,hall,ZBt,Zzr]
 ·exact⟨zo,gC,gC,by(simp (disch:=omega) only [go_sem,Zy3]<;>repeat' first|rfl|refine⟨?_,?_⟩),gC,by simp⟩
abbrev cells2 (a b:Rat):List AV:=[.v (.bool (decide (a.num < 0))),lim (toL a.num.natAbs),lim (toL a.den),.v (.bool (decide (b.num < 0))),lim (toL b.num.natAbs),lim (toL b.den)]
theorem Zkz:∀(l:List Rat) (m:Rat),minF m l≤m∧∀a∈l,minF m l≤a
 | [],m=>⟨Rat.le_refl,by simp⟩
 | a :: l,m=>by
   have e:minF m (a :: l)=minF (if a < m then a else m) l:=rfl;obtain⟨h1,h2⟩:=Zkz l (if a < m then a else m);rw [e];have h3:(if a < m then a else m)≤m:=by split<;>grind
   have h4:(if a < m then a else m)≤a:=by split<;>grind
   refine⟨Rat.le_trans h1 h3,λb hb=>?_⟩;rcases List.mem_cons.1 hb with rfl | hb
   ·exact Rat.le_trans h1 h4
   ·exact h2 b hb
theorem Zk3:∀(l:List Rat) (m:Rat),m≤maxF m l∧∀a∈l,a≤maxF m l
 | [],m=>⟨Rat.le_refl,by simp⟩
 | a :: l,m=>by
   have e:maxF m (a :: l)=maxF (if m < a then a else m) l:=rfl;obtain⟨h1,h2⟩:=Zk3 l (if m < a then a else m);rw [e];have h3:m≤(if m < a then a else m):=by split<;>grind
   have h4:a≤(if m < a then a else m):=by split<;>grind
   refine⟨Rat.le_trans h3 h1,λb hb=>?_⟩;rcases List.mem_cons.1 hb with rfl | hb
   ·exact Rat.le_trans h4 h1
   ·exact h2 b hb
theorem Zs1 {a b:Rat} (ha:0≤a) (hb:0 < b):0≤a/b:=by
 rw [Rat.div_def];exact Rat.mul_nonneg ha (Rat.le_of_lt (Rat.inv_pos.2 hb))
theorem Zjo {a b:Rat} (hb:b≠0):a/b*b=a:=Rat.div_mul_cancel hb
theorem fac_ok {w h:Nat} {x y:Rat} (hx:0≤x) (hy:0≤y):0≤fac w h x y∧fac w h x y*x≤((w - 40:Nat):Rat)∧fac w h x y*y≤((h - 40:Nat):Rat):=by
 have nw:(0:Rat)≤((w - 40:Nat):Rat):=Rat.natCast_nonneg;have nh:(0:Rat)≤((h - 40:Nat):Rat):=Rat.natCast_nonneg;generalize hw':((w - 40:Nat):Rat)=W at *;generalize hh':((h - 40:Nat):Rat)=H at *;unfold fac;rw [hw',hh'];by_cases h0:x=0
 ·rw [Zy1 h0];by_cases h1:y=0
  ·rw [Zy1 h1,h0,h1,ZDp];exact⟨by decide,nw,nh⟩
  ·rw [Zy0 h1,h0,ZDp,Zjo h1];exact⟨Zs1 nh (by grind),nw,Rat.le_refl⟩
 ·rw [Zy0 h0];have hxp:0 < x:=by grind
  by_cases h1:y=0
  ·rw [Zy1 h1,h1,ZDp,Zjo h0];exact⟨Zs1 nw hxp,Rat.le_refl,nh⟩
  ·have hyp:0 < y:=by grind
   rw [Zy0 h1];by_cases hlt:H/y < W/x
   ·rw [Zy1 hlt,Zjo h1];refine⟨Zs1 nh hyp,?_,Rat.le_refl⟩;have:=Rat.mul_le_mul_of_nonneg_right (Rat.le_of_lt hlt) hx
    rwa [Zjo h0] at this
   ·rw [Zy0 hlt,Zjo h0];refine⟨Zs1 nw hxp,Rat.le_refl,?_⟩;have:=Rat.mul_le_mul_of_nonneg_right (Rat.not_lt.1 hlt) hy
    rwa [Zjo h1] at this
theorem Zsw:hlf=1/2:=by
 have:=Rat.mkRat_eq_div 1 2;exact this
theorem Zsz {q:Rat} {a b:Nat} (h1:((a:Nat):Rat)≤q) (h2:q≤((b:Nat):Rat)):(a:Int)≤(q+hlf).floor∧(q+hlf).floor≤(b:Int):=by
 constructor
 ·refine Rat.le_floor_iff.2 ?_;have:(((a:Nat):Int):Rat)=((a:Nat):Rat):=rfl;rw [this,Zsw]
  grind
 ·have h3:(q+hlf).floor < (b:Int)+1:=by
   refine Rat.floor_lt_iff.2 ?_;have:(((b:Nat):Int):Rat)=((b:Nat):Rat):=rfl;rw [Rat.intCast_add,this,Zsw];have:((1:Int):Rat)=1:=rfl;rw [this]
   grind
  omega
theorem Zof {f c c0 c1:Rat} {w:Nat} (hf:0≤f) (hw:f*(c1 - c0)≤((w - 40:Nat):Rat)) (hw0:40≤w) (h1:c0≤c) (h2:c≤c1) :
 ((0:Nat):Rat)≤f*(c - c0)∧f*(c - c0)≤((w - 40:Nat):Rat):=by
 have a1:0≤c - c0:=by grind
 have a2:c - c0≤c1 - c0:=by grind
 exact⟨Rat.mul_nonneg hf a1,Rat.le_trans (Rat.mul_le_mul_of_nonneg_left a2 hf) hw⟩
theorem Zf8 {a b:Nat} (h:b≤a):((a - b:Nat):Rat)=(a:Rat) - (b:Rat):=by
 have:(a:Rat)=((a - b+b:Nat):Rat):=by rw [ZDa h]
 rw [this,Rat.natCast_add]
 grind
theorem px_in {f x0 x1:Rat} {w:Nat} {b:BxQ} (hf:0≤f) (hw:f*(x1 - x0)≤((w - 40:Nat):Rat)) (hw0:40≤w) (h1:x0≤b.cx) (h2:b.cx≤x1):(20:Int)≤(pxR f x0 b+hlf).floor∧(pxR f x0 b+hlf).floor≤((w - 20:Nat):Int):=by
 have h:=Zof hf hw hw0 h1 h2;have e1:=Zf8 (a:=w) (b:=40) zo;have e2:=Zf8 (a:=w) (b:=20) zo;refine Zsz (a:=20) ?_ ?_
 ·unfold pxR;generalize f*(b.cx - x0)=z at *;have:=h.1
  grind
 ·unfold pxR;rw [e2];rw [e1] at h;generalize f*(b.cx - x0)=z at *;have:=h.2
  grind
theorem py_in {f y0 y1:Rat} {h:Nat} {b:BxQ} (hf:0≤f) (hw:f*(y1 - y0)≤((h - 40:Nat):Rat)) (hw0:40≤h) (h1:y0≤b.cy) (h2:b.cy≤y1):(20:Int)≤(pyR f y0 h b+hlf).floor∧(pyR f y0 h b+hlf).floor≤((h - 20:Nat):Int):=by
 have hh:=Zof hf hw hw0 h1 h2;have e1:=Zf8 (a:=h) (b:=40) zo;have e2:=Zf8 (a:=h) (b:=20) zo;refine Zsz (a:=20) ?_ ?_
 ·unfold pyR;rw [e2];rw [e1] at hh;generalize f*(b.cy - y0)=z at *;have:=hh.2
  grind
 ·unfold pyR;generalize f*(b.cy - y0)=z at *;have:=hh.1
  grind
def RBox.q (x:RBox):BxQ:=⟨x.a.q,x.b.q,x.c.q,x.d.q⟩
theorem RQ.sh_av {r:RQ} (h1:Lm r.l) (h2:Lm r.d) (h:r.sh=true):r.av=ratQ r.q∧Sz r.q 4:=by
 simp only [RQ.sh,Zzn,Zzu] at h;exact RQ.ok_av ⟨h1,h2,h.1.2,h.2⟩ h.1.1
theorem RBox.sh_av {x:RBox} {k:Nat} (hl:x.lm k) (h:x.sh=true):x.av=x.q.av∧x.q.sz 4:=by
 simp only [RBox.sh,Zzn] at h;obtain⟨⟨⟨ha,hb⟩,hc⟩,hd⟩:=h;obtain⟨la,lb,lc,ld⟩:=hl;obtain⟨ea,sa⟩:=RQ.sh_av la.1 la.2.1 ha;obtain⟨eb,sb⟩:=RQ.sh_av lb.1 lb.2.1 hb;obtain⟨ec,sc⟩:=RQ.sh_av lc.1 lc.2.1 hc;obtain⟨ed,sd⟩:=RQ.sh_av ld.1 ld.2.1 hd;refine⟨?_,sa,sb,sc,sd⟩;show AV.agg (x.a.av.cells++(x.b.av.cells++(x.c.av.cells++x.d.av.cells)))=AV.agg ((ratQ x.a.q).cells++((ratQ x.b.q).cells++((ratQ x.c.q).cells++(ratQ x.d.q).cells)));rw [ea,eb,ec,ed]
theorem okB_row {l:List RBox} {k:Nat} (hl:∀b∈l,b.lm k) (h:okB l=true):l.map RBox.av=(l.map RBox.q).map BxQ.av∧(∀b∈l.map RBox.q,b.sz 4)∧l.length≤12:=by
 simp only [okB,Zzn,Zzu,ZBb] at h;obtain⟨⟨h1,h2⟩,_⟩:=h;refine⟨?_,λb hb=>?_,h2⟩
 ·rw [List.map_map];exact ZBp λx hx=>(RBox.sh_av (hl x hx) (h1 x hx)).1
 ·obtain⟨x,hx,rfl⟩:=List.mem_map.1 hb;exact(RBox.sh_av (hl x hx) (h1 x hx)).2
theorem Zry (b0:BxQ) (rest:List BxQ) (w h:Nat) (h1:100≤w) (h2:w≤4000) (h3:100≤h) (h4:h≤4000)
 {x0 x1 y0 y1 f:Rat} (ex0:minF b0.cx (rest.map BxQ.cx)=x0) (ex1:maxF b0.cx (rest.map BxQ.cx)=x1) (ey0:minF b0.cy (rest.map BxQ.cy)=y0) (ey1:maxF b0.cy (rest.map BxQ.cy)=y1)
 (ef:fac w h (x1 - x0) (y1 - y0)=f):(0≤f)∧∀b∈b0 :: rest,((20:Int)≤(pxR f x0 b+hlf).floor∧(pxR f x0 b+hlf).floor≤((w - 20:Nat):Int))∧((20:Int)≤(pyR f y0 h b+hlf).floor∧(pyR f y0 h b+hlf).floor≤((h - 20:Nat):Int)):=by
 have hx:∀b∈b0 :: rest,x0≤b.cx∧b.cx≤x1:=by
  intro b hb;have m1:=Zkz (rest.map BxQ.cx) b0.cx;have m2:=Zk3 (rest.map BxQ.cx) b0.cx;rw [ex0] at m1;rw [ex1] at m2;rcases List.mem_cons.1 hb with rfl | hb
  ·exact⟨m1.1,m2.1⟩
  ·exact⟨m1.2 _ (List.mem_map_of_mem hb),m2.2 _ (List.mem_map_of_mem hb)⟩
 have hy:∀b∈b0 :: rest,y0≤b.cy∧b.cy≤y1:=by
  intro b hb;have m1:=Zkz (rest.map BxQ.cy) b0.cy;have m2:=Zk3 (rest.map BxQ.cy) b0.cy;rw [ey0] at m1;rw [ey1] at m2;rcases List.mem_cons.1 hb with rfl | hb
  ·exact⟨m1.1,m2.1⟩
  ·exact⟨m1.2 _ (List.mem_map_of_mem hb),m2.2 _ (List.mem_map_of_mem hb)⟩
 have dx:0≤x1 - x0:=by have:=hx b0 ZAc;grind
 have dy:0≤y1 - y0:=by have:=hy b0 ZAc;grind
 have hf:=fac_ok (w:=w) (h:=h) dx dy;rw [ef] at hf;refine⟨hf.1,λb hb=>⟨px_in hf.1 hf.2.1 zo (hx b hb).1 (hx b hb).2,py_in hf.1 hf.2.2 zo (hy b hb).1 (hy b hb).2⟩⟩
abbrev ppA (p:Int × Int):AV:=.agg [.v (.int .i64 p.1),.v (.int .i64 p.2)]
theorem Zj1 {q:Rat} {n:Nat} (hn:n≤4000) (h:(20:Int)≤(q+hlf).floor∧(q+hlf).floor≤((n - 20:Nat):Int)):Zqh q:=by unfold Zqh;omega
theorem szCh:szOf prog 30=some 9:=by kernel_rfl
theorem byBox:Zec prog 38=some 224:=by kernel_rfl
theorem zCh:Zaq prog 30=some (.agg #[.bool false,.slice none 0 0,.slice none 0 0,.bool false,.slice none 0 0,.slice none 0 0,.bool false,.slice none 0 0,.slice none 0 0]):=by kernel_rfl
def chB (m vx vy:Rat) (b:BxQ):BxQ:=⟨b.a*m+vx,b.b*m+vx,b.c*m+vy,b.d*m+vy⟩
theorem Zs6 (m vx vy:Rat) (b:BxQ):(chB m vx vy b).cx=b.cx*m+vx:=by
 unfold BxQ.cx chB;rw [Zsw]
 grind
theorem Zs5 (m vx vy:Rat) (b:BxQ):(chB m vx vy b).cy=b.cy*m+vy:=by
 unfold BxQ.cy chB;rw [Zsw]
 grind
theorem Ztd {m v:Rat} (hm:0 < m) (a b:Rat):a*m+v < b*m+v↔a < b:=by
 have h1:a*m < b*m↔a < b:=Rat.mul_lt_mul_right hm
 grind
theorem Znk {m v:Rat} (hm:0 < m):∀(l:List Rat) (a:Rat),minF (a*m+v) (l.map λx=>x*m+v)=minF a l*m+v
 | [],a=>rfl
 | b :: l,a=>by
   show minF (if b*m+v < a*m+v then b*m+v else a*m+v) (l.map λx=>x*m+v)=minF (if b < a then b else a) l*m+v;rw [←Znk hm l];congr 1;by_cases h:b < a
   ·rw [Zy1 h,Zy1 ((Ztd hm b a).2 h)]
   ·rw [Zy0 h,Zy0 (λh2=>h ((Ztd hm b a).1 h2))]
theorem Znm {m v:Rat} (hm:0 < m):∀(l:List Rat) (a:Rat),maxF (a*m+v) (l.map λx=>x*m+v)=maxF a l*m+v
 | [],a=>rfl
 | b :: l,a=>by
   show maxF (if a*m+v < b*m+v then b*m+v else a*m+v) (l.map λx=>x*m+v)=maxF (if a < b then b else a) l*m+v;rw [←Znm hm l];congr 1;by_cases h:a < b
   ·rw [Zy1 h,Zy1 ((Ztd hm a b).2 h)]
   ·rw [Zy0 h,Zy0 (λh2=>h ((Ztd hm a b).1 h2))]
theorem Zso {a b:Rat} (h1:a≠0) (h2:b≠0):a*b≠0:=λh=>by
 rcases Rat.mul_eq_zero.1 h with h | h
 ·exact h1 h
 ·exact h2 h
theorem Zny {m a y:Rat} (hm:0 < m) (hy:y≠0):a/(y*m)*m=a/y:=by
 have hm0:m≠0:=by grind
 have h1:a/(y*m)*(y*m)=a:=Zjo (Zso hy hm0);have h2:a/y*y=a:=Zjo hy;have h3:(a/(y*m)*m)*y=(a/y)*y:=by rw [h2,Rat.mul_assoc,Rat.mul_comm m y,h1]
 grind
theorem fac_aff {w h:Nat} {m x y:Rat} (hm:0 < m):(x=0∧y=0)∨fac w h (x*m) (y*m)*m=fac w h x y:=by
 have hm0:m≠0:=by grind
 by_cases hx:x=0
 ·by_cases hy:y=0
  ·exact .inl ⟨hx,hy⟩
  ·right;have h1:y*m≠0:=Zso hy hm0;subst hx;unfold fac;rw [Rat.zero_mul,Zy1 rfl,Zy0 h1,Zy1 rfl,Zy0 hy];exact Zny hm hy
 ·right;have h0:x*m≠0:=Zso hx hm0;by_cases hy:y=0
  ·subst hy;unfold fac;rw [Rat.zero_mul,Zy0 h0,Zy1 rfl,Zy0 hx,Zy1 rfl];exact Zny hm hx
  ·have h1:y*m≠0:=Zso hy hm0;have e1:=Zny (a:=((h - 40:Nat):Rat)) hm hy;have e2:=Zny (a:=((w - 40:Nat):Rat)) hm hx;have e3:((h - 40:Nat):Rat)/(y*m)*m < ((w - 40:Nat):Rat)/(x*m)*m↔((h - 40:Nat):Rat)/(y*m) < ((w - 40:Nat):Rat)/(x*m):=Rat.mul_lt_mul_right hm;rw [e1,e2] at e3;unfold fac;rw [Zy0 h0,Zy0 h1,Zy0 hx,Zy0 hy];by_cases hc:((h - 40:Nat):Rat)/y < ((w - 40:Nat):Rat)/x
   ·rw [Zy1 hc,Zy1 (e3.1 hc)];exact e1
   ·rw [Zy0 hc,Zy0 (λh=>hc (e3.2 h))];exact e2
theorem Zwo {f f' c x0 x1 m v:Rat} (hf:x1 - x0=0∨f'*m=f) (h1:x0≤c) (h2:c≤x1):f'*(c*m+v - (x0*m+v))=f*(c - x0):=by
 have e:c*m+v - (x0*m+v)=m*(c - x0):=by grind
 rw [e,←Rat.mul_assoc];rcases hf with h | h
 ·have:c - x0=0:=by grind
  rw [this,ZDp,ZDp]
 ·rw [h]
theorem Zwu {f f' x0 x1 y0 y1 m vx vy:Rat} {h:Nat} {b:BxQ} (hx:x1 - x0=0∨f'*m=f) (hy:y1 - y0=0∨f'*m=f) (h1:x0≤b.cx) (h2:b.cx≤x1) (h3:y0≤b.cy) (h4:b.cy≤y1) :
 pixA f' (x0*m+vx) (y0*m+vy) h (chB m vx vy b)=pixA f x0 y0 h b:=by
 have e1:pxR f' (x0*m+vx) (chB m vx vy b)=pxR f x0 b:=by unfold pxR;rw [Zs6,Zwo hx h1 h2]
 have e2:pyR f' (y0*m+vy) h (chB m vx vy b)=pyR f y0 h b:=by unfold pyR;rw [Zs5,Zwo hy h3 h4]
 show AV.agg [.v (.int .i64 (rnd (pxR f' _ _):Int)),.v (.int .i64 (rnd (pyR f' _ _ _):Int))]=_;rw [e1,e2]
theorem pix_all (b0:BxQ) (rest:List BxQ) (w h:Nat) {m vx vy:Rat} (hm:0 < m) {x0 x1 y0 y1 f x0' x1' y0' y1' f':Rat}
 (ex0:minF b0.cx (rest.map BxQ.cx)=x0) (ex1:maxF b0.cx (rest.map BxQ.cx)=x1) (ey0:minF b0.cy (rest.map BxQ.cy)=y0) (ey1:maxF b0.cy (rest.map BxQ.cy)=y1) (ef:fac w h (x1 - x0) (y1 - y0)=f)
 (fx0:minF (chB m vx vy b0).cx ((rest.map (chB m vx vy)).map BxQ.cx)=x0') (fx1:maxF (chB m vx vy b0).cx ((rest.map (chB m vx vy)).map BxQ.cx)=x1') (fy0:minF (chB m vx vy b0).cy ((rest.map (chB m vx vy)).map BxQ.cy)=y0') (fy1:maxF (chB m vx vy b0).cy ((rest.map (chB m vx vy)).map BxQ.cy)=y1') (ff:fac w h (x1' - x0') (y1' - y0')=f') :
 (chB m vx vy b0 :: rest.map (chB m vx vy)).map (pixA f' x0' y0' h)=(b0 :: rest).map (pixA f x0 y0 h):=by
 have k1:(rest.map (chB m vx vy)).map BxQ.cx=(rest.map BxQ.cx).map λx=>x*m+vx:=by rw [List.map_map,List.map_map];exact ZBp λb _=>Zs6 m vx vy b
 have k2:(rest.map (chB m vx vy)).map BxQ.cy=(rest.map BxQ.cy).map λx=>x*m+vy:=by rw [List.map_map,List.map_map];exact ZBp λb _=>Zs5 m vx vy b
 rw [k1,Zs6,Znk hm,ex0] at fx0;rw [k1,Zs6,Znm hm,ex1] at fx1;rw [k2,Zs5,Znk hm,ey0] at fy0;rw [k2,Zs5,Znm hm,ey1] at fy1;have d1:x1' - x0'=(x1 - x0)*m:=by rw [←fx0,←fx1];grind
 have d2:y1' - y0'=(y1 - y0)*m:=by rw [←fy0,←fy1];grind
 rw [d1,d2] at ff;have hfac:=fac_aff (w:=w) (h:=h) (x:=x1 - x0) (y:=y1 - y0) hm;rw [ff,ef] at hfac;have hx:x1 - x0=0∨f'*m=f:=hfac.imp And.left id;have hy:y1 - y0=0∨f'*m=f:=hfac.imp And.right id;have mx:=Zkz (rest.map BxQ.cx) b0.cx;have Mx:=Zk3 (rest.map BxQ.cx) b0.cx;have my:=Zkz (rest.map BxQ.cy) b0.cy;have My:=Zk3 (rest.map BxQ.cy) b0.cy;rw [ex0] at mx;rw [ex1] at Mx;rw [ey0] at my;rw [ey1] at My;subst fx0 fy0;show((b0 :: rest).map (chB m vx vy)).map _=_;rw [List.map_map];refine ZBp λb hb=>?_;rcases List.mem_cons.1 hb with rfl | hb
 ·exact Zwu hx hy mx.1 Mx.1 my.1 My.1
 ·exact Zwu hx hy (mx.2 _ (List.mem_map_of_mem hb)) (Mx.2 _ (List.mem_map_of_mem hb)) (my.2 _ (List.mem_map_of_mem hb)) (My.2 _ (List.mem_map_of_mem hb))
theorem chB_sz {m vx vy:Rat} {b:BxQ} (h:b.sz 4) (hm:Sz m 4) (hx:Sz vx 4) (hy:Sz vy 4):(chB m vx vy b).sz 13 :=
 ⟨(h.1.mul hm).add hx,(h.2.1.mul hm).add hx,(h.2.2.1.mul hm).add hy,(h.2.2.2.mul hm).add hy⟩
end Go.Proofs.YtjbjejmmnbdbiaaGreat
namespace Go.Proofs.YtjbjejmmnbdbiaaGreat
attribute [-bool_to_prop] Bool.and_eq_decide Bool.or_eq_decide Bool.decide_beq_decide decide_eq_decide
section
open Go Go.RowKit Go.Pg
end
section
open Go Go.RowKit Go.Pg
end
end Go.Proofs.YtjbjejmmnbdbiaaGreat
namespace Go.Proofs.YtjbjejmmnbdbiaaGreat
open Go Go.RowKit Go.Pg Go.Proofs.Tryz
def Can (l:List Int):Prop:=(∀j,0≤gI l j)∧(l.length=0∨gI l (l.length - 1)≠0)
def LTm (a b:List Int):Prop:=∃k,gI a k < gI b k∧∀j,k < j→gI a j=gI b j
def ltM (a b:List Int):Prop:=lexC a b (max a.length b.length)=-1
instance:DecidableRel ltM:=λa b=>inferInstanceAs (Decidable (lexC a b (max a.length b.length)=-1))
theorem Zxl {a b:List Int}:∀n,lexC a b n=-1↔∃k,k < n∧gI a k < gI b k∧∀j,k < j→j < n→gI a j=gI b j
 | 0=>by
   constructor
   ·intro h;exact absurd h (by show ¬(0:Int)=-1;omega)
   ·rintro ⟨k,h,_⟩;omega
 | n+1=>by
   unfold lexC;by_cases h:gI a n=gI b n
   ·rw [Zy1 h,Zxl n];constructor
    ·rintro ⟨k,h1,h2,h3⟩
     exact⟨k,zo,h2,λj h4 h5=>by by_cases hj:j=n;subst hj;exact h;exact h3 j h4 zo⟩
    ·rintro ⟨k,h1,h2,h3⟩
     have:k≠n:=by rintro rfl;omega
     exact⟨k,zo,h2,λj h4 h5=>h3 j h4 zo⟩
   ·rw [Zy0 h];unfold lt1;constructor
    ·intro h1;by_cases h2:gI a n < gI b n
     ·exact⟨n,zo,h2,λj h3 h4=>zo⟩
     ·rw [Zy0 h2] at h1;omega
    ·rintro ⟨k,h1,h2,h3⟩
     by_cases hk:k=n
     ·subst hk;rw [Zy1 h2]
     ·exact absurd (h3 n zo zo) h
theorem Zi2 {a b:List Int}:ltM a b↔LTm a b:=by
 unfold ltM LTm;rw [Zxl];constructor
 ·rintro ⟨k,h1,h2,h3⟩
  refine⟨k,h2,λj h4=>?_⟩;by_cases hj:j < max a.length b.length
  ·exact h3 j h4 hj
  ·rw [Zc5 zo,Zc5 zo]
 ·rintro ⟨k,h2,h3⟩
  refine⟨k,?_,h2,λj h4 _=>h3 j h4⟩;by_cases hk:k < max a.length b.length
  ·exact hk
  ·rw [Zc5 zo,Zc5 zo] at h2;omega
theorem Zi3 {a b:List Int}:∀n,lexC a b n=0∧(∀j,j < n→gI a j=gI b j)∨lexC a b n=-1∨lexC a b n=1
 | 0=>.inl ⟨rfl,λj h=>zo⟩
 | n+1=>by
   unfold lexC;by_cases h:gI a n=gI b n
   ·rw [Zy1 h];rcases @Zi3 a b n with⟨h1,h2⟩ | h1
    ·exact .inl ⟨h1,λj hj=>by by_cases e:j=n;subst e;exact h;exact h2 j zo⟩
    ·exact .inr h1
   ·rw [Zy0 h];unfold lt1;split
    ·exact .inr (.inl rfl)
    ·exact .inr (.inr rfl)
theorem Zno {a b:List Int}:∀n,lexC b a n=- lexC a b n
 | 0=>rfl
 | n+1=>by
   unfold lexC;by_cases h:gI a n=gI b n
   ·rw [Zy1 h,Zy1 h.symm,Zno n]
   ·rw [Zy0 h,Zy0 (λe=>h e.symm)];unfold lt1;by_cases h1:gI a n < gI b n
    ·rw [Zy1 h1,Zy0 zo];rfl
    ·rw [Zy0 h1,Zy1 zo]
theorem Zym {a b:List Int} (ha:Can a) (hb:Can b) (h:∀j,gI a j=gI b j):a=b:=by
 have hl:a.length=b.length:=by
  have h1:=h (a.length - 1);have h2:=h (b.length - 1);rcases Nat.lt_trichotomy a.length b.length with hl | hl | hl
  ·rcases hb.2 with hb0 | hb0
   ·omega
   ·rw [←h2,Zc5 zo] at hb0;exact absurd rfl hb0
  ·exact hl
  ·rcases ha.2 with ha0 | ha0
   ·omega
   ·rw [h1,Zc5 zo] at ha0;exact absurd rfl ha0
 refine List.ext_getElem hl λj h1 h2=>?_;have:=h j
 rwa [Zga h1,Zga h2] at this
theorem ordM:Go.Pol.KO Can ltM where
 irr x h:=by obtain⟨k,h1,_⟩:=Zi2.1 h;omega
 tr x y z h g:=by
  obtain⟨k,h1,h2⟩:=Zi2.1 h;obtain⟨i,g1,g2⟩:=Zi2.1 g;rw [Zi2];rcases Nat.lt_trichotomy k i with h3 | h3 | h3
  ·exact⟨i,by rw [h2 i h3];exact g1,λj hj=>by rw [h2 j zo,g2 j hj]⟩
  ·subst h3;exact⟨k,zo,λj hj=>by rw [h2 j hj,g2 j hj]⟩
  ·exact⟨k,by rw [←g2 k h3];exact h1,λj hj=>by rw [h2 j hj,g2 j zo]⟩
 tri x y hx hy:=by
  rcases @Zi3 x y (max x.length y.length) with⟨_,h⟩ | h | h
  ·refine .inr (.inl (Zym hx hy λj=>?_));by_cases hj:j < max x.length y.length
   ·exact h j hj
   ·rw [Zc5 zo,Zc5 zo]
  ·exact .inl h
  ·refine .inr (.inr ?_);unfold ltM;rw [Nat.max_comm,Zno,h]
theorem Zhu (F:Int→Int→Int) (h0:F 0 0=0) (a b:List Int) (j:Nat):gI (zipI F a b) j=F (gI a j) (gI b j):=by
 by_cases h:j < max a.length b.length
 ·rw [Zga (by unfold zipI;simpa using h)];unfold zipI;simp only [List.getElem_map,List.getElem_range]
 ·rw [Zc5 (by unfold zipI;simp only [Zy3,List.length_range];omega),Zc5 zo,Zc5 zo,h0]
abbrev mulM (a b:List Int):List Int:=zipI (·+·) a b
theorem Zik (a b:List Int):(mulM a b).length=max a.length b.length:=by simp [mulM,zipI]
theorem mulK:Go.Pol.KM Can ltM mulM where
 comm x y:=by
  unfold mulM zipI;rw [Nat.max_comm];exact ZBp λi _=>Int.add_comm _ _
 dom x y hx hy:=by
  refine⟨λj=>by rw [Zhu _ rfl];have:=hx.1 j;have:=hy.1 j;omega,?_⟩;rw [Zik,Zhu _ rfl];have a1:=hx.1 (max x.length y.length - 1);have b1:=hy.1 (max x.length y.length - 1);rcases Nat.le_total x.length y.length with h | h
  ·rw [Nat.max_eq_right h] at *;rcases hy.2 with h1 | h1
   ·exact .inl h1
   ·exact .inr zo
  ·rw [Nat.max_eq_left h] at *;rcases hx.2 with h1 | h1
   ·exact .inl h1
   ·exact .inr zo
 mono x y z _ _ _ h:=by
  obtain⟨k,h1,h2⟩:=Zi2.1 h;rw [Zi2];exact⟨k,by rw [Zhu _ rfl,Zhu _ rfl];omega,λj hj=>by rw [Zhu _ rfl,Zhu _ rfl,h2 j hj]⟩
def mvN (v:Nat→Rat) (m:List Int):Nat→Rat
 | 0=>1
 | n+1=>mvN v m n*v n ^ (gI m n).toNat
def mv (v:Nat→Rat) (m:List Int):Rat:=mvN v m m.length
end Go.Proofs.YtjbjejmmnbdbiaaGreat
namespace Go.Proofs.YtjbjejmmnbdbiaaGreat
open Go Go.RowKit Go.Pg Go.Pol Go.Proofs.Tryz
attribute [-bool_to_prop] Bool.and_eq_decide Bool.or_eq_decide Bool.decide_beq_decide decide_eq_decide
abbrev Tm:=Rat × List Int
abbrev Po:=List Tm
abbrev tmA (t:Tm):AV:=.agg [.v (.bool (decide (t.1.num < 0))),lim (toL t.1.num.natAbs),lim (toL t.1.den),ivs t.2]
abbrev poA (p:Po):AV:=.sl 4 (p.map tmA)
abbrev SrtM (p:Po):Prop:=Srt Can ltM p
abbrev addM (p q:Po):Po:=addP ltM p q
abbrev subM (p q:Po):Po:=subP ltM p q
abbrev mlM (p q:Po):Po:=mulR ltM mulM p q
def sclM (a:Rat) (p:Po):Po:=if a=0 then [] else Zb3 a p
def PK (p:Po) (k e:Nat):Prop:=∀t∈p,Sz t.1 k∧t.2.length≤1000∧∀j,0≤gI t.2 j∧gI t.2 j≤(e:Int)
theorem PK.mono {p:Po} {k j e f:Nat} (h:PK p k e) (hk:k≤j) (he:e≤f):PK p j f:=λt ht=>⟨(h t ht).1.mono hk,(h t ht).2.1,λi=>by have:=(h t ht).2.2 i;omega⟩
theorem PK.sm {p:Po} {k e:Nat} (h:PK p k e) (he:e≤16777216) {t:Tm} (ht:t∈p):Sm t.2:=⟨(h t ht).2.1,λi=>by have:=(h t ht).2.2 i;omega⟩
theorem PK.nil {k e:Nat}:PK [] k e:=λt ht=>by simp at ht
theorem PK.tail {t:Tm} {p:Po} {k e:Nat} (h:PK (t :: p) k e):PK p k e:=λu hu=>h u (.tail _ hu)
theorem PK.drop {p:Po} {k e:Nat} (h:PK p k e) (i:Nat):PK (p.drop i) k e:=λu hu=>h u (ZBl hu)
theorem PK.add {p q:Po} {j k e:Nat} (hp:PK p j e) (hq:PK q k e):PK (addM p q) (j+k+1) e:=λt ht=>by
 rcases Zpd ht with h | h | ⟨s,hs,u,hu,rfl⟩
 ·exact⟨(hp t h).1.mono zo,(hp t h).2⟩
 ·exact⟨(hq t h).1.mono zo,(hq t h).2⟩
 ·exact⟨(hp s hs).1.add (hq u hu).1,(hp s hs).2⟩
theorem PK.scale {p:Po} {j k e:Nat} {a:Rat} (hp:PK p j e) (ha:Sz a k):PK (Zb3 a p) (j+k) e:=λt ht=>by
 obtain⟨s,hs,rfl⟩:=List.mem_map.1 ht;exact⟨(hp s hs).1.mul ha,(hp s hs).2⟩
theorem PK.times {p:Po} {t:Tm} {j k e f:Nat} (hp:PK p j e) (ht:PK [t] k f):PK (Zbk mulM p t) (j+k) (e+f):=λu hu=>by
 obtain⟨s,hs,rfl⟩:=List.mem_map.1 hu;have h1:=hp s hs;have h2:=ht t (.head _);refine⟨h1.1.mul h2.1,by rw [Zik];have:=h1.2.1;have:=h2.2.1;omega,λi=>?_⟩;show 0≤gI (mulM s.2 t.2) i∧gI (mulM s.2 t.2) i≤_;rw [Zhu _ rfl];have:=h1.2.2 i;have:=h2.2.2 i;omega
theorem Zug {a b:List Int} (ha:Can a) (hb:Can b):(ltM a b∧lexC a b (max a.length b.length)=-1)∨(¬ltM a b∧¬ltM b a∧a=b∧lexC a b (max a.length b.length)=0)∨(ltM b a∧¬ltM a b∧lexC a b (max a.length b.length)=1):=by
 rcases @Zi3 a b (max a.length b.length) with⟨h,h2⟩ | h | h
 ·have e:a=b:=Zym ha hb λj=>by
   by_cases hj:j < max a.length b.length
   ·exact h2 j hj
   ·rw [Zc5 zo,Zc5 zo]
  refine .inr (.inl ⟨?_,?_,e,h⟩)
  ·unfold ltM;rw [h];decide
  ·subst e;unfold ltM;rw [h];decide
 ·exact .inl ⟨h,h⟩
 ·have h3:ltM b a:=by unfold ltM;rw [Nat.max_comm,Zno,h]
  refine .inr (.inr ⟨h3,?_,h⟩);unfold ltM;rw [h];decide
theorem Zrl:Can []:=⟨λj=>by rw [Zc5 (Zzb _)];omega,.inl rfl⟩
theorem mulM_nil (a:List Int):mulM a []=a:=by
 refine List.ext_getElem (by rw [Zik];simp) λj h1 h2=>?_;have:=Zhu (·+·) rfl a [] j;rw [Zga h1,Zga h2,Zc5 (Zzb _),Int.add_zero] at this;exact this
theorem nil_mulM (a:List Int):mulM [] a=a:=by rw [mulK.comm];exact mulM_nil a
def Zfl (v:Nat):List Int:=List.replicate v 0++[1]
theorem Zfs (v:Nat):(Zfl v).length=v+1:=by simp [Zfl]
theorem Zk9 (v j:Nat):gI (Zfl v) j=if j=v then 1 else 0:=by
 by_cases h:j < v+1
 ·rw [Zga (by rw [Zfs];exact h)];unfold Zfl;rw [List.getElem_append];by_cases hj:j < v
  ·rw [dif_pos (by simpa using hj),List.getElem_replicate,Zy0 zo]
  ·rw [dif_neg (by simpa using hj),Zy1 zo];simp
 ·rw [Zc5 (by rw [Zfs];omega),Zy0 zo]
theorem can_unit (v:Nat):Can (Zfl v):=by
 refine⟨λj=>by rw [Zk9];split<;>omega,.inr ?_⟩;rw [Zfs,Zk9,Zy1 zo];omega
def varM (v:Nat):Po:=if v < 64 then [(1,Zfl v)] else []
theorem Zfc (v:Nat):SrtM (varM v):=by
 unfold varM;split
 ·exact Srt.nil.cons (by show(1:Rat)≠0;decide) (can_unit v) zs
 ·exact .nil
theorem Zpz (v:Nat):PK (varM v) 1 1:=by
 unfold varM;split
 ·intro t ht;rw [ZBa] at ht;subst ht;refine⟨Zkx 1 zo,by show(Zfl v).length≤1000;rw [Zfs];omega,λj=>?_⟩;show 0≤gI (Zfl v) j∧gI (Zfl v) j≤_;rw [Zk9];split<;>omega
 ·exact .nil
theorem Zo7 {r:Rat} (hr:r≠0) {q:Po} (hq:SrtM q):mlM [(r,[])] q=Zb3 r q:=Zxe ordM mulK nil_mulM Zrl hr hq
structure RS where
 k:Int
 nm:ByteArray
 ar:List Int
 r:RQ
structure RG where
 k:Int
 ar:List Int
 r:RQ
abbrev RS.av (s:RS):AV:=.agg [iv s.k,strA s.nm,ivs s.ar,.v (.bool s.r.s),lim s.r.l,lim s.r.d]
abbrev RG.av (g:RG):AV:=.agg [iv g.k,ivs g.ar,.v (.bool g.r.s),lim g.r.l,lim g.r.d]
abbrev figA (ss:List RS) (gs:List RG):AV:=.agg [.sl 6 (ss.map RS.av),.sl 5 (gs.map RG.av)]
def RQ.none (r:RQ):Bool:=!r.s && (decide (r.l.length=0) && decide (r.d.length=0))
structure FS where
 cs:List (Po × Po)
 vs:List Vt
 fr:Nat
abbrev coA (c:Po × Po):AV:=.agg [poA c.1,poA c.2]
def FS.at (f:FS) (s:RS) (k:Nat):Po × Po:=f.cs.getD (gI s.ar k).toNat ([],[])
def FS.nxt (f:FS) (i:Nat) (s:RS):List Vt × (Po × Po) :=
 let v:=f.vs.length
 let a:=f.at s 0
 let b:=f.at s 1
 let c:=f.at s 2
 if s.k=1 then
  (if f.fr=0 then ([],([],[]))
   else if f.fr=1 then ([(1,(i:Int),0)],(varM v,[]))
   else ([(1,(i:Int),0),(1,(i:Int),1)],(varM v,varM (v+1))))
 else if s.k=2 then ([],(addM a.1 (sclM s.r.q (subM b.1 a.1)),addM a.2 (sclM s.r.q (subM b.2 a.2))))
 else if s.k=3 then ([],(addM a.1 (subM c.1 b.1),addM a.2 (subM c.2 b.2)))
 else if s.k=4 then ([],(addM a.1 (subM b.2 c.2),addM a.2 (subM c.1 b.1)))
 else if s.k=5 then ([(1,(i:Int),0)],(addM a.1 (mlM (subM b.1 a.1) (varM v)),addM a.2 (mlM (subM b.2 a.2) (varM v))))
 else if s.k=6 then ([(1,(i:Int),0),(2,(i:Int),1),(2,(i:Int),2)],(varM (v+1),varM (v+2)))
 else ([(2,(i:Int),0),(2,(i:Int),1)],(varM v,varM (v+1)))
def FS.push (f:FS) (i:Nat) (s:RS):FS:=⟨f.cs++[(f.nxt i s).2],f.vs++(f.nxt i s).1,if s.k=1 then f.fr+1 else f.fr⟩
def frN (ss:List RS):Nat→FS
 | 0=>⟨[],[],0⟩
 | i+1=>(frN ss i).push i (ss.getD i ⟨0,.empty,[],⟨false,[],[]⟩⟩)
def bigN (ss:List RS) (i:Nat):Bool :=
 decide (64 < (frN ss (i+1)).vs.length) || decide (4000 < ((frN ss i).nxt i (ss.getD i ⟨0,.empty,[],⟨false,[],[]⟩⟩)).2.1.length) || decide (4000 < ((frN ss i).nxt i (ss.getD i ⟨0,.empty,[],⟨false,[],[]⟩⟩)).2.2.length)
theorem Zh5 (ss:List RS):∀i,(frN ss i).cs.length=i
 | 0=>rfl
 | i+1=>by show((frN ss i).cs++[_]).length=i+1;rw [Zzq,Zh5 ss i];rfl
def BB (n:Nat):Nat:=65536 ^ (3*n)
theorem BB_pos (n:Nat):1≤BB n:=Nat.one_le_pow _ _ zo
theorem BB_succ (n:Nat):BB (n+1)=BB n*65536 ^ 3:=by unfold BB;rw [←ZA8];rfl
def GP (n D v:Nat) (p:Po):Prop:=SrtM p∧∀t∈p,BQ D (BB n) t.1∧t.2.length≤v∧∀j,gI t.2 j≤1
theorem GP.nil {n D v:Nat}:GP n D v []:=⟨.nil,λt h=>by simp at h⟩
theorem GP.mono {n D v m E w:Nat} {p:Po} (h:GP n D v p) (hn:n≤m) (hd:D ∣ E) (hv:v≤w):GP m E w p :=
 ⟨h.1,λt ht=>⟨(h.2 t ht).1.mono hd (ZBk zo zo),by have:=(h.2 t ht).2.1;omega,(h.2 t ht).2.2⟩⟩
theorem bq_sz {D B d b:Nat} {q:Rat} (h:BQ D B q) (h0:D≠0) (hd:D < 65536 ^ d) (hb:B < 65536 ^ b):Sz q (d+b):=by
 have h1:q.den≤D:=Nat.le_of_dvd (ZBi h0) h.1;refine⟨Zaf.2 ?_,Zzg (Zaf.2 (ZDj h1 hd)) zo⟩;have hp:0 < q.den:=q.den_pos
 calc q.num.natAbs≤B*q.den:=h.2
  _≤B*D:=ZBz _ h1
  _ < 65536 ^ b*65536 ^ d:=Nat.mul_lt_mul_of_lt_of_lt hb hd
  _=65536 ^ (d+b):=by rw [Zz0,←ZA8]
theorem GP.pk {n D v:Nat} {p:Po} (h:GP n D v p) (hv:v≤1000) (h0:D≠0) (hd:D < 65536 ^ (2*n+1)) (hn:n≤20):PK p 110 1:=λt ht=>by
 obtain⟨h1,h2,h3⟩:=h.2 t ht;refine⟨(bq_sz (b:=3*n+1) h1 h0 hd (by unfold BB;exact Nat.pow_lt_pow_right zo zo)).mono zo,zo,λj=>⟨(h.1.1 t ht).2.1 j,h3 j⟩⟩
def GB (B D v:Nat) (p:Po):Prop:=SrtM p∧∀t∈p,BQ D B t.1∧t.2.length≤v∧∀j,gI t.2 j≤1
theorem GB.mono {B D v C E w:Nat} {p:Po} (h:GB B D v p) (hn:B≤C) (hd:D ∣ E) (hv:v≤w):GB C E w p :=
 ⟨h.1,λt ht=>⟨(h.2 t ht).1.mono hd hn,by have:=(h.2 t ht).2.1;omega,(h.2 t ht).2.2⟩⟩
theorem GB.add {B C D v:Nat} {p q:Po} (h:GB B D v p) (k:GB C D v q):GB (B+C) D v (addM p q):=by
 refine⟨Zc0 ordM h.1 k.1,λt ht=>?_⟩;rcases Zpd ht with h1 | h1 | ⟨s,hs,u,hu,rfl⟩
 ·exact⟨(h.2 t h1).1.mono (ZCq _) zo,(h.2 t h1).2⟩
 ·exact⟨(k.2 t h1).1.mono (ZCq _) zo,(k.2 t h1).2⟩
 ·exact⟨(h.2 s hs).1.add (k.2 u hu).1,(h.2 s hs).2⟩
theorem GB.neg {B D v:Nat} {p:Po} (h:GB B D v p):GB B D v (Zb3 (-1) p):=by
 refine⟨Ze1 h.1 neg1,λt ht=>?_⟩;obtain⟨s,hs,rfl⟩:=List.mem_map.1 ht;refine⟨?_,(h.2 s hs).2⟩;have e:s.1*-1=-s.1:=by grind
 show BQ D B (s.1*-1);rw [e];exact(h.2 s hs).1.neg
theorem GB.sub {B C D v:Nat} {p q:Po} (h:GB B D v p) (k:GB C D v q):GB (B+C) D v (subM p q):=h.add k.neg
theorem GB.scl {B C D E v:Nat} {p:Po} {a:Rat} (h:GB B D v p) (ha:BQ E C a):GB (B*C) (D*E) v (sclM a p):=by
 unfold sclM;split
 ·exact⟨.nil,λt h=>by simp at h⟩
 ·rename_i h0;refine⟨Ze1 h.1 h0,λt ht=>?_⟩;obtain⟨s,hs,rfl⟩:=List.mem_map.1 ht;exact⟨(h.2 s hs).1.mul ha,(h.2 s hs).2⟩
theorem Zq1 (p:Po) (v:Nat):mlM p (varM v)=if v < 64 then Zbk mulM p (1,Zfl v) else []:=by
 unfold varM;split
 ·show addP ltM [] (Zbk mulM p (1,Zfl v))=_;simp [addP]
 ·rfl
theorem GB.var {B D v:Nat} {p:Po} (h:GB B D v p):GB B D (v+1) (mlM p (varM v)):=by
 refine⟨Zes ordM mulK h.1 (Zfc v),λt ht=>?_⟩;rw [Zq1] at ht;split at ht
 ·obtain⟨s,hs,rfl⟩:=List.mem_map.1 ht;obtain⟨h1,h2,h3⟩:=h.2 s hs;refine⟨by show BQ D B (s.1*1);rw [Rat.mul_one];exact h1,by show(mulM s.2 (Zfl v)).length≤v+1;rw [Zik,Zfs];omega,λj=>?_⟩;show gI (mulM s.2 (Zfl v)) j≤1;rw [Zhu _ rfl,Zk9];split
  ·rename_i hj;rw [Zc5 zo];omega
  ·have:=h3 j;omega
 ·simp at ht
theorem GB.one {B D v w:Nat} (hB:1≤B) (h:v < w):GB B D w (varM v):=by
 refine⟨Zfc v,λt ht=>?_⟩;unfold varM at ht;split at ht
 ·rw [ZBa] at ht;subst ht;refine⟨BQ.int 1 (by simpa using hB),by show(Zfl v).length≤w;rw [Zfs];omega,λj=>?_⟩;show gI (Zfl v) j≤1;rw [Zk9];split<;>omega
 ·simp at ht
theorem GB.nil {B D v:Nat}:GB B D v []:=⟨.nil,λt h=>by simp at h⟩
structure FI (f:FS) (n D:Nat):Prop where
 D0:D≠0
 Dl:D < 65536 ^ (2*n+1)
 nv:f.vs.length≤64
 cs:∀c∈f.cs,GP n D f.vs.length c.1∧GP n D f.vs.length c.2
 ln:∀c∈f.cs,c.1.length≤4000∧c.2.length≤4000
theorem FI.at {f:FS} {n D:Nat} (h:FI f n D) (s:RS) (k:Nat):(GP n D f.vs.length (f.at s k).1∧GP n D f.vs.length (f.at s k).2)∧(f.at s k).1.length≤4000∧(f.at s k).2.length≤4000:=by
 unfold FS.at;by_cases hk:(gI s.ar k).toNat < f.cs.length
 ·have:=Zcx (d:=(([],[]):Po × Po)) hk;exact⟨h.cs _ this,h.ln _ this⟩
 ·rw [Zzc,ZAf zo];exact⟨⟨.nil,.nil⟩,by simp,by simp⟩
def RQ.bd (r:RQ):Prop:=r.ok=true→r.q.den < 65536 ^ 2∧r.q.num.natAbs < 65536 ^ 2
theorem lm_bd {r:RQ} (h:r.lm 2):r.bd:=λho=>by
 obtain⟨-,h1,h2⟩:=RQ.ok_av h ho;exact⟨Zaf.1 h2,Zaf.1 h1⟩
theorem FI.nxt {f:FS} {n D:Nat} (h:FI f n D) (i:Nat) (s:RS) (hr:s.k=2→s.r.ok=true) (hb:s.r.bd) :
 ∃E,E≠0∧D ∣ E∧E < 65536 ^ (2*(n+if s.k=1 then 0 else 1)+1) ∧
  GP (n+if s.k=1 then 0 else 1) E (f.vs++(f.nxt i s).1).length (f.nxt i s).2.1∧GP (n+if s.k=1 then 0 else 1) E (f.vs++(f.nxt i s).1).length (f.nxt i s).2.2:=by
 obtain⟨⟨a1,a2⟩,-⟩:=h.at s 0;obtain⟨⟨b1,b2⟩,-⟩:=h.at s 1;obtain⟨⟨c1,c2⟩,-⟩:=h.at s 2;have hB:=BB_pos n;have hS:=BB_succ n;unfold FS.nxt;simp only;have one:∀v w,v < w→GP n D w (varM v):=λv w hv=>GB.one hB hv;have up:∀{E v:Nat} {p:Po} {C:Nat},GB C E v p→C≤BB n*65536 ^ 3→GP (n+1) E v p:=λh hc=>GB.mono h (by rw [hS];exact hc) (ZCq _) (Zy5 _);have dl:D < 65536 ^ (2*(n+1)+1):=ZA9 h.Dl (ZBk zo zo)
 have b3:BB n+(BB n+BB n)≤BB n*65536 ^ 3:=by
  have:BB n*3≤BB n*65536 ^ 3:=ZBz _ zd;omega
 by_cases k1:s.k=1
 ·rw [Zy1 k1,Zy1 k1];refine⟨D,h.D0,ZCq _,h.Dl,?_⟩;split
  ·exact⟨.nil,.nil⟩
  ·split
   ·exact⟨one _ _ zs,.nil⟩
   ·exact⟨one _ _ zs,one _ _ zs⟩
 ·rw [Zy0 k1,Zy0 k1];by_cases k2:s.k=2
  ·rw [Zy1 k2];obtain⟨h1,h2⟩:=hb (hr k2);refine⟨D*s.r.q.den,ZCy h.D0 s.r.q.den_nz,ZDl _ _,?_,?_⟩
   ·calc D*s.r.q.den < 65536 ^ (2*n+1)*65536 ^ 2:=Nat.mul_lt_mul_of_lt_of_lt h.Dl h1
     _=65536 ^ (2*(n+1)+1):=by rw [←ZA8];congr 1
   ·have hq:BQ s.r.q.den (65536 ^ 2) s.r.q:=⟨ZCq _,by have:=s.r.q.den_pos;have:=ZCx (65536 ^ 2) this;omega⟩
    have bd:BB n+(BB n+BB n)*65536 ^ 2≤BB n*65536 ^ 3:=by
     have e1:(BB n+BB n)*65536 ^ 2=BB n*(2*65536 ^ 2):=by rw [←Nat.mul_two,ZAk]
     rw [e1];have:BB n*(1+2*65536 ^ 2)≤BB n*65536 ^ 3:=ZBz _ zd;omega
    rw [ZAh];exact⟨up ((GB.mono a1 (Zy5 _) (ZDl _ _) (Zy5 _)).add ((GB.sub b1 a1).scl hq)) bd,up ((GB.mono a2 (Zy5 _) (ZDl _ _) (Zy5 _)).add ((GB.sub b2 a2).scl hq)) bd⟩
  ·rw [Zy0 k2];refine⟨D,h.D0,ZCq _,dl,?_⟩;have one':∀v w,v < w→GP (n+1) D w (varM v):=λv w hv=>GB.one (BB_pos _) hv;by_cases k3:s.k=3
   ·rw [Zy1 k3,ZAh];exact⟨up (GB.add a1 (GB.sub c1 b1)) b3,up (GB.add a2 (GB.sub c2 b2)) b3⟩
   ·rw [Zy0 k3];by_cases k4:s.k=4
    ·rw [Zy1 k4,ZAh];exact⟨up (GB.add a1 (GB.sub b2 c2)) b3,up (GB.add a2 (GB.sub c1 b1)) b3⟩
    ·rw [Zy0 k4];by_cases k5:s.k=5
     ·rw [Zy1 k5];have e:(f.vs++[(1,(i:Int),0)]).length=f.vs.length+1:=by simp
      rw [e];exact⟨up (GB.add (GB.mono a1 (Zy5 _) (ZCq _) zo) (GB.sub b1 a1).var) b3,up (GB.add (GB.mono a2 (Zy5 _) (ZCq _) zo) (GB.sub b2 a2).var) b3⟩
     ·rw [Zy0 k5];by_cases k6:s.k=6
      ·rw [Zy1 k6];exact⟨one' _ _ zs,one' _ _ zs⟩
      ·rw [Zy0 k6];exact⟨one' _ _ zs,one' _ _ zs⟩
def nfN (ss:List RS):Nat→Nat
 | 0=>0
 | i+1=>nfN ss i+if (ss.getD i ⟨0,.empty,[],⟨false,[],[]⟩⟩).k=1 then 0 else 1
theorem frN_ok (ss:List RS) (hr:∀s∈ss,s.k=2→s.r.ok=true) (hb:∀s∈ss,s.r.bd):∀i,i≤ss.length→(∀j,j < i→bigN ss j=false)→∃D,FI (frN ss i) (nfN ss i) D
 | 0,_,_=>⟨1,zo,by show 1 < 65536 ^ (2*0+1);decide,Zzb _,λc h=>by simp [frN] at h,λc h=>by simp [frN] at h⟩
 | i+1,hi,hj=>by
   obtain⟨D,hD⟩:=frN_ok ss hr hb i zo λj h=>hj j zo;have hbig:=hj i zo;unfold bigN at hbig;simp only [ZBq,ZBe,Nat.not_lt] at hbig;have hm:ss.getD i ⟨0,.empty,[],⟨false,[],[]⟩⟩∈ss:=Zcx zo;have hs1:=hr _ hm;have hs2:=hb _ hm;unfold nfN;show ∃D,FI ((frN ss i).push i (ss.getD i ⟨0,.empty,[],⟨false,[],[]⟩⟩)) _ D;have hv:=hbig.1.1;unfold frN at hv;generalize ss.getD i ⟨0,.empty,[],⟨false,[],[]⟩⟩=s at *;obtain⟨E,e0,e1,e2,g1,g2⟩:=hD.nxt i s hs1 hs2;refine⟨E,e0,e2,hv,λc hc=>?_,λc hc=>?_⟩
   ·rcases List.mem_append.1 hc with h1 | h1
    ·obtain⟨k1,k2⟩:=hD.cs c h1;have hl:(frN ss i).vs.length≤((frN ss i).push i s).vs.length:=by show _≤((frN ss i).vs++((frN ss i).nxt i s).1).length;rw [Zzq];omega
     exact⟨k1.mono zo e1 hl,k2.mono zo e1 hl⟩
    ·rw [ZBa] at h1;subst h1;exact⟨g1,g2⟩
   ·rcases List.mem_append.1 hc with h1 | h1
    ·exact hD.ln c h1
    ·rw [ZBa] at h1;subst h1;exact⟨hbig.1.2,hbig.2⟩
end Go.Proofs.YtjbjejmmnbdbiaaGreat
