/- Contracts of the functions that the law reaches, and the rules by which they are walked. They say what a call hands back for every input within the bounds that each names; no other condition. -/
import Derived.Test.YtaedgaikloifgaaGreatDoorBd5
set_option linter.unusedSimpArgs false
set_option linter.unusedVariables false
set_option maxRecDepth 20000
set_option maxHeartbeats 16000000
namespace Go.Proofs.YtaedgaikloifgaaGreatDoor
open Go Go.RowKit Go.Pg Go.Proofs.Tryz
attribute [-bool_to_prop] Bool.and_eq_decide Bool.or_eq_decide Bool.decide_beq_decide decide_eq_decide
attribute [go_sem] underlying39 underlying41 underlying31 underlying152 szB zB zNat zInt zRat
attribute [local go_sem] Zcb Zcc Zca
theorem Zev (s:Bool) (n:Nat) (hn:(toL n).length≤10000000000000):Pure prog 125 [.v (.bool s),lim (toL n)] (intZ (zI s n)):=by
 rw [Zd1];have hp:=@Za4 n;cases s
 ·refine pI func125 rfl ntmps125 results125 call125 ?_
  (refine wkvp w_t w_t (w_s ?_);intros)
  simp (disch:=omega) only [go_sem,Zwx]
 ·by_cases h:0 < n
  ·refine pI func125 rfl ntmps125 results125 call125 ?_
   (refine wkvp w_t w_t (w_s ?_);intros)
   simp (disch:=omega) only [go_sem,Zv8 h]
  ·refine pI func125 rfl ntmps125 results125 call125 ?_
   (refine wkvp w_t w_t (w_s ?_);intros)
   simp (disch:=omega) only [go_sem,Zv7 h]
theorem intOf' (s:Bool) (n:Nat) (hn:(toL n).length≤1000000000000):Pure prog 175 [.v (.bool s),lim (toL n)] (intZ (zI s n)):=by
 rw [Zd1];have hp:=@Za4 n;cases s
 ·refine pI func175 rfl ntmps175 results175 call175 ?_
  (refine wkvp w_t (w_1 (Zpg n hn)) (w_s ?_);intros)
  simp (disch:=omega) only [go_sem,Zwx]
 ·by_cases h:0 < n
  ·refine pI func175 rfl ntmps175 results175 call175 ?_
   (refine wkvp w_t (w_1 (Zpg n hn)) (w_s ?_);intros)
   simp (disch:=omega) only [go_sem,Zv8 h]
  ·refine pI func175 rfl ntmps175 results175 call175 ?_
   (refine wkvp w_t (w_1 (Zpg n hn)) (w_s ?_);intros)
   simp (disch:=omega) only [go_sem,Zv7 h]
theorem intNorm (s:Bool) (n:Nat) (hn:(toL n).length≤1000000000000):Pure prog 129 [intA s n] (intZ (zI s n)):=by
 refine pI func129 rfl ntmps129 results129 call129 ?_
 (refine wkvp w_t (w_1 (intOf' s n hn)) (w_s ?_);intros)
 simp (disch:=omega) only [go_sem]
theorem Zpp (s:Bool) (n:Nat) (hn:(toL n).length≤1000000000000):Pure prog 124 [intA s n] (.v (.int .i64 (zI s n).sign)):=by
 by_cases h:n=0
 ·have hb:Zms n=0:=Zg2.2 h;have hz:(zI s n).sign=0:=by subst h;cases s<;>rfl
  rw [hz];refine pI func124 rfl ntmps124 results124 call124 ?_
  (refine wkvp (w_2 hb @Zx5) (w_1 (nBits n hn)) (w_s ?_);intros)
  simp (disch:=omega) only [go_sem]
 ·have hb:Zms n≠0:=λe=>h (Zg2.1 e);cases s
  ·have hz:(zI false n).sign=1:=ZAs (by simp [zI];omega);rw [hz];refine pI func124 rfl ntmps124 results124 call124 ?_
   (refine wkvp w_t (w_1 (nBits n hn)) (w_s ?_);intros)
   simp (disch:=omega) only [go_sem]
  ·have hz:(zI true n).sign=-1:=Zzr (by simp [zI];omega);rw [hz];refine pI func124 rfl ntmps124 results124 call124 ?_
   (refine wkvp w_t (w_1 (nBits n hn)) (w_s ?_);intros)
   simp (disch:=omega) only [go_sem]
def cmpZ (a b:Int):Int:=if a < b then -1 else if b < a then 1 else 0
theorem Zu9 (n m:Nat) (hn:(toL n).length≤1000000000000) (hm:(toL m).length≤1000000000000):Pure prog 172 [lim (toL n),lim (toL m)] (.v (.int .i64 (cmpN n m))):=by
 refine pI func172 rfl ntmps172 results172 call172 ?_
 (refine wkvp w_t (w_1 (nCmp n m hn hm)) (w_s ?_);intros)
 simp (disch:=omega) only [go_sem]
theorem intCmp (s t:Bool) (n m:Nat) (hn:(toL n).length≤1000000000000) (hm:(toL m).length≤1000000000000):Pure prog 123 [intA s n,intA t m] (.v (.int .i64 (cmpZ (zI s n) (zI t m)))):=by
 have cs:=Zpp s n hn;have ct:=Zpp t m hm;rcases Zzf (zI s n).sign (zI t m).sign with h | h | h
 ·have hc:cmpZ (zI s n) (zI t m)=-1:=by
   unfold cmpZ;rw [Zv6];rcases Zzf (zI s n) 0 with h1 | h1 | h1<;>rcases Zzf (zI t m) 0 with h2 | h2 | h2<;>first
    | omega
    | (exfalso;simp [Zzr,ZAs,h1,h2] at h)
  rw [hc];refine pI func123 rfl ntmps123 results123 call123 ?_
  (refine wkad w_t (w_2 cs ct) (w_1 (w_d 1 [(1,.v (.int .i64 (zI s n).sign)),(3,.v (.int .i64 (zI t m).sign))] [] [])) (w_s ?_);intros)
  simp (disch:=omega) only [go_sem]
 ·have hcc:cmpZ (zI s n) (zI t m)=if (zI s n).sign < 0 then cmpN m n else cmpN n m:=by
   unfold cmpZ cmpN;cases s<;>cases t<;>simp only [zI,Zw1,Zwm,Zwt] at h ⊢
   ·have hs0:¬(n:Int).sign < 0:=by
     have:=Int.sign_nonneg_iff.2 (Zyw n);omega
    simp only [hs0,Zwt,Int.ofNat_lt]
   ·have h1:=Int.sign_nonneg_iff.2 (Zyw n)
    have h2:(-(m:Int)).sign≤0:=by
     rcases Zxg m with h3 | h3
     ·subst h3;simp
     ·rw [Zzr zo];omega
    have h3:(n:Int).sign=0:=zo;have h4:n=0:=by have:=Int.sign_eq_zero_iff_zero.1 h3;omega
    have h5:m=0:=by rw [h3] at h;have:=Int.sign_eq_zero_iff_zero.1 h.symm;omega
    subst h4;subst h5;simp
   ·have h1:=Int.sign_nonneg_iff.2 (Zyw m)
    have h2:(-(n:Int)).sign≤0:=by
     rcases Zxg n with h3 | h3
     ·subst h3;simp
     ·rw [Zzr zo];omega
    have h3:(m:Int).sign=0:=zo;have h4:m=0:=by have:=Int.sign_eq_zero_iff_zero.1 h3;omega
    have h5:n=0:=by rw [h3] at h;have:=Int.sign_eq_zero_iff_zero.1 h;omega
    subst h4;subst h5;simp
   ·rcases Zxg n with h3 | h3
    ·subst h3;have h5:m=0:=by have:=Int.sign_eq_zero_iff_zero.1 h.symm;omega
     subst h5;simp
    ·rw [Zv6 (c:=(-(n:Int)).sign < 0) (by rw [Zzr zo];omega)];have e1:(-(n:Int) < -(m:Int))↔m < n:=zo;have e2:(-(m:Int) < -(n:Int))↔n < m:=zo;simp only [e1,e2]
  rw [hcc];by_cases hneg:(zI s n).sign < 0
  ·rw [Zv6 hneg];refine pI func123 rfl ntmps123 results123 call123 ?_
   (refine wkad w_t (w_3 cs ct (Zu9 m n hm hn)) (w_1 (w_d 1 [(1,.v (.int .i64 (zI s n).sign)),(3,.v (.int .i64 (zI t m).sign))] [] [])) (w_s ?_);intros)
   simp (disch:=omega) only [go_sem]
  ·rw [Zv5 hneg];refine pI func123 rfl ntmps123 results123 call123 ?_
   (refine wkad w_t (w_3 cs ct (Zu9 n m hn hm)) (w_1 (w_d 1 [(1,.v (.int .i64 (zI s n).sign)),(3,.v (.int .i64 (zI t m).sign))] [] [])) (w_s ?_);intros)
   simp (disch:=omega) only [go_sem]
 ·have hc:cmpZ (zI s n) (zI t m)=1:=by
   have h0:zI t m < zI s n:=by
    rcases Zzf (zI s n) 0 with h1 | h1 | h1<;>rcases Zzf (zI t m) 0 with h2 | h2 | h2<;>first
     | omega
     | (exfalso;simp [Zzr,ZAs,h1,h2] at h)
   unfold cmpZ;rw [Zv5 zo,Zv6 h0]
  rw [hc];refine pI func123 rfl ntmps123 results123 call123 ?_
  (refine wkad w_t (w_2 cs ct) (w_1 (w_d 1 [(1,.v (.int .i64 (zI s n).sign)),(3,.v (.int .i64 (zI t m).sign))] [] [])) (w_s ?_);intros)
  simp (disch:=omega) only [go_sem]
theorem Zq6 (s t:Bool) (n m:Nat) (hn:(toL n).length≤1000000000000) (hm:(toL m).length≤1000000000000):Pure prog 84 [intA s n,intA t m] (intZ (zI s n*zI t m)):=by
 have e:zI s n*zI t m=zI (s != t) (n*m):=by cases s<;>cases t<;>simp [zI,Int.mul_neg,Int.neg_mul]
 have lm:(toL (n*m)).length≤10000000000000:=by
  have h5:(toL (n*m)).length≤(toL n).length+(toL m).length:=by
   rw [Zad,Zya];exact Nat.mul_lt_mul'' (Zad.1 (Zwa _)) (Zad.1 (Zwa _))
  omega
 rw [e];have hne:(!(s == t))=(s != t):=rfl;refine pI func84 rfl ntmps84 results84 call84 ?_
 (refine wkad (w_1 hne) (w_2 (nMul n m hn hm) (Zev (s != t) (n*m) lm)) (w_1 (w_d 1 [(9,lim (toL (n*m))),(10,intZ (zI (s != t) (n*m)))] [11] [])) (w_s ?_);intros)
 simp (disch:=omega) only [go_sem]
theorem intAdd (s t:Bool) (n m:Nat) (hn:(toL n).length≤1000000000000) (hm:(toL m).length≤1000000000000):Pure prog 132 [intA s n,intA t m] (intZ (zI s n+zI t m)):=by
 by_cases hst:s=t
 ·subst hst;have e:zI s n+zI s m=zI s (n+m):=by cases s<;>simp [zI]<;>omega
  have la:(toL (n+m)).length≤10000000000000:=by
   have h5:(toL (n+m)).length≤max (toL n).length (toL m).length+1:=by
    rw [Zad,Zxs];have h1:=Zad.1 (Nat.le_max_left (toL n).length (toL m).length);have h2:=Zad.1 (Nat.le_max_right (toL n).length (toL m).length);generalize 65536 ^ max (toL n).length (toL m).length=p at *;omega
   omega
  rw [e];have hb:(s == s)=true:=by cases s<;>rfl
  refine pI func132 rfl ntmps132 results132 call132 ?_
  (refine wkad (w_1 hb) (w_2 (nAdd n m hn hm) (Zev s (n+m) la)) (w_1 (w_d 2 [(6,lim (toL (n+m))),(7,intZ (zI s (n+m)))] [8] [])) (w_s ?_);intros)
  simp (disch:=omega) only [go_sem]
 ·have hb:(s == t)=false:=by cases s<;>cases t<;>first|rfl|exact absurd rfl hst
  have ht:t=!s:=by cases s<;>cases t<;>first|rfl|exact absurd rfl hst
  by_cases hlt:n < m
  ·have hc:cmpN n m=-1:=Zv6 hlt;have e:zI s n+zI t m=zI t (m - n):=by rw [ht];cases s<;>simp [zI]<;>omega
   have ls:(toL (m - n)).length≤10000000000000:=Zwj (Zas (Nat.sub_le _ _)) zo;have cs:=nSub m n hm hn;rw [Zv5 zo,Zv5 zo] at cs;rw [e];refine pI func132 rfl ntmps132 results132 call132 ?_
   (refine wkad (w_2 hb hc) (w_3 (nCmp n m hn hm) cs (Zev t (m - n) ls)) w_t (w_s ?_);intros)
   simp (disch:=omega) only [go_sem]
  ·have hc:0≤cmpN n m:=by unfold cmpN;rw [Zv5 hlt];split<;>omega
   have e:zI s n+zI t m=zI s (n - m):=by rw [ht];cases s<;>simp [zI]<;>omega
   have ls:(toL (n - m)).length≤10000000000000:=Zwj (Zas (Nat.sub_le _ _)) zo;have cs:=nSub n m hn hm;rw [Zv5 zo,Zv5 zo] at cs;rw [e];refine pI func132 rfl ntmps132 results132 call132 ?_
   (refine wkad (w_1 hb) (w_3 (nCmp n m hn hm) cs (Zev s (n - m) ls)) w_t (w_s ?_);intros)
   simp (disch:=omega) only [go_sem]
theorem Zu8 (s:Bool) (n m:Nat) (hn:(toL n).length≤100000000000) (hm:(toL m).length≤100000000000) (h0:m≠0):Pure prog 134 [intA s n,intA false m] (.tup [intZ (zI s n/m),intZ (zI s n%m),.v (.int .i64 0)]):=by
 have cd:=Zph n m zo zo h0;have hq:(toL (n/m)).length≤100000000000:=Zwj (Zas (Zz2 _ _)) hn;have hr:(toL (n%m)).length≤100000000000:=Zwj (Zas (Nat.mod_le _ _)) hn;have hp:=@Za4 (n%m);have hmp:=Zx9 h0;cases s
 ·have e1:zI false n/m=zI false (n/m):=by simp [zI]
  have e2:zI false n%m=zI false (n%m):=by simp [zI]
  rw [e1,e2];refine pI func134 rfl ntmps134 results134 call134 ?_;(focus (refine wkad (w_1 @Zzk) (w_3 cd (Zev false (n/m) zo) (Zev false (n%m) zo)) w_t ?_;(repeat' first|exact w_t|apply w_l);all_goals intros));simp (disch:=omega) only [go_sem]
 ·by_cases hz:n%m=0
  ·have hdm:=Zx8 n m;rw [hz,Zxa] at hdm
   have e1:zI true n/m=zI true (n/m):=by
    simp only [zI,Zw1];have:(n:Int)=(m:Int)*((n/m:Nat):Int):=by rw [←Int.natCast_mul,hdm]
    rw [this,←Int.mul_neg,ZAj _ zo]
   have e2:zI true n%m=zI false 0:=by
    simp only [zI,Zw1,Zwm,Zwt];have:(n:Int)=(m:Int)*((n/m:Nat):Int):=by rw [←Int.natCast_mul,hdm]
    rw [this,←Int.mul_neg,Int.mul_emod_right];rfl
   have l0:¬0 < (toL (n%m)).length:=by rw [hp,hz];omega
   have l0':(toL 0).length=0:=by rw [Zaq];rfl
   rw [hz] at cd;rw [e1,e2];refine pI func134 rfl ntmps134 results134 call134 ?_;(focus (refine wkad (w_1 l0') (w_3 cd (Zev true (n/m) zo) (Zev false 0 zo)) w_t ?_;(repeat' first|exact w_t|apply w_l);all_goals intros));simp (disch:=omega) only [go_sem]
  ·have hrp:0 < (toL (n%m)).length:=hp.2 zo;have hml:=Zxb n hmp;have hdm:=Zx8 n m;have hnn:(n:Int)=(m:Int)*((n/m:Nat):Int)+((n%m:Nat):Int):=by rw [←Int.natCast_mul,←Int.natCast_add,hdm]
   have ee:zI true n=(m:Int)*(-(((n/m+1:Nat):Nat):Int))+((m - n%m:Nat):Int):=by
    simp only [zI,Zw1];have h5:((m - n%m:Nat):Int)=(m:Int) - ((n%m:Nat):Int):=zo
    have h6:(m:Int)*(-(((n/m+1:Nat):Nat):Int))=-((m:Int)*((n/m:Nat):Int)) - m:=by
     rw [Int.natCast_add,Int.mul_neg,Int.mul_add];generalize (m:Int)*((n/m:Nat):Int)=z;simp only [Int.natCast_one,Int.mul_one];omega
    rw [h5,h6];generalize (m:Int)*((n/m:Nat):Int)=z at hnn ⊢;omega
   have hlt:((m - n%m:Nat):Int) < (m:Int):=zo
   have e1:zI true n/m=zI true (n/m+1):=by
    rw [ee,Int.mul_add_ediv_left _ _ zo,Int.ediv_eq_zero_of_lt (Zyw _) hlt,Int.add_zero];rfl
   have e2:zI true n%m=zI false (m - n%m):=by
    rw [ee,Int.mul_add_emod_self_left,Int.emod_eq_of_lt (Zyw _) hlt];rfl
   have lq:(toL (n/m+1)).length≤10000000000000:=by
    have h5:(toL (n/m+1)).length≤(toL (n/m)).length+1:=by
     rw [Zad,Zxs];have h1:=Zad.1 (Zwa (toL (n/m)).length);have h2:0 < 65536 ^ (toL (n/m)).length:=Nat.pow_pos zo;generalize 65536 ^ (toL (n/m)).length=p at *;omega
    omega
   have lr:(toL (m - n%m)).length≤10000000000000:=Zwj (Zas (Nat.sub_le _ _)) zo;have t1:toL 1=[1]:=by rw [Zdx zo];simp [Zaq]
   have ca:=nAdd (n/m) 1 zo (by rw [t1];simp);rw [t1] at ca;have cs:=nSub m (n%m) zo zo;rw [Zv5 zo,Zv5 zo] at cs;rw [e1,e2];refine pI func134 rfl ntmps134 results134 call134 ?_;(focus (refine wkax w_t (w_4 cd cs (Zev true (n/m+1) lq) (Zev false (m - n%m) lr)) w_t (w_1 ca) w_t w_t w_y (w_r 0) ?_;(repeat' first|exact w_t|apply w_l);all_goals intros));simp (disch:=omega) only [go_sem]
inductive Vk:AV→AV→Prop
 | refl (a:AV):Vk a a
 | nil (m:Nat):Vk (.v (.slice none 0 0)) (.sl m [])
 | agg (xs ys:List AV) (hl:xs.length=ys.length) (h:∀(j:Nat) (a b:AV),xs[j]?=some a→ys[j]?=some b→Vk a b):Vk (.agg xs) (.agg ys)
 | tup (xs ys:List AV) (hl:xs.length=ys.length) (h:∀(j:Nat) (a b:AV),xs[j]?=some a→ys[j]?=some b→Vk a b):Vk (.tup xs) (.tup ys)
 | sl (m:Nat) (es es':List AV) (hl:es.length=es'.length) (hm:∀e∈es',e.cells.length=m) (hok:∀e∈es',e.ok=true) (hf:(flat es).length=(flat es').length) (h:∀(j:Nat) (a b:AV),(flat es)[j]?=some a→(flat es')[j]?=some b→Vk a b):Vk (.sl m es) (.sl m es')
theorem Vk.rd {w:World} {imm:Imm} {a b:AV} (h:Vk a b):∀{x:Value},Rd w imm a x→Rd w imm b x:=by
 induction h with
 | refl a=>exact λh=>h
 | nil m =>
   intro x h;cases h;exact .sl m [] none 0 (λ_=>undef) zs zs (Zwa _) zs zs (by simp [flat])
 | agg xs ys hl _ ih =>
   intro x h
   cases h with
   | agg _ vs hl2 hr =>
     refine .agg ys vs zo λj b x h1 h2=>?_;have hj:j < xs.length:=by rw [hl];exact(List.getElem?_eq_some_iff.1 h1).1
     exact ih j xs[j] b (Zwb hj) h1 (hr j xs[j] x (Zwb hj) h2)
 | tup xs ys hl _ ih =>
   intro x h
   cases h with
   | tup _ vs hl2 hr =>
     refine .tup ys vs zo λj b x h1 h2=>?_;have hj:j < xs.length:=by rw [hl];exact(List.getElem?_eq_some_iff.1 h1).1
     exact ih j xs[j] b (Zwb hj) h1 (hr j xs[j] x (Zwb hj) h2)
 | sl m es es' hl hm hok hf _ ih =>
   intro x h;obtain⟨A,cap,f,rfl,hcap,_,_,hn,hA,hr⟩:=(Rs.pure h).sl_inv;rw [hl];refine .sl m es' A cap f hm hok zo (λh=>hn zo) (λj hj=>hA j (by rw [hl];exact hj)) λj b hb=>?_;have hj:j < (flat es).length:=by rw [hf];exact(List.getElem?_eq_some_iff.1 hb).1
   exact ih j _ b (Zwb hj) hb (hr j _ (Zwb hj))
def VkL (xs ys:List AV):Prop:=xs.length=ys.length∧∀(j:Nat) (a b:AV),xs[j]?=some a→ys[j]?=some b→Vk a b
theorem VkL.nil:VkL [] []:=⟨rfl,λj a b h=>by simp at h⟩
theorem VkL.cons {a b:AV} {xs ys:List AV} (h:Vk a b) (t:VkL xs ys):VkL (a :: xs) (b :: ys):=by
 refine⟨by simp [t.1],λj x y h1 h2=>?_⟩
 cases j with
 | zero=>simp at h1 h2;subst h1;subst h2;exact h
 | succ j=>exact t.2 j x y (by simpa using h1) (by simpa using h2)
theorem VkL.refl (xs:List AV):VkL xs xs:=⟨rfl,λj a b h1 h2=>by rw [h1] at h2;cases h2;exact .refl _⟩
theorem Vk.aggL {xs ys:List AV} (h:VkL xs ys):Vk (.agg xs) (.agg ys):=.agg xs ys h.1 h.2
theorem Vk.tupL {xs ys:List AV} (h:VkL xs ys):Vk (.tup xs) (.tup ys):=.tup xs ys h.1 h.2
theorem Zt8 {P:Program} {f:FuncId} {args args':List AV} {r r':AV} (h:Pure P f args' r) (ha:VkL args args') (hw:Vk r r'):Pure P f args r':=by
 refine⟨h.1,λw imm vs h1 h2 h3=>(h.2 w imm vs h1 (by rw [←ha.1];exact h2) λj b x e1 e2=>?_).mono λe w' he=>?_⟩
 ·have hj:j < args.length:=by rw [ha.1];exact(List.getElem?_eq_some_iff.1 e1).1
  exact(ha.2 j args[j] b (Zwb hj) e1).rd (h3 j args[j] x (Zwb hj) e2)
 ·obtain⟨x,imm',e1,e2,e3⟩:=he;exact⟨x,imm',e1,hw.rd e2,e3⟩
theorem pure_vkA {P:Program} {f:FuncId} {args args':List AV} {r:AV} (h:Pure P f args' r) (ha:VkL args args'):Pure P f args r:=Zt8 h ha (.refl _)
theorem Zcx {P:Program} {f:FuncId} {args:List AV} {r r':AV} (h:Pure P f args r) (hw:Vk r r'):Pure P f args r':=Zt8 h (.refl _) hw
theorem Zfh (n m:Nat):(toL (n*m)).length≤(toL n).length+(toL m).length:=by
 rw [Zad,Zya];exact Nat.mul_lt_mul'' (Zad.1 (Zwa _)) (Zad.1 (Zwa _))
theorem Zla (n m:Nat):(toL (n+m)).length≤max ((toL n).length) ((toL m).length)+1:=by
 rw [Zad,Zxs];have h1:=Zad.1 (Nat.le_max_left ((toL n).length) ((toL m).length));have h2:=Zad.1 (Nat.le_max_right ((toL n).length) ((toL m).length));generalize 65536 ^ max ((toL n).length) ((toL m).length)=p at *;omega
theorem Zco {n m:Nat} (h:n≤m):(toL n).length≤(toL m).length:=Zas h
theorem Zhz:(toL 1).length=1:=by rw [Zdx zo];simp [Zaq]
theorem toL_one:toL 1=[1]:=by rw [Zdx zo];simp [Zaq]
abbrev ratQ (q:Rat):AV:=.agg [.v (.bool (decide (q.num < 0))),lim (toL q.num.natAbs),lim (toL q.den)]
abbrev ratA (s:Bool) (n d:Nat):AV:=.agg [.v (.bool s),lim (toL n),lim (toL d)]
def Sz (q:Rat) (k:Nat):Prop:=(toL q.num.natAbs).length≤k∧(toL q.den).length≤k
theorem Sz.mono {q:Rat} {k j:Nat} (h:Sz q k) (hk:k≤j):Sz q j:=⟨Zwj h.1 hk,Zwj h.2 hk⟩
theorem Zo1 (z:Int) (m:Nat) (hm:m≠0):ratQ (mkRat z m)=.agg [.v (.bool (decide (z < 0))),lim (toL (z.natAbs/Nat.gcd z.natAbs m)),lim (toL (m/Nat.gcd z.natAbs m))]:=by
 unfold ratQ;rw [Rat.num_mkRat,Rat.den_mkRat,Zv5 hm,Zv5 hm,Zzq m z.natAbs];have hg:0 < Nat.gcd z.natAbs m:=ZA1 _ zo;have hd:((Nat.gcd z.natAbs m:Nat):Int) ∣ z:=Int.ofNat_dvd_left.2 (Nat.gcd_dvd_left _ _);generalize Nat.gcd z.natAbs m=g at *;obtain⟨k,hk⟩:=hd;have hgz:(g:Int)≠0:=zo;have e1:z/(g:Int)=k:=by rw [hk,ZAj _ hgz]
 have e2:z.natAbs/g=k.natAbs:=by rw [hk,Zyr,Zyf,Nat.mul_div_cancel_left _ hg]
 have e3:(z < 0)↔(k < 0):=by
  rw [hk];constructor
  ·intro h;rcases (by omega:k < 0∨0≤k) with h1 | h1
   ·exact h1
   ·have:=Int.mul_nonneg (show(0:Int)≤g by omega) h1;omega
  ·intro h;exact Int.mul_neg_of_pos_of_neg zo h
 rw [e1,e2];simp only [e3]
theorem Sz.mk {z:Int} {m k:Nat} (hz:(toL z.natAbs).length≤k) (hm:(toL m).length≤k) (hk:1≤k):Sz (mkRat z m) k:=by
 unfold Sz;rw [Rat.num_mkRat,Rat.den_mkRat];by_cases h:m=0
 ·rw [Zv6 h,Zv6 h];refine⟨?_,by rw [Zhz];exact hk⟩;show(toL 0).length≤k;rw [Zaq];simp
 ·rw [Zv5 h,Zv5 h];refine⟨Zwj (Zco ?_) hz,Zwj (Zco (Zz2 _ _)) hm⟩;have hd:((Nat.gcd m z.natAbs:Nat):Int) ∣ z:=Int.ofNat_dvd_left.2 (Nat.gcd_dvd_right _ _);have hg:0 < Nat.gcd m z.natAbs:=Nat.gcd_pos_of_pos_left _ zo;generalize Nat.gcd m z.natAbs=g at *;obtain⟨c,hc⟩:=hd;rw [hc,ZAj _ zo,Zyr,Zyf];exact Nat.le_mul_of_pos_left _ hg
theorem Zeg (a b:Int):(a+b).natAbs≤a.natAbs+b.natAbs:=zo
theorem Sz.pos {q:Rat} {k:Nat} (h:Sz q k):1≤k:=by
 have h1:=Za4.2 q.den_pos;have h2:=h.2;omega
theorem Zcz (a b:Rat) {j k:Nat} (ha:Sz a j) (hb:Sz b k):(toL (a.num*b.den).natAbs).length≤j+k:=by
 rw [Zyr,Zyf];exact Zwj (Zfh _ _) (ZAk ha.1 hb.2)
theorem Sz.mul {a b:Rat} {j k:Nat} (ha:Sz a j) (hb:Sz b k):Sz (a*b) (j+k):=by
 rw [Rat.mul_def'];refine Sz.mk ?_ (Zwj (Zfh _ _) (ZAk ha.2 hb.2)) (by have:=ha.pos;omega);rw [Zyr];exact Zwj (Zfh _ _) (ZAk ha.1 hb.1)
theorem Sz.add {a b:Rat} {j k:Nat} (ha:Sz a j) (hb:Sz b k):Sz (a+b) (j+k+1):=by
 rw [Rat.add_def'];refine Sz.mk ?_ (Zwj (Zfh _ _) (by have:=ha.2;have:=hb.2;omega)) zo;have h1:=Zcz a b ha hb;have h2:=Zcz b a hb ha;have h3:=Zco (Zeg (a.num*b.den) (b.num*a.den));have h4:=Zla (a.num*b.den).natAbs (b.num*a.den).natAbs;omega
theorem Sz.neg {a:Rat} {j:Nat} (ha:Sz a j):Sz (-a) j:=by
 unfold Sz;rw [Rat.neg_num,Rat.neg_den,ZA2];exact ha
theorem Sz.sub {a b:Rat} {j k:Nat} (ha:Sz a j) (hb:Sz b k):Sz (a - b) (j+k+1):=by
 rw [Rat.sub_eq_add_neg];exact ha.add hb.neg
theorem Sz.inv {a:Rat} {j:Nat} (ha:Sz a j):Sz (a⁻¹) j:=by
 unfold Sz;rw [Rat.num_inv,Rat.den_inv];by_cases h:a.num=0
 ·rw [Zv6 h,h];refine⟨?_,by rw [Zhz];exact ha.pos⟩;have:(Int.sign 0*(a.den:Int)).natAbs=0:=by simp
  rw [this];show(toL 0).length≤j;rw [Zaq];simp
 ·rw [Zv5 h];refine⟨?_,ha.1⟩;rw [Zyr,Zyf,Int.natAbs_sign_of_ne_zero h,Zx0];exact ha.2
theorem Sz.div {a b:Rat} {j k:Nat} (ha:Sz a j) (hb:Sz b k):Sz (a/b) (j+k):=ha.mul hb.inv
theorem Sz.int {z:Int} {k:Nat} (h:(toL z.natAbs).length≤k) (hk:1≤k):Sz (z:Rat) k:=⟨h,by show(toL 1).length≤k;rw [Zhz];exact hk⟩
def cmpQ (a b:Rat):Int:=if a < b then -1 else if b < a then 1 else 0
theorem cmpQ_z (a b:Rat):cmpQ a b=cmpZ (a.num*b.den) (b.num*a.den):=by
 unfold cmpQ cmpZ;simp only [Rat.lt_iff]
theorem iMul (z w:Int) (hz:(toL z.natAbs).length≤1000000000000) (hw:(toL w.natAbs).length≤1000000000000):Pure prog 84 [intZ z,intZ w] (intZ (z*w)):=by
 have:=Zq6 (decide (z < 0)) (decide (w < 0)) z.natAbs w.natAbs hz hw
 rwa [Zbd,Zbd] at this
theorem Zsd (z:Int) (d:Nat) (hz:(toL z.natAbs).length≤1000000000000) (hw:(toL d).length≤1000000000000):Pure prog 84 [intZ z,intA false d] (intZ (z*d)):=by
 have:=Zq6 (decide (z < 0)) false z.natAbs d hz hw;rw [Zbd] at this;exact this
theorem iAddA (z:Int) (t:Bool) (m:Nat) (hz:(toL z.natAbs).length≤1000000000000) (hm:(toL m).length≤1000000000000):Pure prog 132 [intZ z,intA t m] (intZ (z+zI t m)):=by
 have:=intAdd (decide (z < 0)) t z.natAbs m hz hm
 rwa [Zbd] at this
theorem iAdd0 (t:Bool) (m:Nat) (hm:(toL m).length≤1000000000000):Pure prog 132 [.agg [.v (.bool false),.v (.slice none 0 0)],intA t m] (intZ (zI t m)):=by
 have h:=iAddA 0 t m (by show(toL 0).length≤_;rw [Zaq];simp) hm;rw [Zwc] at h;refine pure_vkA h (.cons (.aggL (.cons (.refl _) (.cons ?_ .nil))) (.cons (.refl _) .nil));show Vk _ (.sl 1 (u16s (toL 0)));rw [Zaq];exact .nil 1
theorem iCmp (z w:Int) (hz:(toL z.natAbs).length≤1000000000000) (hw:(toL w.natAbs).length≤1000000000000):Pure prog 123 [intZ z,intZ w] (.v (.int .i64 (cmpZ z w))):=by
 have:=intCmp (decide (z < 0)) (decide (w < 0)) z.natAbs w.natAbs hz hw
 rwa [Zbd,Zbd] at this
theorem iSign (z:Int) (hz:(toL z.natAbs).length≤1000000000000):Pure prog 124 [intZ z] (.v (.int .i64 z.sign)):=by
 have:=Zpp (decide (z < 0)) z.natAbs hz
 rwa [Zbd] at this
theorem iDivMod (z:Int) (m:Nat) (hz:(toL z.natAbs).length≤100000000000) (hm:(toL m).length≤100000000000) (h0:m≠0):Pure prog 134 [intZ z,intA false m] (.tup [intZ (z/m),intZ (z%m),.v (.int .i64 0)]):=by
 have:=Zu8 (decide (z < 0)) z.natAbs m hz hm h0
 rwa [Zbd] at this
def sumC (z w:Int):Nat→List AV
 | 0=>[.v (.bool false),.v (.slice none 0 0)]
 | 1=>[.v (.bool (decide (z < 0))),lim (toL z.natAbs)]
 | _=>[.v (.bool (decide (z+w < 0))),lim (toL (z+w).natAbs)]
theorem u16s_c (x:Nat) (l:List Nat):u16s (x :: l)=AV.v (.int .u16 (x:Int)) :: u16s l:=rfl
theorem szShape:szOf prog 152=some 2:=by kernel_rfl
theorem zShape:Za6 prog 152=some (.agg #[.int .i64 0,.int .u16 0]):=by kernel_rfl
theorem eqShape:eqTy prog 152=true:=by kernel_rfl
theorem nat_sz1 (n:Nat) (h:n < 65536):Sz (n:Rat) 1:=⟨Zad.2 (by show((n:Int)).natAbs < _;simpa using h),Zad.2 (by show 1 < 65536 ^ 1;decide)⟩
attribute [go_sem] szShape zShape underlying154
attribute [local go_sem] eqShape
theorem intOf (n:Nat) (hn:n < 9223372036854775808):Pure prog 79 [.v (.int .i64 (n:Int))] (intA false n):=by
 have l4:(toL n).length≤4:=Zad.2 zo;have hm:=Zev false n zo;rw [Zd1,Zwx] at hm;refine pI func79 rfl ntmps79 results79 call79 ?_
 (refine wkvp w_t (w_2 (natOf n zo) hm) (w_s ?_);intros)
 simp (disch:=omega) only [go_sem]
theorem Ztu:Pure prog 87 [] (lim (toL 1)):=by
 rw [toL_one];refine pI func87 rfl ntmps87 results87 call87 ?_
 (refine wkvp w_t w_t (w_s ?_);intros)
 exact gC
theorem Zdr (n:Nat):Pure prog 85 [lim (toL n)] (intA false n):=by
 refine pI func85 rfl ntmps85 results85 call85 ?_
 (refine wkvp w_t w_t (w_s ?_);intros)
 simp (disch:=omega) only [go_sem]
theorem Zk0 (n:Nat) (hn:(toL n).length≤1000000000000):Pure prog 81 [lim (toL n)] (.v (.bool (decide (n=1)))):=by
 by_cases h0:n=0
 ·subst h0;rw [Zaq];refine pI func81 rfl ntmps81 results81 call81 ?_
  (refine wkvp w_t w_t (w_s ?_);intros)
  simp (disch:=omega) only [go_sem,Bool.and_self]
 ·have hd:decide (n=1)=(((((toL (n/65536)).length+1:Nat):Int) == 1) && (((n%65536:Nat):Int) == 1)):=by
   have hp:=@Za4 (n/65536);rw [Zxc];simp only [Zw4,Zwv,Zx3];omega
  rw [Zdx zo,hd];refine pI func81 rfl ntmps81 results81 call81 ?_
  (refine wkvp (w_1 @u16s_c) w_t (w_s ?_);intros)
  simp (disch:=omega) only [go_sem]
theorem Zjw (s:Bool) (n d:Nat) (h2:(toL d).length≤100000000000) (h0:d≠0):Pure prog 80 [ratA s n d] (.tup [intA s n,lim (toL d)]):=by
 have hb:Zms d≠0:=λe=>h0 (Zg2.1 e);refine pI func80 rfl ntmps80 results80 call80 ?_;(focus (refine wkad w_t (w_1 (nBits d zo)) (w_1 (w_d 3 [] [] [2])) ?_;(repeat' first|exact w_t|apply w_l);all_goals intros));simp (disch:=omega) only [go_sem]
theorem Zda (q:Rat) {k:Nat} (h:Sz q k) (hk:k≤100000000000):Pure prog 80 [ratQ q] (.tup [intZ q.num,lim (toL q.den)]) :=
 Zjw _ _ _ (Zwj h.2 hk) q.den_nz
theorem Zgr (s:Bool) (n m:Nat) (hn:(toL n).length≤100000000000) (hm:(toL m).length≤100000000000) (h0:m≠0):Pure prog 82 [intA s n,lim (toL m)] (ratQ (mkRat (zI s n) m)):=by
 have cn:=intNorm s n zo;have hz:=Zds s n;rw [Zo1 _ _ h0];generalize zI s n=z at *;subst hz;have hmp:=Za4.2 (Zx9 h0);have g0:Nat.gcd z.natAbs m≠0:=Nat.ne_of_gt (ZA1 _ zo);have hg:(toL (Nat.gcd z.natAbs m)).length≤100000000000:=Zwj (Zco (Nat.le_of_dvd zo (Nat.gcd_dvd_right _ _))) hm;have cg:=nGcd z.natAbs m zo zo;have c1:=Zk0 m zo;have c2:=Zk0 (Nat.gcd z.natAbs m) zo;by_cases hz0:z.natAbs=0
 ·have hzz:z=0:=zo;subst hzz;have l0:(toL 0).length=0:=by rw [Zaq];rfl
  have n0:Int.natAbs 0=0:=rfl;have hd:decide ((0:Int) < 0)=false:=rfl;have cn:Pure prog 129 [intA s 0] (.agg [.v (.bool false),lim (toL 0)]):=cn;rw [n0] at hn ⊢;rw [Nat.gcd_zero_left,Nat.zero_div,Nat.div_self zo,hd];refine Zcx (r:=.agg [.v (.bool false),.v (.slice none 0 0),lim (toL 1)]) ?_ (.aggL (.cons (.refl _) (.cons ?_ (VkL.refl _))))
  ·refine pI func82 rfl ntmps82 results82 call82 ?_
   (refine wkvp (w_1 l0) (w_3 (Zpg m zo) cn Ztu) (w_s ?_);intros)
   simp (disch:=omega) only [go_sem]
  ·show Vk _ (.sl 1 (u16s (toL 0)));rw [Zaq];exact .nil 1
 ·have hzp:=Za4.2 (Zx9 hz0);by_cases hm1:m=1
  ·subst hm1;rw [Nat.gcd_one_right,Zzx,Zzx];refine pI func82 rfl ntmps82 results82 call82 ?_
   (refine wkvp w_t (w_3 (Zpg 1 zo) cn c1) (w_s ?_);intros)
   simp (disch:=omega) only [go_sem]
  ·have d1:decide (m=1)=false:=Zv7 hm1;rw [d1] at c1;by_cases hg1:Nat.gcd z.natAbs m=1
   ·have d2:decide (Nat.gcd z.natAbs m=1)=true:=Zv8 hg1;rw [d2] at c2;rw [hg1,Zzx,Zzx];refine pI func82 rfl ntmps82 results82 call82 ?_
    (refine wkvp w_t (w_5 (Zpg m zo) cn c1 cg c2) (w_s ?_);intros)
    simp (disch:=omega) only [go_sem]
   ·have d2:decide (Nat.gcd z.natAbs m=1)=false:=Zv7 hg1;rw [d2] at c2;refine pI func82 rfl ntmps82 results82 call82 ?_
    (refine wkad w_t (w_7 (Zpg m zo) cn c1 cg c2 (Zph z.natAbs (Nat.gcd z.natAbs m) zo zo g0) (Zph m (Nat.gcd z.natAbs m) zo zo g0)) w_t (w_s ?_);intros)
    simp (disch:=omega) only [go_sem]
theorem Ztz (z w:Int) (hz:(toL z.natAbs).length≤100000000000) (hw:(toL w.natAbs).length≤100000000000) (h0:w≠0):Pure prog 78 [intZ z,intZ w] (.tup [ratQ (Rat.divInt z w),.v (.int .i64 0)]):=by
 have e:Rat.divInt z w=mkRat (zI (decide (z < 0) != decide (w < 0)) z.natAbs) w.natAbs:=by
  have ez:=Zbd z;unfold zI at ez ⊢;rcases (by omega:w < 0∨0 < w) with h | h
  ·rw [Zv8 h];have hw1:w=-((w.natAbs:Nat):Int):=zo;rw [show Rat.divInt z w=Rat.divInt z (-((w.natAbs:Nat):Int)) by rw [←hw1],Rat.divInt_neg',ZAl];congr 1;by_cases h1:z < 0
   ·simp only [Zv8 h1,bne_self_eq_false,Zwm,Zwt];omega
   ·simp only [Zv7 h1,Bool.false_bne,Zw1];omega
  ·rw [Zv7 (by omega:¬w < 0)];have hw1:w=((w.natAbs:Nat):Int):=zo;rw [show Rat.divInt z w=Rat.divInt z ((w.natAbs:Nat):Int) by rw [←hw1],ZAl];congr 1;by_cases h1:z < 0
   ·simp only [Zv8 h1,Bool.bne_false,Zw1];omega
   ·simp only [Zv7 h1,bne_self_eq_false,Zwm,Zwt];omega
 have c:=Zgr (decide (z < 0) != decide (w < 0)) z.natAbs w.natAbs hz hw zo;rw [←e] at c;have cs:=iSign w zo;have hs:w.sign≠0:=λh=>h0 (Int.sign_eq_zero_iff_zero.1 h);refine pI func78 rfl ntmps78 results78 call78 ?_;have hne (a b:Bool):(!(a == b))=(a != b):=rfl
 (refine wkvp (w_1 hne) (w_2 cs c) (w_s ?_);intros)
 simp (disch:=omega) only [go_sem]
theorem ratMake0 (z w:Int) (hw:w=0):Pure prog 78 [intZ z,intZ w] (.tup [.agg [.v (.bool false),.v (.slice none 0 0),.v (.slice none 0 0)],.v (.int .i64 3)]):=by
 subst hw;have cs:=iSign 0 (by show(toL 0).length≤_;rw [Zaq];simp);have hs:Int.sign 0=0:=rfl;rw [hs] at cs;have cs:Pure prog 124 [.agg [.v (.bool false),lim (toL (Int.natAbs 0))]] (.v (.int .i64 0)):=cs;refine pI func78 rfl ntmps78 results78 call78 ?_
 (refine wkvp w_t (w_1 cs) (w_s ?_);intros)
 simp (disch:=omega) only [go_sem]
theorem Ztw (q:Rat) {k:Nat} (h:Sz q k) (hk:k≤100000000000):Pure prog 122 [ratQ q] (.v (.int .i64 q.num.sign)):=by
 have h1:=h.1;refine pI func122 rfl ntmps122 results122 call122 ?_
 (refine wkvp w_t (w_2 (Zda q h hk) (iSign q.num zo)) (w_s ?_);intros)
 simp (disch:=omega) only [go_sem]
theorem ratFloor (q:Rat) {k:Nat} (h:Sz q k) (hk:k≤100000000000):Pure prog 88 [ratQ q] (intZ q.floor):=by
 have h1:=h.1;have h2:=h.2;have cd:=iDivMod q.num q.den zo zo q.den_nz;rw [Rat.floor_def];generalize q.num/(q.den:Int)=fz at *;generalize q.num%(q.den:Int)=fr at *;refine pI func88 rfl ntmps88 results88 call88 ?_
 (repeat' (first|(with_reducible first|refine stp ?_|apply gx1|apply gx2|apply gx3|apply gx4|apply gx5|apply gx6|apply gx7|apply gy8|apply gz2|apply gz3|refine gw0 (Zda q h hk) ?_ ?_|refine gw3 (Zda q h hk) ?_ ?_ ?_|refine gw0 (Zdr q.den) ?_ ?_|refine gw3 (Zdr q.den) ?_ ?_ ?_|refine gw0 (cd) ?_ ?_|refine gw3 (cd) ?_ ?_ ?_)|(with_reducible refine Zbt ?_;intro _)|((with_reducible refine gE ?_);(try simp (disch:=omega) only [go_sem])<;>first|rfl|omega)|with_reducible refine Zae zd ?_|((with_reducible apply gy1);iterate 3 focus rfl)|((with_reducible apply gy2);iterate 3 focus rfl)|((with_reducible apply gy3);iterate 2 focus rfl)|((with_reducible apply gy4);iterate 1 focus rfl)|((with_reducible apply gy5);iterate 4 focus rfl)|((with_reducible apply gy5c);iterate 4 focus rfl)|((with_reducible apply gy6);iterate 4 focus rfl)|((with_reducible apply Zdq);iterate 3 focus rfl)|((with_reducible apply Zdn);iterate 1 focus rfl)|((with_reducible apply gy7);iterate 1 focus rfl)|((with_reducible apply gy9);(focus ((with_reducible refine gE ?_);(try simp (disch:=omega) only [go_sem])<;>rfl)))|((with_reducible apply gz1);(focus first|rfl|(simp (disch:=omega) only [go_sem];done)))|((with_reducible apply Zal (Za3 [(2,intA false q.den),(3,.tup [intZ fz,intZ fr,.v (.int .i64 0)])]) [] [5,6]);(focus kernel_rfl);(focus rfl);(focus kernel_rfl);(focus (simp only [Zwd,Zwi,Nat.reduceAdd];rfl)))))
 simp (disch:=omega) only [go_sem]
theorem Ztv (s t:Bool) (n m:Nat) (hn:(toL n).length≤1000000000000) (hm:(toL m).length≤1000000000000):Pure prog 83 [.sl 2 [intA s n,intA t m]] (intZ (zI s n+zI t m)):=by
 have cz:=iAdd0 s n hn;have ca:=iAddA (zI s n) t m (by rw [Zds];exact hn) hm;generalize zI s n=z at *;generalize zI t m=w at *;refine pI func83 rfl ntmps83 results83 call83 ?_
 (refine wkvp w_t w_t (w_s ?_);intros)
 refine Zai (ι:=Nat) (λk e mm=>k≤2∧e 6=.sl 2 [intA s n,intA t m]∧e 7=.v (.int .i64 2)∧e 8=.v (.int .i64 (k:Int))∧∃g2 g,e 2=.pbox 2 g2 0∧mm 2=some (.box g2 39 [.v (.bool false),.v (.slice none 0 0)] false)∧e 3=.pbox 3 g 0∧mm 3=some (.box g 39 (sumC z w k) false)) (λk=>2 - k) 0 zr ?_ ?_
 ·rintro k e mm ⟨hk,e6,e7,e8,g2,g,e2,m2,e3,m3⟩
  match k,hk with
  | 0,_ =>
    simp only [sumC] at m3
    (refine wkvp (w_8 e6 e7 e8 e2 m2 e3 m3 @Zx5) (w_1 cz) (w_s ?_);intros)
    exact⟨1,⟨zo,gW e6,gW e7,gW e8,g2,g,gW e2,gW m2,gW e3,by(simp (disch:=omega) only [go_sem,m3,sumC]<;>repeat' first|rfl|refine⟨?_,?_⟩)⟩,zo⟩
  | 1,_ =>
    simp only [sumC] at m3
    (refine wkvp (w_8 e6 e7 e8 e2 m2 e3 m3 @Int.natCast_one) (w_1 ca) (w_s ?_);intros)
    exact⟨2,⟨zo,gW e6,gW e7,gW e8,g2,g,gW e2,gW m2,gW e3,by(simp (disch:=omega) only [go_sem,m3,sumC]<;>repeat' first|rfl|refine⟨?_,?_⟩)⟩,zo⟩
  | 2,_ =>
    simp only [sumC] at m3
    (refine wkvp (w_7 e6 e7 e8 e2 m2 e3 m3) w_t (w_s ?_);intros)
    simp (disch:=omega) only [go_sem,e2]
 ·exact⟨zo,gC,gC,gC,_,_,gC,gC,gC,by(simp (disch:=omega) only [go_sem,sumC]<;>repeat' first|rfl|refine⟨?_,?_⟩)⟩
theorem ratSum (z w:Int) (hz:(toL z.natAbs).length≤1000000000000) (hw:(toL w.natAbs).length≤1000000000000):Pure prog 83 [.sl 2 [intZ z,intZ w]] (intZ (z+w)):=by
 have:=Ztv (decide (z < 0)) (decide (w < 0)) z.natAbs w.natAbs hz hw
 rwa [Zbd,Zbd] at this
theorem Ztx (n:Nat) (hn:n < 9223372036854775808):Pure prog 40 [.v (.int .i64 (n:Int))] (ratQ (n:Rat)):=by
 refine pI func40 rfl ntmps40 results40 call40 ?_;have hd:decide ((n:Rat).num < 0)=false:=Zv7 (by show ¬((n:Int) < 0);omega);have hn':(n:Rat).num.natAbs=n:=Zyf n;unfold ratQ;rw [hd,hn',Rat.den_natCast]
 (refine wkvp w_t (w_2 (intOf n hn) Ztu) (w_s ?_);intros)
 simp (disch:=omega) only [go_sem]
theorem Zty (a b:Rat) {j k:Nat} (ha:Sz a j) (hb:Sz b k) (hj:j≤20000000000) (hk:k≤20000000000):Pure prog 41 [ratQ a,ratQ b] (ratQ (a*b)):=by
 obtain⟨a1,a2⟩:=id ha;obtain⟨b1,b2⟩:=id hb;have l1:(toL (a.num*b.num).natAbs).length≤j+k:=by rw [Zyr];exact Zwj (Zfh _ _) zo
 have l2:(toL (a.den*b.den)).length≤j+k:=Zwj (Zfh _ _) zo;have c:=Zgr (decide (a.num*b.num < 0)) (a.num*b.num).natAbs (a.den*b.den) zo zo (Zz1 a.den_nz b.den_nz);rw [Zbd,←Rat.mul_def'] at c;refine pI func41 rfl ntmps41 results41 call41 ?_
 (refine wkvp w_t (w_5 (Zda a ha zo) (Zda b hb zo) (iMul a.num b.num zo zo) (nMul a.den b.den zo zo) c) (w_s ?_);intros)
 simp (disch:=omega) only [go_sem]
theorem Zt3 (s t:Bool) (n d m c:Nat) {j k:Nat} (a1:(toL n).length≤j) (a2:(toL d).length≤j) (b1:(toL m).length≤k) (b2:(toL c).length≤k) (hd0:d≠0) (hc0:c≠0) (hj:j≤20000000000) (hk:k≤20000000000) :
 Pure prog 39 [ratA s n d,ratA t m c] (ratQ (mkRat (zI s n) d+mkRat (zI t m) c)):=by
 have oa:=Zk0 d zo;have ob:=Zk0 c zo;have l2:(toL (d*c)).length≤j+k:=Zwj (Zfh _ _) zo;have z1:=Zds s n;have w1:=Zds t m;have pa:=Zjw s n d zo hd0;have pb:=Zjw t m c zo hc0;have eq:mkRat (zI s n) d+mkRat (zI t m) c=mkRat (zI s n*c+zI t m*d) (d*c):=Rat.mkRat_add_mkRat _ _ hd0 hc0;have cs0:=Ztv s t n m zo zo;have cm1:Pure prog 84 [intA s n,intA false c] (intZ (zI s n*c)):=Zq6 s false n c zo zo;have cm2:Pure prog 84 [intA t m,intA false d] (intZ (zI t m*d)):=Zq6 t false m d zo zo;rw [eq]
 have x1:(toL (zI s n*c).natAbs).length≤j+k:=by
  rw [Zyr,Zyf,z1];exact Zwj (Zfh _ _) zo
 have x2:(toL (zI t m*d).natAbs).length≤j+k:=by
  rw [Zyr,Zyf,w1];exact Zwj (Zfh _ _) zo
 by_cases h1:d=1∧c=1
 ·obtain⟨h1,h2⟩:=h1
  have l1:(toL (zI s n+zI t m).natAbs).length≤j+k+1:=by
   have h3:=Zco (Zeg (zI s n) (zI t m));have h4:=Zla (zI s n).natAbs (zI t m).natAbs;rw [z1,w1] at h3 h4;omega
  have c:=Zgr (decide (zI s n+zI t m < 0)) (zI s n+zI t m).natAbs 1 zo (by rw [Zhz];omega) zo;rw [Zbd] at c;subst h1;subst h2;rw [Zv8 rfl] at oa ob;have e1:zI s n*((1:Nat):Int)+zI t m*((1:Nat):Int)=zI s n+zI t m:=zo;rw [e1,Zy0];refine pI func39 rfl ntmps39 results39 call39 ?_
  (refine wkax w_t (w_5 pa pb oa ob c) w_t (w_1 cs0) w_t w_t w_y (w_r 0) (w_s ?_);intros)
  simp (disch:=omega) only [go_sem]
 ·have l1:(toL (zI s n*c+zI t m*d).natAbs).length≤j+k+1:=by
   have h3:=Zco (Zeg (zI s n*c) (zI t m*d));have h4:=Zla (zI s n*c).natAbs (zI t m*d).natAbs;omega
  have cr:=Zgr (decide (zI s n*c+zI t m*d < 0)) (zI s n*c+zI t m*d).natAbs (d*c) zo zo (Zz1 hd0 hc0);rw [Zbd] at cr;have cs:=ratSum (zI s n*c) (zI t m*d) zo zo;have cw1:=Zdr c;have cw2:=Zdr d;have cm:=nMul d c zo zo;generalize zI s n*(c:Int)=y1 at *;generalize zI t m*(d:Int)=y2 at *;by_cases h2:d=1
  ·have h3:c≠1:=λh=>h1 ⟨h2,h⟩;rw [Zv8 h2] at oa;rw [Zv7 h3] at ob;refine pI func39 rfl ntmps39 results39 call39 ?_
   (refine wkax w_t (w_11 pa pb oa ob cw1 cm1 cw2 cm2 cs cm cr) (w_1 (w_d 5 [(2,intA false c),(3,intZ y1),(6,intA false d),(7,intZ y2),(8,.sl 2 [intZ y1,intZ y2]),(9,intZ (y1+y2)),(12,lim (toL (d*c))),(13,ratQ (mkRat (y1+y2) (d*c)))] [] [4])) w_t w_t w_t w_y (w_r 0) (w_s ?_);intros)
   simp (disch:=omega) only [go_sem]
  ·rw [Zv7 h2] at oa;refine pI func39 rfl ntmps39 results39 call39 ?_
   (refine wkax w_t (w_10 pa pb oa cw1 cm1 cw2 cm2 cs cm cr) (w_1 (w_d 5 [(2,intA false c),(3,intZ y1),(6,intA false d),(7,intZ y2),(8,.sl 2 [intZ y1,intZ y2]),(9,intZ (y1+y2)),(12,lim (toL (d*c))),(13,ratQ (mkRat (y1+y2) (d*c)))] [] [4])) w_t w_t w_t w_y (w_r 0) (w_s ?_);intros)
   simp (disch:=omega) only [go_sem]
theorem Zql (a b:Rat) {j k:Nat} (ha:Sz a j) (hb:Sz b k) (hj:j≤20000000000) (hk:k≤20000000000):Pure prog 39 [ratQ a,ratQ b] (ratQ (a+b)):=by
 have:=Zt3 (decide (a.num < 0)) (decide (b.num < 0)) a.num.natAbs a.den b.num.natAbs b.den ha.1 ha.2 hb.1 hb.2 a.den_nz b.den_nz hj hk
 rwa [Zbd,Zbd,Zz3,Zz3] at this
theorem Znc (a b:Rat) {j k:Nat} (ha:Sz a j) (hb:Sz b k) (hj:j≤20000000000) (hk:k≤20000000000):Pure prog 37 [ratQ a,ratQ b] (ratQ (a - b)):=by
 have c:=Zt3 (decide (a.num < 0)) (!decide (b.num < 0)) a.num.natAbs a.den b.num.natAbs b.den ha.1 ha.2 hb.1 hb.2 a.den_nz b.den_nz hj hk
 have e:zI (!decide (b.num < 0)) b.num.natAbs=-b.num:=by
  have:=Zbd b.num;unfold zI at *;by_cases h:b.num < 0
  ·simp only [Zv8 h,Zzk,Zwm,Zwt];omega
  ·simp only [Zv7 h,Zz0,Zw1];omega
 have e2:mkRat (-b.num) b.den=-b:=by rw [←Rat.neg_mkRat,Zz3]
 rw [Zbd,e,Zz3,e2,←Rat.sub_eq_add_neg] at c;refine pI func37 rfl ntmps37 results37 call37 ?_
 (refine wkvp w_t (w_1 c) (w_s ?_);intros)
 simp (disch:=omega) only [go_sem]
theorem Zt2 (a b:Rat) {j k:Nat} (ha:Sz a j) (hb:Sz b k) (hj:j≤20000000000) (hk:k≤20000000000):Pure prog 76 [ratQ a,ratQ b] (.v (.int .i64 (cmpQ a b))):=by
 obtain⟨a1,a2⟩:=id ha;obtain⟨b1,b2⟩:=id hb;have sa:=Ztw a ha zo;have sb:=Ztw b hb zo;have pa:=Zda a ha zo;have pb:=Zda b hb zo;have cm1:=Zsd a.num b.den zo zo;have cm2:=Zsd b.num a.den zo zo;have x1:(toL (a.num*b.den).natAbs).length≤j+k:=Zcz a b ha hb;have x2:(toL (b.num*a.den).natAbs).length≤k+j:=Zcz b a hb ha;have cc:=iCmp (a.num*b.den) (b.num*a.den) zo zo;have cw1:=Zdr b.den;have cw2:=Zdr a.den;have dp:(0:Int) < a.den:=by have:=a.den_pos;omega
 have ep:(0:Int) < b.den:=by have:=b.den_pos;omega
 rw [cmpQ_z]
 have sg:∀z:Int,(z.sign=1∧0 < z)∨(z.sign=0∧z=0)∨(z.sign=-1∧z < 0):=by
  intro z;rcases Zzf z 0 with h | h | h
  ·exact .inr (.inr ⟨Zzr h,h⟩)
  ·exact .inr (.inl ⟨by rw [h];rfl,h⟩)
  ·exact .inl ⟨ZAs h,h⟩
 have mp:∀z w:Int,0 < z→0 < w→0 < z*w:=λz w=>Int.mul_pos;have mz:∀w:Int,0*w=0:=λw=>Int.zero_mul w;have mn:∀z w:Int,z < 0→0 < w→z*w < 0:=λz w=>Int.mul_neg_of_neg_of_pos
 have sA:(a.num.sign=1→0 < a.num*b.den)∧(a.num.sign=0→a.num*b.den=0)∧(a.num.sign=-1→a.num*b.den < 0):=by
  rcases sg a.num with⟨h,h'⟩ | ⟨h,h'⟩ | ⟨h,h'⟩
  ·exact⟨λ_=>mp _ _ h' ep,λh2=>zo,λh2=>zo⟩
  ·exact⟨λh2=>zo,λ_=>(by rw [h'];exact mz _),λh2=>zo⟩
  ·exact⟨λh2=>zo,λh2=>zo,λ_=>mn _ _ h' ep⟩
 have sB:(b.num.sign=1→0 < b.num*a.den)∧(b.num.sign=0→b.num*a.den=0)∧(b.num.sign=-1→b.num*a.den < 0):=by
  rcases sg b.num with⟨h,h'⟩ | ⟨h,h'⟩ | ⟨h,h'⟩
  ·exact⟨λ_=>mp _ _ h' dp,λh2=>zo,λh2=>zo⟩
  ·exact⟨λh2=>zo,λ_=>(by rw [h'];exact mz _),λh2=>zo⟩
  ·exact⟨λh2=>zo,λh2=>zo,λ_=>mn _ _ h' dp⟩
 have ga:=sg a.num;have gb:=sg b.num;generalize a.num*(b.den:Int)=y1 at *;generalize b.num*(a.den:Int)=y2 at *;rcases Zzf a.num.sign b.num.sign with h | h | h
 ·have hc:cmpZ y1 y2=-1:=by
   unfold cmpZ;rw [Zv6 zo]
  rw [hc];clear ga gb sA sB;refine pI func76 rfl ntmps76 results76 call76 ?_
  (refine wkad w_t (w_2 sa sb) (w_1 (w_d 1 [(1,.v (.int .i64 a.num.sign)),(3,.v (.int .i64 b.num.sign))] [] [])) (w_s ?_);intros)
  simp (disch:=omega) only [go_sem]
 ·refine pI func76 rfl ntmps76 results76 call76 ?_
  (refine wkvp w_t (w_2 sa sb) (w_s ?_);intros)
  apply Zal (Za3 [(1,.v (.int .i64 a.num.sign)),(3,.v (.int .i64 b.num.sign))]) [] [] zk zr zk;(focus (simp only [Zwd,Zwi,Nat.reduceAdd];rfl))
  (refine wkax w_t (w_4 sa sb pa pb) w_t w_t w_t w_t w_t (w_r 0) (w_s ?_);intros)
  apply Zal (Za3 [(2,intA false b.den),(3,intZ y1),(6,intA false a.den),(7,intZ y2),(8,.v (.int .i64 (cmpZ y1 y2)))]) [] [] zk zr zk;(focus (simp only [Zwd,Zwi,Nat.reduceAdd];rfl))
  (refine wkax w_t (w_5 cw1 cm1 cw2 cm2 cc) w_t w_t w_t w_t w_t (w_r 0) (w_s ?_);intros)
  simp (disch:=omega) only [go_sem]
 ·have hc:cmpZ y1 y2=1:=by
   unfold cmpZ;rw [Zv5 zo,Zv6 zo]
  rw [hc];clear ga gb sA sB;refine pI func76 rfl ntmps76 results76 call76 ?_
  (refine wkad w_t (w_2 sa sb) (w_1 (w_d 1 [(1,.v (.int .i64 a.num.sign)),(3,.v (.int .i64 b.num.sign))] [] [])) (w_s ?_);intros)
  simp (disch:=omega) only [go_sem]
theorem Zt1 (a b:Rat) {j k:Nat} (ha:Sz a j) (hb:Sz b k) (hj:j≤20000000000) (hk:k≤20000000000) (h0:b≠0):Pure prog 77 [ratQ a,ratQ b] (.tup [ratQ (a/b),.v (.int .i64 0)]):=by
 obtain⟨a1,a2⟩:=id ha;obtain⟨b1,b2⟩:=id hb;have pa:=Zda a ha zo;have pb:=Zda b hb zo;have cm1:=Zsd a.num b.den zo zo;have cm2:=Zsd b.num a.den zo zo;have x1:(toL (a.num*b.den).natAbs).length≤j+k:=Zcz a b ha hb;have x2:(toL (b.num*a.den).natAbs).length≤k+j:=Zcz b a hb ha;have hb0:b.num≠0:=λe=>h0 (Rat.num_eq_zero.1 e);have hd0:(a.den:Int)≠0:=by have:=a.den_nz;omega
 have hw0:b.num*(a.den:Int)≠0:=Int.mul_ne_zero hb0 hd0;have cM:=Ztz (a.num*b.den) (b.num*a.den) zo zo hw0
 have e:Rat.divInt (a.num*b.den) (b.num*a.den)=a/b:=by
  rw [Rat.div_def,Rat.inv_def];have h1:a=Rat.divInt a.num a.den:=(Rat.num_divInt_den a).symm;rw [show a*Rat.divInt (b.den:Int) b.num=Rat.divInt a.num a.den*Rat.divInt (b.den:Int) b.num by rw [←h1],Rat.divInt_mul_divInt,Int.mul_comm b.num]
 rw [e] at cM;have cw1:=Zdr b.den;have cw2:=Zdr a.den;generalize a/b=q at *;generalize a.num*(b.den:Int)=y1 at *;generalize b.num*(a.den:Int)=y2 at *;refine pI func77 rfl ntmps77 results77 call77 ?_
 (repeat' (first|(with_reducible first|refine stp ?_|apply gx1|apply gx2|apply gx3|apply gx4|apply gx5|apply gx6|apply gx7|apply gy8|apply gz2|apply gz3|refine gw0 (pa) ?_ ?_|refine gw3 (pa) ?_ ?_ ?_|refine gw0 (pb) ?_ ?_|refine gw3 (pb) ?_ ?_ ?_|refine gw0 (cw1) ?_ ?_|refine gw3 (cw1) ?_ ?_ ?_|refine gw0 (cm1) ?_ ?_|refine gw3 (cm1) ?_ ?_ ?_|refine gw0 (cw2) ?_ ?_|refine gw3 (cw2) ?_ ?_ ?_|refine gw0 (cm2) ?_ ?_|refine gw3 (cm2) ?_ ?_ ?_|refine gw0 (cM) ?_ ?_|refine gw3 (cM) ?_ ?_ ?_)|(with_reducible refine Zbt ?_;intro _)|((with_reducible refine gE ?_);(try simp (disch:=omega) only [go_sem])<;>first|rfl|omega)|with_reducible refine Zae zd ?_|((with_reducible apply gy1);iterate 3 focus rfl)|((with_reducible apply gy2);iterate 3 focus rfl)|((with_reducible apply gy3);iterate 2 focus rfl)|((with_reducible apply gy4);iterate 1 focus rfl)|((with_reducible apply gy5);iterate 4 focus rfl)|((with_reducible apply gy5c);iterate 4 focus rfl)|((with_reducible apply gy6);iterate 4 focus rfl)|((with_reducible apply Zdq);iterate 3 focus rfl)|((with_reducible apply Zdn);iterate 1 focus rfl)|((with_reducible apply gy7);iterate 1 focus rfl)|((with_reducible apply gy9);(focus ((with_reducible refine gE ?_);(try simp (disch:=omega) only [go_sem])<;>rfl)))|((with_reducible apply gz1);(focus first|rfl|(simp (disch:=omega) only [go_sem];done)))|((with_reducible apply Zal (Za3 [(2,intA false b.den),(3,intZ y1),(6,intA false a.den),(7,intZ y2),(8,.tup [ratQ q,.v (.int .i64 0)])]) [] [4]);(focus kernel_rfl);(focus rfl);(focus kernel_rfl);(focus (simp only [Zwd,Zwi,Nat.reduceAdd];rfl)))))
 simp (disch:=omega) only [go_sem]
theorem Zo2 (a b:Rat) {j k:Nat} (ha:Sz a j) (hb:Sz b k) (hj:j≤20000000000) (hk:k≤20000000000) (h0:b=0):Pure prog 77 [ratQ a,ratQ b] (.tup [.agg [.v (.bool false),.v (.slice none 0 0),.v (.slice none 0 0)],.v (.int .i64 3)]):=by
 obtain⟨a1,a2⟩:=id ha;obtain⟨b1,b2⟩:=id hb;have pa:=Zda a ha zo;have pb:=Zda b hb zo;have cm1:=Zsd a.num b.den zo zo;have cm2:=Zsd b.num a.den zo zo;have e0:b.num*(a.den:Int)=0:=by rw [h0,Rat.zero_num,Int.zero_mul]
 have cM:=ratMake0 (a.num*b.den) (b.num*a.den) e0;have cw1:=Zdr b.den;have cw2:=Zdr a.den;clear h0 e0;generalize a.num*(b.den:Int)=y1 at *;generalize b.num*(a.den:Int)=y2 at *;refine pI func77 rfl ntmps77 results77 call77 ?_
 (repeat' (first|(with_reducible first|refine stp ?_|apply gx1|apply gx2|apply gx3|apply gx4|apply gx5|apply gx6|apply gx7|apply gy8|apply gz2|apply gz3|refine gw0 (pa) ?_ ?_|refine gw3 (pa) ?_ ?_ ?_|refine gw0 (pb) ?_ ?_|refine gw3 (pb) ?_ ?_ ?_|refine gw0 (cw1) ?_ ?_|refine gw3 (cw1) ?_ ?_ ?_|refine gw0 (cm1) ?_ ?_|refine gw3 (cm1) ?_ ?_ ?_|refine gw0 (cw2) ?_ ?_|refine gw3 (cw2) ?_ ?_ ?_|refine gw0 (cm2) ?_ ?_|refine gw3 (cm2) ?_ ?_ ?_|refine gw0 (cM) ?_ ?_|refine gw3 (cM) ?_ ?_ ?_)|(with_reducible refine Zbt ?_;intro _)|((with_reducible refine gE ?_);(try simp (disch:=omega) only [go_sem])<;>first|rfl|omega)|with_reducible refine Zae zd ?_|((with_reducible apply gy1);iterate 3 focus rfl)|((with_reducible apply gy2);iterate 3 focus rfl)|((with_reducible apply gy3);iterate 2 focus rfl)|((with_reducible apply gy4);iterate 1 focus rfl)|((with_reducible apply gy5);iterate 4 focus rfl)|((with_reducible apply gy5c);iterate 4 focus rfl)|((with_reducible apply gy6);iterate 4 focus rfl)|((with_reducible apply Zdq);iterate 3 focus rfl)|((with_reducible apply Zdn);iterate 1 focus rfl)|((with_reducible apply gy7);iterate 1 focus rfl)|((with_reducible apply gy9);(focus ((with_reducible refine gE ?_);(try simp (disch:=omega) only [go_sem])<;>rfl)))|((with_reducible apply gz1);(focus first|rfl|(simp (disch:=omega) only [go_sem];done)))|((with_reducible apply Zal (Za3 [(2,intA false b.den),(3,intZ y1),(6,intA false a.den),(7,intZ y2),(8,.tup [.agg [.v (.bool false),.v (.slice none 0 0),.v (.slice none 0 0)],.v (.int .i64 3)])]) [] [4]);(focus kernel_rfl);(focus rfl);(focus kernel_rfl);(focus (simp only [Zwd,Zwi,Nat.reduceAdd];rfl)))))
 simp (disch:=omega) only [go_sem]
theorem Zgx {z:Int} (h:z < 0):intZ z=intA true z.natAbs:=by unfold intZ;rw [Zv8 h]
theorem Zfx {z:Int} (h:¬z < 0):intZ z=intA false z.natAbs:=by unfold intZ;rw [Zv7 h]
theorem zOf' (s:Bool) (n:Nat) (hn:(toL n).length≤1000000000000):Pure prog 148 [.v (.bool s),lim (toL n)] (intZ (zI s n)):=by
 rw [Zd1];have hp:=@Za4 n;cases s
 ·refine pI func148 rfl ntmps148 results148 call148 ?_
  (refine wkvp w_t (w_1 (Zt7 n hn)) (w_s ?_);intros)
  simp (disch:=omega) only [go_sem,Zwx]
 ·by_cases h:0 < n
  ·have h2:=hp.2 h;refine pI func148 rfl ntmps148 results148 call148 ?_
   (refine wkvp w_t (w_1 (Zt7 n hn)) (w_s ?_);intros)
   simp (disch:=omega) only [go_sem,Zv8 h]
  ·have h2:¬0 < (toL n).length:=λh3=>h (hp.1 h3);refine pI func148 rfl ntmps148 results148 call148 ?_
   (refine wkvp w_t (w_1 (Zt7 n hn)) (w_s ?_);intros)
   simp (disch:=omega) only [go_sem,Zv7 h]
theorem zNorm (s:Bool) (n:Nat) (hn:(toL n).length≤1000000000000):Pure prog 147 [intA s n] (intZ (zI s n)):=by
 refine pI func147 rfl ntmps147 results147 call147 ?_
 (refine wkvp w_t (w_1 (zOf' s n hn)) (w_s ?_);intros)
 simp (disch:=omega) only [go_sem]
theorem Zp0 (z:Int) (hz:(toL z.natAbs).length≤1000000000000):Pure prog 147 [intZ z] (intZ z):=by
 have:=zNorm (decide (z < 0)) z.natAbs hz
 rwa [Zbd] at this
theorem zOf (n:Nat) (hn:n < 9223372036854775808):Pure prog 103 [.v (.int .i64 (n:Int))] (intA false n):=by
 have l4:(toL n).length≤4:=Zad.2 zo;have hm:=zOf' false n zo;rw [Zd1,Zwx] at hm;refine pI func103 rfl ntmps103 results103 call103 ?_
 (refine wkvp w_t (w_2 (Zi4 n zo) hm) (w_s ?_);intros)
 simp (disch:=omega) only [go_sem]
theorem zNeg (s:Bool) (n:Nat) (hn:(toL n).length≤1000000000000):Pure prog 146 [intA s n] (intZ (-zI s n)):=by
 have e:-zI s n=zI (!s) n:=by cases s<;>simp [zI]
 rw [e];refine pI func146 rfl ntmps146 results146 call146 ?_
 (refine wkvp w_t (w_1 (zOf' (!s) n hn)) (w_s ?_);intros)
 simp (disch:=omega) only [go_sem]
theorem zSign (z:Int) (hz:(toL z.natAbs).length≤1000000000000):Pure prog 189 [intZ z] (.v (.int .i64 z.sign)):=by
 have cn:=Zp0 z hz;have hp:=@Za4 z.natAbs;rcases Zzf z 0 with h | h | h
 ·rw [Zzr h];have h2:=hp.2 zo;rw [Zgx h] at cn ⊢;refine pI func189 rfl ntmps189 results189 call189 ?_
  (refine wkvp w_t (w_1 cn) (w_s ?_);intros)
  simp (disch:=omega) only [go_sem]
 ·have h2:¬0 < (toL z.natAbs).length:=λh3=>by have:=hp.1 h3;omega
  have hs:z.sign=0:=by rw [h];rfl
  rw [hs];rw [Zfx zo] at cn ⊢;refine pI func189 rfl ntmps189 results189 call189 ?_
  (refine wkvp w_t (w_1 cn) (w_s ?_);intros)
  simp (disch:=omega) only [go_sem]
 ·rw [ZAs h];have h2:=hp.2 zo;rw [Zfx zo] at cn ⊢;refine pI func189 rfl ntmps189 results189 call189 ?_
  (refine wkvp w_t (w_1 cn) (w_s ?_);intros)
  simp (disch:=omega) only [go_sem]
theorem zCmp (z w:Int) (hz:(toL z.natAbs).length≤1000000000000) (hw:(toL w.natAbs).length≤1000000000000):Pure prog 109 [intZ z,intZ w] (.v (.int .i64 (cmpZ z w))):=by
 have c1:=Zp0 z hz;have c2:=Zp0 w hw;have ca:=rCmp z.natAbs w.natAbs hz hw;have cb:=rCmp w.natAbs z.natAbs hw hz;by_cases h1:z < 0
 ·by_cases h2:w < 0
  ·have hc:cmpZ z w=cmpN w.natAbs z.natAbs:=by
    unfold cmpZ cmpN;have e1:(z < w)↔(w.natAbs < z.natAbs):=zo;have e2:(w < z)↔(z.natAbs < w.natAbs):=zo;simp only [e1,e2]
   rw [hc];rw [Zgx h1] at c1 ⊢;rw [Zgx h2] at c2 ⊢;refine pI func109 rfl ntmps109 results109 call109 ?_
   (refine wkad w_t (w_3 c1 c2 cb) (w_1 (w_d 1 [(1,.agg [.v (.bool true),lim (toL z.natAbs)]),(3,.agg [.v (.bool true),lim (toL w.natAbs)])] [4,5] [])) (w_s ?_);intros)
   simp (disch:=omega) only [go_sem]
  ·have hc:cmpZ z w=-1:=Zv6 zo;rw [hc];rw [Zgx h1] at c1 ⊢;rw [Zfx h2] at c2 ⊢;refine pI func109 rfl ntmps109 results109 call109 ?_
   (refine wkad w_t (w_2 c1 c2) (w_1 (w_d 1 [(1,.agg [.v (.bool true),lim (toL z.natAbs)]),(3,.agg [.v (.bool false),lim (toL w.natAbs)])] [4,5] [])) (w_s ?_);intros)
   simp (disch:=omega) only [go_sem]
 ·by_cases h2:w < 0
  ·have hc:cmpZ z w=1:=by unfold cmpZ;rw [Zv5 zo,Zv6 zo]
   rw [hc];rw [Zfx h1] at c1 ⊢;rw [Zgx h2] at c2 ⊢;refine pI func109 rfl ntmps109 results109 call109 ?_
   (refine wkad w_t (w_2 c1 c2) (w_1 (w_d 1 [(1,.agg [.v (.bool false),lim (toL z.natAbs)]),(3,.agg [.v (.bool true),lim (toL w.natAbs)])] [4,5] [])) (w_s ?_);intros)
   simp (disch:=omega) only [go_sem]
  ·have hc:cmpZ z w=cmpN z.natAbs w.natAbs:=by
    unfold cmpZ cmpN;have e1:(z < w)↔(z.natAbs < w.natAbs):=zo;have e2:(w < z)↔(w.natAbs < z.natAbs):=zo;simp only [e1,e2]
   rw [hc];rw [Zfx h1] at c1 ⊢;rw [Zfx h2] at c2 ⊢;refine pI func109 rfl ntmps109 results109 call109 ?_
   (refine wkad w_t (w_3 c1 c2 ca) (w_1 (w_d 1 [(1,.agg [.v (.bool false),lim (toL z.natAbs)]),(3,.agg [.v (.bool false),lim (toL w.natAbs)])] [4,5] [])) (w_s ?_);intros)
   simp (disch:=omega) only [go_sem]
theorem zMul (s t:Bool) (n m:Nat) (hn:(toL n).length≤400000000000) (hm:(toL m).length≤400000000000):Pure prog 100 [intA s n,intA t m] (intZ (zI s n*zI t m)):=by
 have e:zI s n*zI t m=zI (s != t) (n*m):=by cases s<;>cases t<;>simp [zI,Int.mul_neg,Int.neg_mul]
 have lm:=Zfh n m;have hne:(!(s == t))=(s != t):=rfl;rw [e];refine pI func100 rfl ntmps100 results100 call100 ?_
 (refine wkad (w_1 hne) (w_2 (rMul n m zo zo) (zOf' (s != t) (n*m) zo)) (w_1 (w_d 1 [(9,lim (toL (n*m))),(10,intZ (zI (s != t) (n*m)))] [11] [])) (w_s ?_);intros)
 simp (disch:=omega) only [go_sem]
theorem zAdd (s t:Bool) (n m:Nat) (hn:(toL n).length≤400000000000) (hm:(toL m).length≤400000000000):Pure prog 99 [intA s n,intA t m] (intZ (zI s n+zI t m)):=by
 by_cases hst:s=t
 ·subst hst;have e:zI s n+zI s m=zI s (n+m):=by cases s<;>simp [zI]<;>omega
  have la:=Zla n m;rw [e];have hb:(s == s)=true:=by cases s<;>rfl
  refine pI func99 rfl ntmps99 results99 call99 ?_
  (refine wkad (w_1 hb) (w_2 (rAdd n m zo zo) (zOf' s (n+m) zo)) (w_1 (w_d 2 [(6,lim (toL (n+m))),(7,intZ (zI s (n+m)))] [8] [])) (w_s ?_);intros)
  simp (disch:=omega) only [go_sem]
 ·have hb:(s == t)=false:=by cases s<;>cases t<;>first|rfl|exact absurd rfl hst
  have ht:t=!s:=by cases s<;>cases t<;>first|rfl|exact absurd rfl hst
  have c1:=rSub n m zo zo;have c2:=rSub m n zo zo;by_cases hlt:n < m
  ·have e:zI s n+zI t m=zI t (m - n):=by rw [ht];cases s<;>simp [zI]<;>omega
   have ls:(toL (m - n)).length≤1000000000000:=Zwj (Zco (Nat.sub_le _ _)) zo;rw [Zv6 hlt,Zv6 hlt] at c1;rw [Zv5 zo,Zv5 zo] at c2;rw [e];refine pI func99 rfl ntmps99 results99 call99 ?_
   (refine wkad (w_1 hb) (w_3 c1 c2 (zOf' t (m - n) ls)) w_t (w_s ?_);intros)
   simp (disch:=omega) only [go_sem]
  ·have e:zI s n+zI t m=zI s (n - m):=by rw [ht];cases s<;>simp [zI]<;>omega
   have ls:(toL (n - m)).length≤1000000000000:=Zwj (Zco (Nat.sub_le _ _)) zo;rw [Zv5 hlt,Zv5 hlt] at c1;rw [e];refine pI func99 rfl ntmps99 results99 call99 ?_
   (refine wkad (w_1 hb) (w_2 c1 (zOf' s (n - m) ls)) w_t (w_s ?_);intros)
   simp (disch:=omega) only [go_sem]
theorem zDivMod (s:Bool) (n m:Nat) (hn:(toL n).length≤100000000000) (hm:(toL m).length≤100000000000) (h0:m≠0):Pure prog 152 [intA s n,intA false m] (.tup [intZ (zI s n/m),intZ (zI s n%m),.v (.int .i64 0)]):=by
 have cd:=Zl1 n m zo zo h0;have hq:(toL (n/m)).length≤100000000000:=Zwj (Zco (Zz2 _ _)) hn;have hr:(toL (n%m)).length≤100000000000:=Zwj (Zco (Nat.mod_le _ _)) hn;have hp:=@Za4 (n%m);have hmp:=Zx9 h0;have x1:(!(false == false))=false:=rfl;have x2:(!(true == false))=true:=rfl;cases s
 ·have e1:zI false n/m=zI false (n/m):=by simp [zI]
  have e2:zI false n%m=zI false (n%m):=by simp [zI]
  rw [e1,e2];refine pI func152 rfl ntmps152 results152 call152 ?_;(focus (refine wkad (w_1 x1) (w_3 cd (zOf' false (n/m) zo) (zOf' false (n%m) zo)) w_t ?_;(repeat' first|exact w_t|apply w_l);all_goals intros));simp (disch:=omega) only [go_sem]
 ·by_cases hz:n%m=0
  ·have hdm:=Zx8 n m;rw [hz,Zxa] at hdm
   have e1:zI true n/m=zI true (n/m):=by
    simp only [zI,Zw1];have:(n:Int)=(m:Int)*((n/m:Nat):Int):=by rw [←Int.natCast_mul,hdm]
    rw [this,←Int.mul_neg,ZAj _ zo]
   have e2:zI true n%m=zI false 0:=by
    simp only [zI,Zw1,Zwm,Zwt];have:(n:Int)=(m:Int)*((n/m:Nat):Int):=by rw [←Int.natCast_mul,hdm]
    rw [this,←Int.mul_neg,Int.mul_emod_right];rfl
   have l0':(toL 0).length=0:=by rw [Zaq];rfl
   rw [hz] at cd;rw [e1,e2];refine pI func152 rfl ntmps152 results152 call152 ?_;(focus (refine wkad (w_2 l0' x2) (w_3 cd (zOf' true (n/m) zo) (zOf' false 0 zo)) w_t ?_;(repeat' first|exact w_t|apply w_l);all_goals intros));simp (disch:=omega) only [go_sem]
  ·have hrp:0 < (toL (n%m)).length:=hp.2 zo;have hml:=Zxb n hmp;have hdm:=Zx8 n m;have hnn:(n:Int)=(m:Int)*((n/m:Nat):Int)+((n%m:Nat):Int):=by rw [←Int.natCast_mul,←Int.natCast_add,hdm]
   have ee:zI true n=(m:Int)*(-(((n/m+1:Nat):Nat):Int))+((m - n%m:Nat):Int):=by
    simp only [zI,Zw1];have h5:((m - n%m:Nat):Int)=(m:Int) - ((n%m:Nat):Int):=zo
    have h6:(m:Int)*(-(((n/m+1:Nat):Nat):Int))=-((m:Int)*((n/m:Nat):Int)) - m:=by
     rw [Int.natCast_add,Int.mul_neg,Int.mul_add];generalize (m:Int)*((n/m:Nat):Int)=z;simp only [Int.natCast_one,Int.mul_one];omega
    rw [h5,h6];generalize (m:Int)*((n/m:Nat):Int)=z at hnn ⊢;omega
   have hlt:((m - n%m:Nat):Int) < (m:Int):=zo
   have e1:zI true n/m=zI true (n/m+1):=by
    rw [ee,Int.mul_add_ediv_left _ _ zo,Int.ediv_eq_zero_of_lt (Zyw _) hlt,Int.add_zero];rfl
   have e2:zI true n%m=zI false (m - n%m):=by
    rw [ee,Int.mul_add_emod_self_left,Int.emod_eq_of_lt (Zyw _) hlt];rfl
   have lq:=Zla (n/m) 1;rw [Zhz] at lq;have lr:(toL (m - n%m)).length≤1000000000000:=Zwj (Zco (Nat.sub_le _ _)) zo;have ca:=rAdd (n/m) 1 zo (by rw [Zhz];omega);have cs:=rSub m (n%m) zo zo;rw [Zv5 zo,Zv5 zo] at cs;rw [e1,e2];refine pI func152 rfl ntmps152 results152 call152 ?_;(focus (refine wkad (w_1 x2) (w_6 cd (Zi4 1 zo) ca cs (zOf' true (n/m+1) zo) (zOf' false (m - n%m) zo)) w_t ?_;(repeat' first|exact w_t|apply w_l);all_goals intros));simp (disch:=omega) only [go_sem]
theorem gcd_le_l (n m:Nat) (h:m≠0):Nat.gcd n m≠0:=Nat.ne_of_gt (ZA1 _ (Zx9 h))
theorem intZ_div (s:Bool) (n g:Nat) (hg:g ∣ n) (h0:g≠0):intZ (zI s (n/g))=.agg [.v (.bool (decide (zI s n < 0))),lim (toL (n/g))]:=by
 rw [Zd1,zI_lt]
 have:(0 < n/g)↔(0 < n):=by
  obtain⟨k,rfl⟩:=hg;rw [Nat.mul_div_cancel_left _ (Zx9 h0)];constructor
  ·intro h;exact Nat.mul_pos (Zx9 h0) h
  ·intro h;exact Zx9 λe=>by rw [e] at h;simp at h
 simp only [this]
theorem Zo4 (s:Bool) (n m:Nat) (hn:(toL n).length≤100000000000) (hm:(toL m).length≤100000000000) (h0:m≠0):Pure prog 98 [intA s n,lim (toL m)] (ratQ (mkRat (zI s n) m)):=by
 rw [Zo1 _ _ h0,Zds];have g0:=gcd_le_l n m h0;have hgd:=Nat.gcd_dvd_left n m;have hmp:=Za4.2 (Zx9 h0);have hg:(toL (Nat.gcd n m)).length≤100000000000:=Zwj (Zco (Nat.le_of_dvd zo (Nat.gcd_dvd_right _ _))) hm;have hq:(toL (n/Nat.gcd n m)).length≤100000000000:=Zwj (Zco (Zz2 _ _)) hn;have cg:=rGcd n m zo zo;have c1:=Zl1 n (Nat.gcd n m) zo zo g0;have c2:=Zl1 m (Nat.gcd n m) zo zo g0;have cn:=zNorm s (n/Nat.gcd n m) zo;rw [intZ_div s n _ hgd g0] at cn;refine pI func98 rfl ntmps98 results98 call98 ?_
 (refine wkvp w_t (w_5 (Zt7 m zo) cg c1 c2 cn) (w_s ?_);intros)
 simp (disch:=omega) only [go_sem]
theorem Zjy (q:Rat) {k:Nat} (h:Sz q k) (hk:k≤100000000000):Pure prog 97 [ratQ q] (ratQ q):=by
 have c:=Zo4 (decide (q.num < 0)) q.num.natAbs q.den (Zwj h.1 hk) (Zwj h.2 hk) q.den_nz;rw [Zbd,Zz3] at c;refine pI func97 rfl ntmps97 results97 call97 ?_
 (refine wkvp w_t (w_1 c) (w_s ?_);intros)
 simp (disch:=omega) only [go_sem]
theorem Zg8 (n:Nat):Pure prog 101 [lim (toL n)] (intA false n):=by
 refine pI func101 rfl ntmps101 results101 call101 ?_
 (refine wkvp w_t w_t (w_s ?_);intros)
 simp (disch:=omega) only [go_sem]
theorem qMake (z w:Int) (hz:(toL z.natAbs).length≤100000000000) (hw:(toL w.natAbs).length≤100000000000) (h0:w≠0):Pure prog 144 [intZ z,intZ w] (.tup [ratQ (Rat.divInt z w),.v (.int .i64 0)]):=by
 have cs:=zSign w zo;have hs:w.sign≠0:=λh=>h0 (Int.sign_eq_zero_iff_zero.1 h);rcases (by omega:w < 0∨0 < w) with h | h
 ·have e:Rat.divInt z w=mkRat (-z) w.natAbs:=by
   have hw1:w=-((w.natAbs:Nat):Int):=zo;rw [show Rat.divInt z w=Rat.divInt z (-((w.natAbs:Nat):Int)) by rw [←hw1],Rat.divInt_neg',ZAl]
  have cn:=zNeg (decide (z < 0)) z.natAbs zo;have c:=Zo4 (decide (-z < 0)) (-z).natAbs w.natAbs (by rw [ZA2];omega) hw zo;rw [Zbd] at c cn;rw [←e] at c;generalize -z=y at *;generalize Rat.divInt z w=q at *;rw [Zgx h] at cs ⊢;refine pI func144 rfl ntmps144 results144 call144 ?_
  (refine wkvp w_t (w_3 cs cn c) (w_s ?_);intros)
  simp (disch:=omega) only [go_sem]
 ·have e:Rat.divInt z w=mkRat z w.natAbs:=by
   have hw1:w=((w.natAbs:Nat):Int):=zo;rw [show Rat.divInt z w=Rat.divInt z ((w.natAbs:Nat):Int) by rw [←hw1],ZAl]
  have c:=Zo4 (decide (z < 0)) z.natAbs w.natAbs hz hw zo;rw [Zbd,←e] at c;generalize Rat.divInt z w=q at *;rw [Zfx (by omega:¬w < 0)] at cs ⊢;refine pI func144 rfl ntmps144 results144 call144 ?_
  (refine wkvp w_t (w_2 cs c) (w_s ?_);intros)
  simp (disch:=omega) only [go_sem]
theorem qMake0 (z w:Int) (hw:w=0):Pure prog 144 [intZ z,intZ w] (.tup [.agg [.v (.bool false),.v (.slice none 0 0),.v (.slice none 0 0)],.v (.int .i64 3)]):=by
 subst hw;have cs:=zSign 0 (by show(toL 0).length≤_;rw [Zaq];simp);have hs:Int.sign 0=0:=rfl;rw [hs] at cs;have cs:Pure prog 189 [.agg [.v (.bool false),lim (toL (Int.natAbs 0))]] (.v (.int .i64 0)):=cs;refine pI func144 rfl ntmps144 results144 call144 ?_
 (refine wkvp w_t (w_1 cs) (w_s ?_);intros)
 simp (disch:=omega) only [go_sem]
theorem qOf (n:Nat) (hn:n < 9223372036854775808):Pure prog 58 [.v (.int .i64 (n:Int))] (ratQ (n:Rat)):=by
 have l4:(toL n).length≤4:=Zad.2 zo;have c:=Zo4 false n 1 zo (by rw [Zhz];omega) zo
 have e:mkRat (zI false n) 1=(n:Rat):=by
  have:=Zz3 (n:Rat);exact this
 rw [e] at c;refine pI func58 rfl ntmps58 results58 call58 ?_
 (refine wkvp w_t (w_3 (zOf n hn) (Zi4 1 zo) c) (w_s ?_);intros)
 simp (disch:=omega) only [go_sem]
theorem qMul (a b:Rat) {j k:Nat} (ha:Sz a j) (hb:Sz b k) (hj:j≤20000000000) (hk:k≤20000000000):Pure prog 59 [ratQ a,ratQ b] (ratQ (a*b)):=by
 obtain⟨a1,a2⟩:=id ha;obtain⟨b1,b2⟩:=id hb;have l1:(toL (a.num*b.num).natAbs).length≤j+k:=by rw [Zyr];exact Zwj (Zfh _ _) zo
 have l2:(toL (a.den*b.den)).length≤j+k:=Zwj (Zfh _ _) zo;have c:=Zo4 (decide (a.num*b.num < 0)) (a.num*b.num).natAbs (a.den*b.den) zo zo (Zz1 a.den_nz b.den_nz);rw [Zbd,←Rat.mul_def'] at c;have cz:=zMul (decide (a.num < 0)) (decide (b.num < 0)) a.num.natAbs b.num.natAbs zo zo;rw [Zbd,Zbd] at cz;have cd:=rMul a.den b.den zo zo;generalize a*b=q at *;generalize a.num*b.num=y at *;refine pI func59 rfl ntmps59 results59 call59 ?_
 (refine wkad w_t (w_3 cz cd c) (w_1 (w_d 1 [(4,intZ y),(9,lim (toL (a.den*b.den))),(10,ratQ q)] [11] [])) (w_s ?_);intros)
 simp (disch:=omega) only [go_sem]
theorem qAdd (a b:Rat) {j k:Nat} (ha:Sz a j) (hb:Sz b k) (hj:j≤20000000000) (hk:k≤20000000000):Pure prog 57 [ratQ a,ratQ b] (ratQ (a+b)):=by
 obtain⟨a1,a2⟩:=id ha;obtain⟨b1,b2⟩:=id hb;have na:=Zjy a ha zo;have nb:=Zjy b hb zo;have cm1:=zMul (decide (a.num < 0)) false a.num.natAbs b.den zo zo;have cm2:=zMul (decide (b.num < 0)) false b.num.natAbs a.den zo zo;rw [Zbd] at cm1 cm2;have cm1:Pure prog 100 [intZ a.num,intA false b.den] (intZ (a.num*b.den)):=cm1;have cm2:Pure prog 100 [intZ b.num,intA false a.den] (intZ (b.num*a.den)):=cm2;have x1:(toL (a.num*b.den).natAbs).length≤j+k:=Zcz a b ha hb;have x2:(toL (b.num*a.den).natAbs).length≤k+j:=Zcz b a hb ha
 have l1:(toL (a.num*b.den+b.num*a.den).natAbs).length≤j+k+1:=by
  have h3:=Zco (Zeg (a.num*b.den) (b.num*a.den));have h4:=Zla (a.num*b.den).natAbs (b.num*a.den).natAbs;omega
 have l2:(toL (a.den*b.den)).length≤j+k:=Zwj (Zfh _ _) zo;have ca:=zAdd (decide (a.num*b.den < 0)) (decide (b.num*a.den < 0)) (a.num*b.den).natAbs (b.num*a.den).natAbs zo zo;rw [Zbd,Zbd] at ca;have c:=Zo4 (decide (a.num*b.den+b.num*a.den < 0)) (a.num*b.den+b.num*a.den).natAbs (a.den*b.den) zo zo (Zz1 a.den_nz b.den_nz);rw [Zbd,←Rat.add_def'] at c;have cw1:=Zg8 b.den;have cw2:=Zg8 a.den;have cd:=rMul a.den b.den zo zo;generalize a+b=q at *;generalize a.num*(b.den:Int)=y1 at *;generalize b.num*(a.den:Int)=y2 at *;refine pI func57 rfl ntmps57 results57 call57 ?_
 (refine wkvp w_t w_t (w_s ?_);intros)
 apply Zal (Za3 [(1,ratQ a),(3,ratQ b)]) [4,5] [] zk zr zk;(focus (simp only [Zwd,Zwi,Nat.reduceAdd];rfl))
 (refine wkax w_t (w_2 na nb) w_t w_t w_t w_t w_t (w_r 0) (w_s ?_);intros)
 apply Zal (Za3 [(4,intA false b.den),(5,intZ y1),(10,intA false a.den),(11,intZ y2),(12,intZ (y1+y2)),(17,lim (toL (a.den*b.den))),(18,ratQ q)]) [19] [] zk zr zk;(focus (simp only [Zwd,Zwi,Nat.reduceAdd];rfl))
 (refine wkax w_t (w_7 cw1 cm1 cw2 cm2 ca cd c) w_t w_t w_t w_t w_t (w_r 0) (w_s ?_);intros)
 simp (disch:=omega) only [go_sem]
theorem qNeg (a:Rat) {j:Nat} (ha:Sz a j) (hj:j≤20000000000):Pure prog 96 [ratQ a] (ratQ (-a)):=by
 obtain⟨a1,a2⟩:=id ha;have cn:=zNeg (decide (a.num < 0)) a.num.natAbs zo;have c:=Zo4 (decide (-a.num < 0)) (-a.num).natAbs a.den (by rw [ZA2];omega) zo a.den_nz;rw [Zbd] at c cn;rw [show mkRat (-a.num) a.den=-a by rw [←Rat.neg_mkRat,Zz3]] at c;generalize -a.num=y at *;generalize -a=q at *;refine pI func96 rfl ntmps96 results96 call96 ?_;(focus (refine wkad w_t (w_2 cn c) (w_1 (w_d 1 [(2,intZ y),(5,ratQ q)] [6] [])) ?_;(repeat' first|exact w_t|apply w_l);all_goals intros));simp (disch:=omega) only [go_sem]
theorem qSub (a b:Rat) {j k:Nat} (ha:Sz a j) (hb:Sz b k) (hj:j≤20000000000) (hk:k≤20000000000):Pure prog 56 [ratQ a,ratQ b] (ratQ (a - b)):=by
 have cn:=qNeg b hb hk;have c:=qAdd a (-b) ha hb.neg hj hk;rw [←Rat.sub_eq_add_neg] at c;generalize -b=y at *;generalize a - b=q at *;refine pI func56 rfl ntmps56 results56 call56 ?_;(focus (refine wkad w_t (w_2 cn c) (w_1 (w_d 1 [(2,ratQ y),(3,ratQ q)] [4] [])) ?_;(repeat' first|exact w_t|apply w_l);all_goals intros));simp (disch:=omega) only [go_sem]
theorem qCmp (a b:Rat) {j k:Nat} (ha:Sz a j) (hb:Sz b k) (hj:j≤20000000000) (hk:k≤20000000000):Pure prog 68 [ratQ a,ratQ b] (.v (.int .i64 (cmpQ a b))):=by
 obtain⟨a1,a2⟩:=id ha;obtain⟨b1,b2⟩:=id hb;have na:=Zjy a ha zo;have nb:=Zjy b hb zo;have cm1:=zMul (decide (a.num < 0)) false a.num.natAbs b.den zo zo;have cm2:=zMul (decide (b.num < 0)) false b.num.natAbs a.den zo zo;rw [Zbd] at cm1 cm2;have cm1:Pure prog 100 [intZ a.num,intA false b.den] (intZ (a.num*b.den)):=cm1;have cm2:Pure prog 100 [intZ b.num,intA false a.den] (intZ (b.num*a.den)):=cm2;have x1:(toL (a.num*b.den).natAbs).length≤j+k:=Zcz a b ha hb;have x2:(toL (b.num*a.den).natAbs).length≤k+j:=Zcz b a hb ha;have cc:=zCmp (a.num*b.den) (b.num*a.den) zo zo;rw [cmpQ_z]
 have cw1:=Zg8 b.den;have cw2:=Zg8 a.den;generalize a.num*(b.den:Int)=y1 at *;generalize b.num*(a.den:Int)=y2 at *;refine pI func68 rfl ntmps68 results68 call68 ?_
 (refine wkvp w_t w_t (w_s ?_);intros)
 apply Zal (Za3 [(1,ratQ a),(3,ratQ b)]) [4,5] [] zk zr zk;(focus (simp only [Zwd,Zwi,Nat.reduceAdd];rfl))
 (refine wkax w_t (w_2 na nb) w_t w_t w_t w_t w_t (w_r 0) (w_s ?_);intros)
 apply Zal (Za3 [(4,intA false b.den),(5,intZ y1),(10,intA false a.den),(11,intZ y2),(12,.v (.int .i64 (cmpZ y1 y2)))]) [] [] zk zr zk;(focus (simp only [Zwd,Zwi,Nat.reduceAdd];rfl))
 (refine wkax w_t (w_5 cw1 cm1 cw2 cm2 cc) w_t w_t w_t w_t w_t (w_r 0) (w_s ?_);intros)
 simp (disch:=omega) only [go_sem]
theorem qDiv (a b:Rat) {j k:Nat} (ha:Sz a j) (hb:Sz b k) (hj:j≤20000000000) (hk:k≤20000000000) (h0:b≠0):Pure prog 145 [ratQ a,ratQ b] (.tup [ratQ (a/b),.v (.int .i64 0)]):=by
 obtain⟨a1,a2⟩:=id ha;obtain⟨b1,b2⟩:=id hb;have na:=Zjy a ha zo;have nb:=Zjy b hb zo;have cm1:=zMul (decide (a.num < 0)) false a.num.natAbs b.den zo zo;have cm2:=zMul (decide (b.num < 0)) false b.num.natAbs a.den zo zo;rw [Zbd] at cm1 cm2;have cm1:Pure prog 100 [intZ a.num,intA false b.den] (intZ (a.num*b.den)):=cm1;have cm2:Pure prog 100 [intZ b.num,intA false a.den] (intZ (b.num*a.den)):=cm2;have x1:(toL (a.num*b.den).natAbs).length≤j+k:=Zcz a b ha hb;have x2:(toL (b.num*a.den).natAbs).length≤k+j:=Zcz b a hb ha;have hb0:b.num≠0:=λe=>h0 (Rat.num_eq_zero.1 e);have hd0:(a.den:Int)≠0:=by have:=a.den_nz;omega
 have hw0:b.num*(a.den:Int)≠0:=Int.mul_ne_zero hb0 hd0;have cM:=qMake (a.num*b.den) (b.num*a.den) zo zo hw0
 have e:Rat.divInt (a.num*b.den) (b.num*a.den)=a/b:=by
  rw [Rat.div_def,Rat.inv_def];have h1:a=Rat.divInt a.num a.den:=(Rat.num_divInt_den a).symm;rw [show a*Rat.divInt (b.den:Int) b.num=Rat.divInt a.num a.den*Rat.divInt (b.den:Int) b.num by rw [←h1],Rat.divInt_mul_divInt,Int.mul_comm b.num]
 rw [e] at cM;have cw1:=Zg8 b.den;have cw2:=Zg8 a.den;generalize a/b=q at *;generalize a.num*(b.den:Int)=y1 at *;generalize b.num*(a.den:Int)=y2 at *;refine pI func145 rfl ntmps145 results145 call145 ?_;(focus (refine wkvp w_t w_t ?_;(repeat' first|exact w_t|apply w_l);all_goals intros));apply Zal (Za3 [(1,ratQ a),(3,ratQ b)]) [4,5] [] zk zr zk;(focus (simp only [Zwd,Zwi,Nat.reduceAdd];rfl));(focus (refine wkax w_t (w_2 na nb) w_t w_t w_t w_t w_t (w_r 0) ?_;(repeat' first|exact w_t|apply w_l);all_goals intros));apply Zal (Za3 [(4,intA false b.den),(5,intZ y1),(10,intA false a.den),(11,intZ y2),(12,.tup [ratQ q,.v (.int .i64 0)])]) [15] [] zk zr zk;(focus (simp only [Zwd,Zwi,Nat.reduceAdd];rfl))
 (focus (refine wkax w_t (w_5 cw1 cm1 cw2 cm2 cM) w_t w_t w_t w_t w_t (w_r 0) ?_;(repeat' first|exact w_t|apply w_l);all_goals intros));simp (disch:=omega) only [go_sem]
theorem qDiv0 (a b:Rat) {j k:Nat} (ha:Sz a j) (hb:Sz b k) (hj:j≤20000000000) (hk:k≤20000000000) (h0:b=0):Pure prog 145 [ratQ a,ratQ b] (.tup [.agg [.v (.bool false),.v (.slice none 0 0),.v (.slice none 0 0)],.v (.int .i64 3)]):=by
 obtain⟨a1,a2⟩:=id ha;obtain⟨b1,b2⟩:=id hb;have na:=Zjy a ha zo;have nb:=Zjy b hb zo;have cm1:=zMul (decide (a.num < 0)) false a.num.natAbs b.den zo zo;have cm2:=zMul (decide (b.num < 0)) false b.num.natAbs a.den zo zo;rw [Zbd] at cm1 cm2;have cm1:Pure prog 100 [intZ a.num,intA false b.den] (intZ (a.num*b.den)):=cm1;have cm2:Pure prog 100 [intZ b.num,intA false a.den] (intZ (b.num*a.den)):=cm2;have e0:b.num*(a.den:Int)=0:=by rw [h0,Rat.zero_num,Int.zero_mul]
 have cM:=qMake0 (a.num*b.den) (b.num*a.den) e0;have cw1:=Zg8 b.den;have cw2:=Zg8 a.den;clear h0 e0;generalize a.num*(b.den:Int)=y1 at *;generalize b.num*(a.den:Int)=y2 at *;refine pI func145 rfl ntmps145 results145 call145 ?_;(focus (refine wkvp w_t w_t ?_;(repeat' first|exact w_t|apply w_l);all_goals intros));apply Zal (Za3 [(1,ratQ a),(3,ratQ b)]) [4,5] [] zk zr zk;(focus (simp only [Zwd,Zwi,Nat.reduceAdd];rfl));(focus (refine wkax w_t (w_2 na nb) w_t w_t w_t w_t w_t (w_r 0) ?_;(repeat' first|exact w_t|apply w_l);all_goals intros));apply Zal (Za3 [(4,intA false b.den),(5,intZ y1),(10,intA false a.den),(11,intZ y2),(12,.tup [.agg [.v (.bool false),.v (.slice none 0 0),.v (.slice none 0 0)],.v (.int .i64 3)])]) [15] [] zk zr zk;(focus (simp only [Zwd,Zwi,Nat.reduceAdd];rfl))
 (focus (refine wkax w_t (w_5 cw1 cm1 cw2 cm2 cM) w_t w_t w_t w_t w_t (w_r 0) ?_;(repeat' first|exact w_t|apply w_l);all_goals intros));simp (disch:=omega) only [go_sem]
theorem qFloor (q:Rat) {k:Nat} (h:Sz q k) (hk:k≤100000000000):Pure prog 104 [ratQ q] (intZ q.floor):=by
 have h1:=h.1;have h2:=h.2;have cd:=zDivMod (decide (q.num < 0)) q.num.natAbs q.den zo zo q.den_nz;rw [Zbd] at cd;rw [Rat.floor_def];generalize q.num/(q.den:Int)=fz at *;generalize q.num%(q.den:Int)=fr at *;refine pI func104 rfl ntmps104 results104 call104 ?_
 (repeat' (first|(with_reducible first|refine stp ?_|apply gx1|apply gx2|apply gx3|apply gx4|apply gx5|apply gx6|apply gx7|apply gy8|apply gz2|apply gz3|refine gw0 (Zjy q h hk) ?_ ?_|refine gw3 (Zjy q h hk) ?_ ?_ ?_|refine gw0 (Zg8 q.den) ?_ ?_|refine gw3 (Zg8 q.den) ?_ ?_ ?_|refine gw0 (cd) ?_ ?_|refine gw3 (cd) ?_ ?_ ?_)|(with_reducible refine Zbt ?_;intro _)|((with_reducible refine gE ?_);(try simp (disch:=omega) only [go_sem])<;>first|rfl|omega)|with_reducible refine Zae zd ?_|((with_reducible apply gy1);iterate 3 focus rfl)|((with_reducible apply gy2);iterate 3 focus rfl)|((with_reducible apply gy3);iterate 2 focus rfl)|((with_reducible apply gy4);iterate 1 focus rfl)|((with_reducible apply gy5);iterate 4 focus rfl)|((with_reducible apply gy5c);iterate 4 focus rfl)|((with_reducible apply gy6);iterate 4 focus rfl)|((with_reducible apply Zdq);iterate 3 focus rfl)|((with_reducible apply Zdn);iterate 1 focus rfl)|((with_reducible apply gy7);iterate 1 focus rfl)|((with_reducible apply gy9);(focus ((with_reducible refine gE ?_);(try simp (disch:=omega) only [go_sem])<;>rfl)))|((with_reducible apply gz1);(focus first|rfl|(simp (disch:=omega) only [go_sem];done)))|((with_reducible apply Zal (Za3 [(4,intA false q.den),(5,.tup [intZ fz,intZ fr,.v (.int .i64 0)])]) [] [3,4]);(focus kernel_rfl);(focus rfl);(focus kernel_rfl);(focus (simp only [Zwd,Zwi,Nat.reduceAdd];rfl)))))
 simp (disch:=omega) only [go_sem]
theorem qFrac (n m:Nat) (hn:n < 9223372036854775808) (hm:m < 9223372036854775808) (h0:m≠0):Pure prog 94 [.v (.int .i64 (n:Int)),.v (.int .i64 (m:Int))] (ratQ (mkRat n m)):=by
 have l4:(toL n).length≤4:=Zad.2 zo;have m4:(toL m).length≤4:=Zad.2 zo;have c:=qMake (n:Int) (m:Int) (by rw [Zyf];omega) (by rw [Zyf];omega) zo;rw [ZAl] at c
 have e1:intZ (n:Int)=intA false n:=by
  have:=Zd1 false n
  rwa [Zwx] at this
 have e2:intZ (m:Int)=intA false m:=by
  have:=Zd1 false m
  rwa [Zwx] at this
 rw [e1,e2] at c;generalize mkRat (n:Int) m=q at *;refine pI func94 rfl ntmps94 results94 call94 ?_
 (refine wkvp w_t (w_3 (zOf n hn) (zOf m hm) c) (w_s ?_);intros)
 simp (disch:=omega) only [go_sem]
theorem Zt0 (n m:Nat) (hn:n < 9223372036854775808) (hm:m < 9223372036854775808) (h0:m≠0):Pure prog 38 [.v (.int .i64 (n:Int)),.v (.int .i64 (m:Int))] (ratQ (mkRat n m)):=by
 have l4:(toL n).length≤4:=Zad.2 zo;have m4:(toL m).length≤4:=Zad.2 zo;have c:=Ztz (n:Int) (m:Int) (by rw [Zyf];omega) (by rw [Zyf];omega) zo;rw [ZAl] at c
 have e1:intZ (n:Int)=intA false n:=by
  have:=Zd1 false n
  rwa [Zwx] at this
 have e2:intZ (m:Int)=intA false m:=by
  have:=Zd1 false m
  rwa [Zwx] at this
 rw [e1,e2] at c;generalize mkRat (n:Int) m=q at *;refine pI func38 rfl ntmps38 results38 call38 ?_
 (refine wkvp w_t (w_3 (intOf n hn) (intOf m hm) c) (w_s ?_);intros)
 simp (disch:=omega) only [go_sem]
theorem szIv:szOf prog 47=some 6:=by kernel_rfl
theorem zIv:Za6 prog 47=some (.agg #[.bool false,.slice none 0 0,.slice none 0 0,.bool false,.slice none 0 0,.slice none 0 0]):=by kernel_rfl
theorem Zrq:szOf prog 49=some 12:=by kernel_rfl
theorem zBox:Za6 prog 49=some (.agg #[.bool false,.slice none 0 0,.slice none 0 0,.bool false,.slice none 0 0,.slice none 0 0,.bool false,.slice none 0 0,.slice none 0 0,.bool false,.slice none 0 0,.slice none 0 0]):=by kernel_rfl
attribute [go_sem] underlying47
structure RQ where
 s:Bool
 l:List Nat
 d:List Nat
def RQ.lm (r:RQ) (k:Nat):Prop:=Lm r.l∧Lm r.d∧r.l.length≤k∧r.d.length≤k
abbrev RQ.av (r:RQ):AV:=.agg [.v (.bool r.s),lim r.l,lim r.d]
def RQ.zok (s:Bool) (l:List Nat):Bool:=valL l && !(s && decide (l.length=0))
def RQ.ok (r:RQ):Bool:=RQ.zok r.s r.l && valL r.d && (Nat.gcd (nv r.l) (nv r.d) == 1) && decide (0 < r.d.length)
def RQ.q (r:RQ):Rat:=mkRat (zI r.s (nv r.l)) (nv r.d)
theorem RQ.ok_av {r:RQ} {k:Nat} (hl:r.lm k) (h:r.ok=true):r.av=ratQ r.q∧Sz r.q k:=by
 obtain⟨s,l,d⟩:=r;obtain⟨h1,h2,h3,h4⟩:=hl;simp only [RQ.ok,RQ.zok,Zwv,Zw4,Zyd,Zx3] at h;obtain⟨⟨⟨⟨v1,v2⟩,v3⟩,v4⟩,v5⟩:=h;have e1:=(Zln h1).1 v1;have e2:=(Zln h2).1 v3;simp only [RQ.av,RQ.q] at *;generalize nv l=n at *;generalize nv d=m at *;subst e1;subst e2;have hm:m≠0:=by have:=Za4.1 v5;omega
 have hs:decide (zI s n < 0)=s:=by
  rw [zI_lt];cases s
  ·rfl
  ·have:(toL n).length≠0:=by simpa using v2
   rw [Zv8 (Za4.1 zo)];rfl
 refine⟨?_,Sz.mk (by rw [Zds];exact h3) h4 zo⟩;rw [Zo1 _ _ hm,Zds,v4,Zzx,Zzx,hs]
theorem Zon {a b:Nat}:toL a=toL b↔a=b:=⟨λh=>by rw [←Zam a,h,Zam],λh=>by rw [h]⟩
theorem zRight (s:Bool) (l:List Nat) (hs:l.length≤1000000000000) (hl:Lm l):Pure prog 63 [.agg [.v (.bool s),lim l]] (.v (.bool (RQ.zok s l))):=by
 have cv:=Zqg l zo hl;unfold RQ.zok;generalize valL l=v at *;cases v
 ·refine pI func63 rfl ntmps63 results63 call63 ?_
  (refine wkvp (w_1 @Zwx) (w_1 cv) (w_s ?_);intros)
  simp (disch:=omega) only [go_sem,Zwx]
 ·cases s
  ·refine pI func63 rfl ntmps63 results63 call63 ?_
   (refine wkvp (w_1 @Zwx) (w_1 cv) (w_s ?_);intros)
   simp (disch:=omega) only [go_sem,Zwx]
  ·by_cases h0:l.length=0
   ·refine pI func63 rfl ntmps63 results63 call63 ?_
    (refine wkvp (w_2 h0 @Zx5) (w_1 cv) (w_s ?_);intros)
    simp (disch:=omega) only [go_sem,h0]
   ·refine pI func63 rfl ntmps63 results63 call63 ?_
    (refine wkvp w_t (w_1 cv) (w_s ?_);intros)
    simp (disch:=omega) only [go_sem,h0,Zv7 h0]
theorem Znd (s:Bool) (l d:List Nat) (h1:Lm l) (h2:Lm d) (h3:l.length≤1000000000000) (h4:d.length≤1000000000000):Pure prog 27 [.agg [.v (.bool s),lim l,lim d]] (.v (.bool (RQ.ok ⟨s,l,d⟩))):=by
 have cz:=zRight s l h3 h1;have cv:=Zqg d zo h2;have cg:=refGcd l d zo zo h1 h2
 have hgl:(toL (Nat.gcd (nv l) (nv d))).length≤1000000000000:=by
  have l1:=Zap h1;have l2:=Zap h2;by_cases hd:nv d=0
  ·rw [hd,Nat.gcd_zero_right];omega
  ·exact Zwj (Zco (Nat.gcd_le_right _ zo)) zo
 have cs:=Zqh (toL (Nat.gcd (nv l) (nv d))) (toL 1) zo (by rw [Zhz];omega) (Zan _) (Zan _);rw [show decide (toL (Nat.gcd (nv l) (nv d))=toL 1)=(Nat.gcd (nv l) (nv d) == 1) from by rw [Zxc,Zw4,Zx3];exact Zon] at cs;unfold RQ.ok;generalize RQ.zok s l=v at *;simp only;generalize Nat.gcd (nv l) (nv d)=g at *;cases v
 ·refine pI func27 rfl ntmps27 results27 call27 ?_
  (refine wkvp (w_1 @Zwx) (w_1 cz) (w_s ?_);intros)
  simp (disch:=omega) only [go_sem,Zwx]
 ·generalize valL d=v at *;cases v
  ·refine pI func27 rfl ntmps27 results27 call27 ?_
   (refine wkvp (w_1 @Zwx) (w_2 cz cv) (w_s ?_);intros)
   simp (disch:=omega) only [go_sem,Zwx]
  ·by_cases hg:g=1
   ·have hgb:(g == 1)=true:=by rw [Zx3];exact hg
    rw [hgb] at cs ⊢;by_cases hd:0 < d.length
    ·rw [Zv8 hd];refine pI func27 rfl ntmps27 results27 call27 ?_
     (refine wkvp w_t (w_5 cz cv cg (Zi4 1 zo) cs) (w_s ?_);intros)
     simp (disch:=omega) only [go_sem]
    ·rw [Zv7 hd];refine pI func27 rfl ntmps27 results27 call27 ?_
     (refine wkvp w_t (w_5 cz cv cg (Zi4 1 zo) cs) (w_s ?_);intros)
     simp (disch:=omega) only [go_sem,Zy9]
   ·have hgb:(g == 1)=false:=by rw [beq_eq_false_iff_ne];exact hg
    rw [hgb] at cs ⊢;refine pI func27 rfl ntmps27 results27 call27 ?_
    (refine wkvp (w_2 @Zy9 @Zwx) (w_5 cz cv cg (Zi4 1 zo) cs) (w_s ?_);intros)
    simp (disch:=omega) only [go_sem,Zy9,Zwx]
section
variable {N n:Nat} {cs:List AV}
theorem agN16:Zgm prog 133=false:=by kernel_rfl
theorem cs16:prog.cellsOf 133=1:=by kernel_rfl
theorem shNat (h:Zb7 prog N n 37 cs):∃l:List Nat,cs=[lim l]∧Lm l∧l.length≤N:=by
 obtain⟨bs,rfl,hl,hq⟩:=Zc8 (g:=λk:Nat=>[AV.v (.int .u16 (k:Int))]) (Q:=λk=>k < 65536) underlying37 h λm x hx=>by
  obtain⟨i,rfl,hw⟩:=Zfe underlying133 hx;have:=wf_u16 hw;exact⟨i.toNat,by rw [ZAt this.1],zo⟩
 refine⟨bs,?_,hq,hl⟩;rw [cs16];have:(bs.map λb:Nat=>Zdh prog 133 [AV.v (.int .u16 (b:Int))])=u16s bs:=Zzn λb _=>Zmv agN16 _;rw [this]
theorem shInt (h:Zb7 prog N n 39 cs):∃(s:Bool) (l:List Nat),cs=[.v (.bool s),lim l]∧Lm l∧l.length≤N:=by
 obtain⟨m,rfl,hs⟩:=Zb3 underlying39 zk h;obtain⟨x,y,rfl,h1,hs⟩:=hs.inv;obtain⟨z,y,rfl,h2,hs⟩:=hs.inv;obtain rfl:=hs.inv0;obtain⟨s,rfl⟩:=Zrv underlying4 h1;obtain⟨l,rfl,h3,h4⟩:=shNat h2;exact⟨s,l,rfl,h3,h4⟩
theorem shRat (h:Zb7 prog N n 41 cs):∃r:RQ,cs=[.v (.bool r.s),lim r.l,lim r.d]∧r.lm N:=by
 obtain⟨m,rfl,hs⟩:=Zb3 underlying41 zk h;obtain⟨x,y,rfl,h1,hs⟩:=hs.inv;obtain⟨z,y,rfl,h2,hs⟩:=hs.inv;obtain rfl:=hs.inv0;obtain⟨s,l,rfl,h3,h4⟩:=shInt h1;obtain⟨d,rfl,h5,h6⟩:=shNat h2;exact⟨⟨s,l,d⟩,rfl,h3,h5,h4,h6⟩
theorem Zkw (h:Zb7 prog N n 47 cs):∃r q:RQ,cs=[.v (.bool r.s),lim r.l,lim r.d,.v (.bool q.s),lim q.l,lim q.d]∧r.lm N∧q.lm N:=by
 obtain⟨m,rfl,hs⟩:=Zb3 underlying47 zk h;obtain⟨x,y,rfl,h1,hs⟩:=hs.inv;obtain⟨z,y,rfl,h2,hs⟩:=hs.inv;obtain rfl:=hs.inv0;obtain⟨r,rfl,h3⟩:=shRat h1;obtain⟨q,rfl,h4⟩:=shRat h2;exact⟨r,q,rfl,h3,h4⟩
structure RP where
 x:RQ
 y:RQ
abbrev RP.av (p:RP):AV:=.agg [.v (.bool p.x.s),lim p.x.l,lim p.x.d,.v (.bool p.y.s),lim p.y.l,lim p.y.d]
def RP.lm (p:RP) (k:Nat):Prop:=p.x.lm k∧p.y.lm k
end
attribute [go_sem] underlying2 underlying59 szU8 byU8 zU8 zStr
attribute [local go_sem] Zdl
def decB:Nat→Nat→ByteArray→ByteArray
 | 0,_,s=>s
 | f+1,n,s=>if n=0 then s else decB f (n/10) (Zf2 [((48+n%10:Nat):Int)]++s)
def decS (n:Nat):ByteArray:=if n=0 then Zf2 [48] else decB n n ByteArray.empty
theorem Zoe:∀(f g n:Nat) (s:ByteArray),n≤f→n≤g→decB f n s=decB g n s
 | 0,0,_,_,_,_=>rfl
 | 0,g+1,n,s,h,_=>by
   have:n=0:=zo;subst this;rfl
 | f+1,0,n,s,_,h=>by
   have:n=0:=zo;subst this;rfl
 | f+1,g+1,n,s,h1,h2=>by
   unfold decB;by_cases h:n=0
   ·rw [Zv6 h,Zv6 h]
   ·rw [Zv5 h,Zv5 h];exact Zoe f g _ _ zo zo
theorem Zod {n:Nat} {s:ByteArray} (h:n≠0):decB n n s=decB (n/10) (n/10) (Zf2 [((48+n%10:Nat):Int)]++s):=by
 obtain⟨m,rfl⟩:∃m,n=m+1:=⟨n - 1,zo⟩;rw [decB,Zv5 h];exact Zoe _ _ _ _ zo zo
theorem Zei (l:List Int):(Zf2 l).size=l.length:=by
 have key:∀(l:List Int) (s:ByteArray),(l.foldl (λr n=>r.push (UInt8.ofNat n.toNat)) s).size=s.size+l.length:=by
  intro l
  induction l with
  | nil=>intro s;rfl
  | cons a l ih=>intro s;rw [ZAx,ih,ByteArray.size_push,Zwd];omega
 unfold Zf2;rw [key];show 0+l.length=l.length;omega
theorem pow10_lt {s k n:Nat} (h:10 ^ s*k≤n) (hk:k≠0):s < 5*(toL n).length+1:=by
 have h1:=Zad.1 (Zwa ((toL n).length));have h2:10 ^ s≤n:=Zwj (Zzp _ zo) h
 have h3:65536 ^ (toL n).length≤10 ^ (5*(toL n).length):=by
  rw [Nat.pow_mul];exact Nat.pow_le_pow_left zd _
 have h4:10 ^ s < 10 ^ (5*(toL n).length):=zo;have:=(Nat.pow_lt_pow_iff_right (by decide:1 < 10)).1 h4;omega
theorem Ztq (n:Nat) (hn:(toL n).length≤10000000):Pure prog 106 [lim (toL n)] (.v (.string (decS n))):=by
 have cn:=Zt7 n zo;have c10:=Zi4 10 zo;by_cases h0:n=0
 ·subst h0;have l0:(toL 0).length=0:=by rw [Zaq];rfl
  refine pI func106 rfl ntmps106 results106 call106 ?_;(focus (refine wkvp (w_2 l0 @Zx5) (w_1 cn) ?_;(repeat' first|exact w_t|apply w_l);all_goals intros));simp (disch:=omega) only [go_sem];rfl
 ·have hp:=Za4.2 (Zx9 h0);have hd:decS n=decB n n ByteArray.empty:=Zv5 h0;rw [hd];refine pI func106 rfl ntmps106 results106 call106 ?_;(focus (refine wkvp w_t (w_1 cn) ?_;(repeat' first|exact w_t|apply w_l);all_goals intros));refine Zai (ι:=Nat × ByteArray) (λx e m=>e 0=lim (toL x.1)∧e 3=.v (.string x.2)∧x.1≤n∧decB x.1 x.1 x.2=decB n n ByteArray.empty∧(x.1≠0→10 ^ x.2.size*x.1≤n)) (λx=>x.1) (n,ByteArray.empty) zr ?_ ?_
  ·rintro ⟨k,s⟩ e m ⟨e0,e3,hk,hs,hsz⟩
   simp only at e0 e3 hk hs hsz ⊢;by_cases hk0:k=0
   ·subst hk0;have l0:(toL 0).length=0:=by rw [Zaq];rfl
    rw [decB] at hs;(focus (refine wkvp (w_4 e0 e3 l0 @Zx5) w_t ?_;(repeat' first|exact w_t|apply w_l);all_goals intros));simp (disch:=omega) only [go_sem,hs]
   ·have hkp:=Za4.2 (Zx9 hk0);have hlk:(toL k).length≤(toL n).length:=Zco hk;have l10:(toL 10).length≤1:=Zad.2 zd;have cd:=Zl1 k 10 zo zo zo;have lr:(toL (k%10)).length≤1:=Zad.2 zo;have cs:=Zly (toL (k%10)) zo (Zan _);rw [Zam] at cs;have h5:=hsz hk0;have h6:=pow10_lt h5 hk0
    have w1:IntKind.u64.wrap (48+((k%10:Nat):Int))=((48+k%10:Nat):Int):=by
     rw [Ze1 zo zo];omega
    have w2:IntKind.u8.wrap ((48+k%10:Nat):Int)=((48+k%10:Nat):Int):=by
     show(((48+k%10:Nat):Int))%256=_;omega
    have sz1:(Zf2 [((48+k%10:Nat):Int)]).size=1:=Zei _;generalize hx:Zf2 [((48+k%10:Nat):Int)]=x at *;(focus (refine wkvp (w_6 e0 e3 w1 w2 sz1 hx) (w_3 cd c10 cs) ?_;(repeat' first|exact w_t|apply w_l);all_goals intros));refine⟨(k/10,x++s),⟨gC,gC,?_,?_,?_⟩,?_⟩
    ·show k/10≤n;omega
    ·show decB (k/10) (k/10) (x++s)=_;rw [←hs,Zod hk0,hx]
    ·intro _;show 10 ^ (x++s).size*(k/10)≤n;rw [Zw8,sz1,Zyu,Zxs,Zxf];exact Zwj (Zy8 _ zo) h5
    ·show k/10 < k;omega
  ·refine⟨gC,gC,Zwa _,rfl,λ_=>?_⟩;show 10 ^ 0*n≤n;omega
def decZ (z:Int):ByteArray:=if z < 0 then Zf2 [45]++decS z.natAbs else decS z.natAbs
def decQ (q:Rat):ByteArray:=if q.den=1 then decZ q.num else decZ q.num++Zf2 [47]++decS q.den
theorem Zvl {k:Nat}:∀(f n:Nat) (s:ByteArray),n < 10 ^ k→(decB f n s).size≤s.size+k:=by
 induction k with
 | zero =>
   intro f n s h;have:n=0:=by simpa using h
   subst this;cases f<;>simp [decB]
 | succ k ih =>
   intro f n s h
   cases f with
   | zero=>simp [decB]
   | succ f =>
     unfold decB;split
     ·omega
     ·have:=ih f (n/10) (Zf2 [((48+n%10:Nat):Int)]++s) (by rw [Zxs] at h;omega);rw [Zw8,Zei] at this;simp only [Zwd,Zwi] at this;omega
theorem Zkg (n:Nat):(decS n).size≤5*(toL n).length+1:=by
 unfold decS;split
 ·rw [Zei];simp
 ·have h1:=Zad.1 (Zwa ((toL n).length))
  have h3:65536 ^ (toL n).length≤10 ^ (5*(toL n).length):=by
   rw [Nat.pow_mul];exact Nat.pow_le_pow_left zd _
  have:=Zvl (k:=5*(toL n).length) n n ByteArray.empty zo;have e:ByteArray.empty.size=0:=rfl;omega
theorem zText (z:Int) (hz:(toL z.natAbs).length≤10000000):Pure prog 105 [intZ z] (.v (.string (decZ z))):=by
 have cn:=Zp0 z zo;have ct:=Ztq z.natAbs hz;have hs:=Zkg z.natAbs;have h45:(Zf2 [45]).size=1:=Zei _;unfold decZ;have e45:Zf2 [45]=⟨#[45]⟩:=rfl;rw [e45] at h45 ⊢;generalize decS z.natAbs=s at *;by_cases h:z < 0
 ·rw [Zv6 h];rw [show intZ z=.agg [.v (.bool true),lim (toL z.natAbs)] from by unfold intZ intA;rw [Zv8 h]] at *;refine pI func105 rfl ntmps105 results105 call105 ?_;(focus (refine wkvp (w_1 h45) (w_2 cn ct) ?_;(repeat' first|exact w_t|apply w_l);all_goals intros));simp (disch:=omega) only [go_sem]
 ·rw [Zv5 h];rw [show intZ z=.agg [.v (.bool false),lim (toL z.natAbs)] from by unfold intZ intA;rw [Zv7 h]] at *;refine pI func105 rfl ntmps105 results105 call105 ?_;(focus (refine wkvp w_t (w_2 cn ct) ?_;(repeat' first|exact w_t|apply w_l);all_goals intros));simp (disch:=omega) only [go_sem]
theorem Zvk (z:Int):(decZ z).size≤5*(toL z.natAbs).length+2:=by
 have:=Zkg z.natAbs;unfold decZ;split
 ·rw [Zw8,Zei];simp only [Zwd,Zwi];omega
 ·omega
theorem qText (q:Rat) {k:Nat} (h:Sz q k) (hk:k≤1000000):Pure prog 62 [ratQ q] (.v (.string (decQ q))):=by
 have cn:=Zjy q h zo;have h1:=h.1;have h2:=h.2;have c1:Pure prog 67 [.v (.int .u64 1)] (lim (toL 1)):=Zi4 1 zo;have cs:=Zqh (toL q.den) (toL 1) zo (by rw [Zhz];omega) (Zan _) (Zan _);have cz:=zText q.num zo;have cd:=Ztq q.den zo;have z1:=Zvk q.num;have z2:=Zkg q.den;have e47:Zf2 [47]=⟨#[47]⟩:=rfl;have h47:(Zf2 [47]).size=1:=Zei _;rw [e47] at h47;unfold decQ;rw [e47];by_cases hd:q.den=1
 ·rw [Zv6 hd];rw [Zv8 (by rw [hd])] at cs;generalize decZ q.num=s at *;refine pI func62 rfl ntmps62 results62 call62 ?_;(focus (refine wkad w_t (w_4 cn c1 cs cz) (w_1 (w_d 2 [(2,lim (toL 1)),(3,.v (.bool true))] [] [])) ?_;(repeat' first|exact w_t|apply w_l);all_goals intros));simp (disch:=omega) only [go_sem]
 ·rw [Zv5 hd];rw [Zv7 (λe=>hd (by have:=Zzh nv e;rwa [Zam,Zam] at this))] at cs;generalize decZ q.num=s at *;generalize decS q.den=t at *;have h3:(s++⟨#[47]⟩:ByteArray).size=s.size+1:=by rw [Zw8,h47]
  refine pI func62 rfl ntmps62 results62 call62 ?_;(focus (refine wkad (w_2 h47 h3) (w_5 cn c1 cs cz cd) (w_2 (w_d 2 [(2,lim (toL 1)),(3,.v (.bool false))] [] []) (w_d 4 [(2,.v (.string s)),(6,.v (.string t))] [] [])) ?_;(repeat' first|exact w_t|apply w_l);all_goals intros));simp (disch:=omega) only [go_sem]
attribute [go_sem] underlying49 underlying98 underlying84 szIv zIv zBox szPt zPt
attribute [local go_sem] Zrq
abbrev Zuh (a b:Rat):AV:=.agg [.v (.bool (decide (a.num < 0))),lim (toL a.num.natAbs),lim (toL a.den),.v (.bool (decide (b.num < 0))),lim (toL b.num.natAbs),lim (toL b.den)]
abbrev boxQ (a b c d:Rat):AV:=.agg [.v (.bool (decide (a.num < 0))),lim (toL a.num.natAbs),lim (toL a.den),.v (.bool (decide (b.num < 0))),lim (toL b.num.natAbs),lim (toL b.den),
 .v (.bool (decide (c.num < 0))),lim (toL c.num.natAbs),lim (toL c.den),.v (.bool (decide (d.num < 0))),lim (toL d.num.natAbs),lim (toL d.den)]
def hlf:Rat:=mkRat 1 2
theorem Zge:Sz hlf 1:=Sz.mk (Zad.2 zd) (Zad.2 zd) (Zwa _)
theorem Zmq {a b:Rat}:cmpQ a b < 0↔a < b:=by
 unfold cmpQ;by_cases h:a < b
 ·simp [h]
 ·rw [Zv5 h];by_cases h2:b < a
  ·simp [h,h2]
  ·simp [h,h2]
theorem Zrc {a b:Rat}:0 < cmpQ a b↔b < a:=by
 unfold cmpQ;by_cases h:a < b
 ·rw [Zv6 h];constructor
  ·intro h2;omega
  ·intro h2;exact absurd (Rat.le_of_lt h) (Rat.not_le.2 h2)
 ·rw [Zv5 h];by_cases h2:b < a
  ·simp [h2]
  ·simp [h2]
theorem Zfg (n:Nat) (h:n < 65536):Sz (n:Rat) 1:=Sz.int (z:=(n:Int)) (by rw [Zyf];exact Zad.2 zo) (Zwa _)
theorem Zvo (a b:Rat) {j k:Nat} (ha:Sz a j) (hb:Sz b k) (hj:j≤100000) (hk:k≤100000):Pure prog 34 [Zuh a b] (ratQ ((a+b)*hlf)):=by
 have ca:=Zql a b ha hb zo zo;have cf:Pure prog 38 [.v (.int .i64 1),.v (.int .i64 2)] (ratQ hlf):=Zt0 1 2 zo zo zo;have cm:=Zty (a+b) hlf (ha.add hb) Zge zo zo;generalize (a+b)*hlf=q at *;generalize a+b=y at *;generalize hlf=hf at *;refine pI func34 rfl ntmps34 results34 call34 ?_;(focus (refine wkad w_t (w_3 ca cf cm) w_t ?_;(repeat' first|exact w_t|apply w_l);all_goals intros));simp (disch:=omega) only [go_sem]
theorem rCenter (a b c d:Rat) {j:Nat} (ha:Sz a j) (hb:Sz b j) (hc:Sz c j) (hd:Sz d j) (hj:j≤100000):Pure prog 52 [boxQ a b c d] (Zuh ((a+b)*hlf) ((c+d)*hlf)):=by
 have cf:Pure prog 94 [.v (.int .i64 1),.v (.int .i64 2)] (ratQ hlf):=qFrac 1 2 zo zo zo;have c1:=qAdd a b ha hb zo zo;have c2:=qAdd c d hc hd zo zo;have m1:=qMul hlf (a+b) Zge (ha.add hb) zo zo;have m2:=qMul hlf (c+d) Zge (hc.add hd) zo zo;rw [Rat.mul_comm hlf] at m1 m2;generalize (a+b)*hlf=q at *;generalize (c+d)*hlf=q2 at *;generalize a+b=y at *;generalize c+d=y2 at *;generalize hlf=hf at *;refine pI func52 rfl ntmps52 results52 call52 ?_;(focus (refine wkad w_t (w_5 cf c1 m1 c2 m2) (w_1 (w_d 2 [(7,ratQ y),(8,ratQ q),(16,ratQ y2),(17,ratQ q2)] [] [2])) ?_;(repeat' first|exact w_t|apply w_l);all_goals intros))
 simp (disch:=omega) only [go_sem]
theorem Zo3 (a b:Rat) {j k:Nat} (ha:Sz a j) (hb:Sz b k) (hj:j≤100000) (hk:k≤100000):Pure prog 53 [ratQ a,ratQ b] (ratQ (if b < a then b else a)):=by
 have cc:=qCmp b a hb ha zo zo;have h:=@Zmq b a;generalize cmpQ b a=s at *;by_cases hlt:b < a
 ·rw [Zv6 hlt];have h2:=h.2 hlt;refine pI func53 rfl ntmps53 results53 call53 ?_;(focus (refine wkad w_t (w_1 cc) w_t ?_;(repeat' first|exact w_t|apply w_l);all_goals intros));simp (disch:=omega) only [go_sem]
 ·rw [Zv5 hlt];have h2:¬s < 0:=λh3=>hlt (h.1 h3);refine pI func53 rfl ntmps53 results53 call53 ?_;(focus (refine wkad w_t (w_1 cc) w_t ?_;(repeat' first|exact w_t|apply w_l);all_goals intros));simp (disch:=omega) only [go_sem]
theorem Zqm (a b:Rat) {j k:Nat} (ha:Sz a j) (hb:Sz b k) (hj:j≤100000) (hk:k≤100000):Pure prog 54 [ratQ a,ratQ b] (ratQ (if a < b then b else a)):=by
 have cc:=qCmp b a hb ha zo zo;have h:=@Zrc b a;generalize cmpQ b a=s at *;by_cases hlt:a < b
 ·rw [Zv6 hlt];have h2:=h.2 hlt;refine pI func54 rfl ntmps54 results54 call54 ?_;(focus (refine wkad w_t (w_1 cc) w_t ?_;(repeat' first|exact w_t|apply w_l);all_goals intros));simp (disch:=omega) only [go_sem]
 ·rw [Zv5 hlt];have h2:¬0 < s:=λh3=>hlt (h.1 h3);refine pI func54 rfl ntmps54 results54 call54 ?_;(focus (refine wkad w_t (w_1 cc) w_t ?_;(repeat' first|exact w_t|apply w_l);all_goals intros));simp (disch:=omega) only [go_sem]
def fac (w h:Nat) (x y:Rat):Rat :=
 if x=0 then (if y=0 then 1 else ((h - 40:Nat):Rat)/y) else if y=0 then ((w - 40:Nat):Rat)/x
 else if ((h - 40:Nat):Rat)/y < ((w - 40:Nat):Rat)/x then ((h - 40:Nat):Rat)/y else ((w - 40:Nat):Rat)/x
theorem rQuot (w:Nat) (x:Rat) (hw:w < 65536) {j:Nat} (hx:Sz x j) (hj:j≤100000) (h0:x≠0):Pure prog 95 [.v (.int .i64 (w:Int)),ratQ x] (.tup [ratQ ((w:Rat)/x),.v (.bool true)]):=by
 have co:=qOf w zo;have cd:=qDiv (w:Rat) x (Zfg w hw) hx zo zo h0;generalize (w:Rat)/x=q at *;generalize (w:Rat)=wq at *;refine pI func95 rfl ntmps95 results95 call95 ?_;(focus (refine wkad w_t (w_2 co cd) (w_1 (w_d 1 [(1,ratQ wq),(3,.tup [ratQ q,.v (.int .i64 0)])] [] [6])) ?_;(repeat' first|exact w_t|apply w_l);all_goals intros));simp (disch:=omega) only [go_sem]
abbrev Zrj:AV:=.agg [.v (.bool false),.v (.slice none 0 0),.v (.slice none 0 0)]
theorem Zt6 (w:Nat) (x:Rat) (hw:w < 65536) {j:Nat} (hx:Sz x j) (hj:j≤100000) (h0:x=0):Pure prog 95 [.v (.int .i64 (w:Int)),ratQ x] (.tup [Zrj,.v (.bool false)]):=by
 have co:=qOf w zo;have cd:=qDiv0 (w:Rat) x (Zfg w hw) hx zo zo h0;clear h0;generalize (w:Rat)=wq at *;refine pI func95 rfl ntmps95 results95 call95 ?_;(focus (refine wkad w_t (w_2 co cd) (w_1 (w_d 1 [(1,ratQ wq),(3,.tup [Zrj,.v (.int .i64 3)])] [] [6])) ?_;(repeat' first|exact w_t|apply w_l);all_goals intros));simp (disch:=omega) only [go_sem]
theorem rFactor (x y:Rat) (w h:Nat) {j:Nat} (hx:Sz x j) (hy:Sz y j) (hj:j≤10000) (hw:w≤4000) (hh:h≤4000) (hw1:100≤w) (hh1:100≤h):Pure prog 55 [ratQ x,ratQ y,.v (.int .i64 (w:Int)),.v (.int .i64 (h:Int))] (ratQ (fac w h x y)):=by
 have ew:(w:Int) - 40=((w - 40:Nat):Int):=zo;have eh:(h:Int) - 40=((h - 40:Nat):Int):=zo;have sw:=(Zfg (w - 40) zo).div hx;have sh:=(Zfg (h - 40) zo).div hy;have c1:Pure prog 58 [.v (.int .i64 1)] (ratQ 1):=qOf 1 zo;unfold fac;by_cases h0:x=0
 ·have qx:=Zt6 (w - 40) x zo hx zo h0;rw [Zv6 h0];by_cases h1:y=0
  ·have qy:=Zt6 (h - 40) y zo hy zo h1;rw [Zv6 h1];clear h0 h1;refine pI func55 rfl ntmps55 results55 call55 ?_;(focus (refine wkad (w_2 ew eh) (w_3 qx qy c1) w_t ?_;(repeat' first|exact w_t|apply w_l);all_goals intros));simp (disch:=omega) only [go_sem]
  ·have qy:=rQuot (h - 40) y zo hy zo h1;rw [Zv5 h1];clear h0 h1;generalize ((h - 40:Nat):Rat)/y=q at *;refine pI func55 rfl ntmps55 results55 call55 ?_;(focus (refine wkad (w_2 ew eh) (w_2 qx qy) w_t ?_;(repeat' first|exact w_t|apply w_l);all_goals intros));simp (disch:=omega) only [go_sem]
 ·have qx:=rQuot (w - 40) x zo hx zo h0;rw [Zv5 h0];by_cases h1:y=0
  ·have qy:=Zt6 (h - 40) y zo hy zo h1;rw [Zv6 h1];clear h0 h1;generalize ((w - 40:Nat):Rat)/x=q at *;refine pI func55 rfl ntmps55 results55 call55 ?_;(focus (refine wkad (w_2 ew eh) (w_2 qx qy) w_t ?_;(repeat' first|exact w_t|apply w_l);all_goals intros));simp (disch:=omega) only [go_sem]
  ·have qy:=rQuot (h - 40) y zo hy zo h1;rw [Zv5 h1];have cl:=Zo3 (((w - 40:Nat):Rat)/x) (((h - 40:Nat):Rat)/y) sw sh zo zo;clear h0 h1;generalize (if ((h - 40:Nat):Rat)/y < ((w - 40:Nat):Rat)/x then ((h - 40:Nat):Rat)/y else ((w - 40:Nat):Rat)/x)=q at *;generalize ((w - 40:Nat):Rat)/x=q1 at *;generalize ((h - 40:Nat):Rat)/y=q2 at *;refine pI func55 rfl ntmps55 results55 call55 ?_;(focus (refine wkad (w_2 ew eh) (w_3 qx qy cl) w_t ?_;(repeat' first|exact w_t|apply w_l);all_goals intros));simp (disch:=omega) only [go_sem]
theorem dFactor (x y:Rat) (w h:Nat) {j:Nat} (hx:Sz x j) (hy:Sz y j) (hj:j≤10000) (hw:w≤4000) (hh:h≤4000) (hw1:100≤w) (hh1:100≤h):Pure prog 36 [ratQ x,ratQ y,.v (.int .i64 (w:Int)),.v (.int .i64 (h:Int))] (ratQ (fac w h x y)):=by
 have ew:(w:Int) - 40=((w - 40:Nat):Int):=zo;have eh:(h:Int) - 40=((h - 40:Nat):Int):=zo;have kw:=Zfg (w - 40) zo;have kh:=Zfg (h - 40) zo;have sw:=kw.div hx;have sh:=kh.div hy;have c1:Pure prog 40 [.v (.int .i64 1)] (ratQ 1):=Ztx 1 zo;have cw:=Ztx (w - 40) zo;have ch:=Ztx (h - 40) zo;unfold fac;by_cases h0:x=0
 ·have qx:=Zo2 ((w - 40:Nat):Rat) x kw hx zo zo h0;rw [Zv6 h0];by_cases h1:y=0
  ·have qy:=Zo2 ((h - 40:Nat):Rat) y kh hy zo zo h1;rw [Zv6 h1];clear h0 h1;generalize ((w - 40:Nat):Rat)=q1 at *;generalize ((h - 40:Nat):Rat)=q2 at *;refine pI func36 rfl ntmps36 results36 call36 ?_;(focus (refine wkvp w_t w_t ?_;(repeat' first|exact w_t|apply w_l);all_goals intros));apply Zal (Za3 [(2,ratQ q1),(4,.tup [Zrj,.v (.int .i64 3)])]) [] [9] zk zr zk;(focus (simp only [Zwd,Zwi,Nat.reduceAdd];rfl));(focus (refine wkax (w_1 ew) (w_2 cw qx) w_t w_t w_t w_t w_t (w_r 0) ?_;(repeat' first|exact w_t|apply w_l);all_goals intros));apply Zal (Za3 [(2,ratQ q2),(4,.tup [Zrj,.v (.int .i64 3)])]) [] [11] zk zr zk;(focus (simp only [Zwd,Zwi,Nat.reduceAdd];rfl))
   (focus (refine wkax (w_1 eh) (w_3 ch qy c1) w_t w_t w_t w_t w_t (w_r 0) ?_;(repeat' first|exact w_t|apply w_l);all_goals intros));simp (disch:=omega) only [go_sem]
  ·have qy:=Zt1 ((h - 40:Nat):Rat) y kh hy zo zo h1;rw [Zv5 h1];clear h0 h1;generalize ((h - 40:Nat):Rat)/y=q at *;generalize ((w - 40:Nat):Rat)=q1 at *;generalize ((h - 40:Nat):Rat)=q2 at *;refine pI func36 rfl ntmps36 results36 call36 ?_;(focus (refine wkvp w_t w_t ?_;(repeat' first|exact w_t|apply w_l);all_goals intros));apply Zal (Za3 [(2,ratQ q1),(4,.tup [Zrj,.v (.int .i64 3)])]) [] [9] zk zr zk;(focus (simp only [Zwd,Zwi,Nat.reduceAdd];rfl));(focus (refine wkax (w_1 ew) (w_2 cw qx) w_t w_t w_t w_t w_t (w_r 0) ?_;(repeat' first|exact w_t|apply w_l);all_goals intros))
   apply Zal (Za3 [(2,ratQ q2),(4,.tup [ratQ q,.v (.int .i64 0)])]) [] [11] zk zr zk;(focus (simp only [Zwd,Zwi,Nat.reduceAdd];rfl));(focus (refine wkax (w_1 eh) (w_3 ch qy c1) w_t w_t w_t w_t w_t (w_r 0) ?_;(repeat' first|exact w_t|apply w_l);all_goals intros));simp (disch:=omega) only [go_sem]
 ·have qx:=Zt1 ((w - 40:Nat):Rat) x kw hx zo zo h0;rw [Zv5 h0];by_cases h1:y=0
  ·have qy:=Zo2 ((h - 40:Nat):Rat) y kh hy zo zo h1;rw [Zv6 h1];clear h0 h1;generalize ((w - 40:Nat):Rat)/x=q at *;generalize ((w - 40:Nat):Rat)=q1 at *;generalize ((h - 40:Nat):Rat)=q2 at *;refine pI func36 rfl ntmps36 results36 call36 ?_;(focus (refine wkvp w_t w_t ?_;(repeat' first|exact w_t|apply w_l);all_goals intros));apply Zal (Za3 [(2,ratQ q1),(4,.tup [ratQ q,.v (.int .i64 0)])]) [] [9] zk zr zk;(focus (simp only [Zwd,Zwi,Nat.reduceAdd];rfl));(focus (refine wkax (w_1 ew) (w_2 cw qx) w_t w_t w_t w_t w_t (w_r 0) ?_;(repeat' first|exact w_t|apply w_l);all_goals intros))
   apply Zal (Za3 [(2,ratQ q2),(4,.tup [Zrj,.v (.int .i64 3)])]) [] [11] zk zr zk;(focus (simp only [Zwd,Zwi,Nat.reduceAdd];rfl));(focus (refine wkax (w_1 eh) (w_3 ch qy c1) w_t w_t w_t w_t w_t (w_r 0) ?_;(repeat' first|exact w_t|apply w_l);all_goals intros));simp (disch:=omega) only [go_sem]
  ·have qy:=Zt1 ((h - 40:Nat):Rat) y kh hy zo zo h1;rw [Zv5 h1];have cc:=Zt2 (((h - 40:Nat):Rat)/y) (((w - 40:Nat):Rat)/x) sh sw zo zo;have hc:=@Zmq (((h - 40:Nat):Rat)/y) (((w - 40:Nat):Rat)/x);clear h0 h1;generalize cmpQ (((h - 40:Nat):Rat)/y) (((w - 40:Nat):Rat)/x)=s at *;by_cases hlt:((h - 40:Nat):Rat)/y < ((w - 40:Nat):Rat)/x
   ·rw [Zv6 hlt];have hs:=hc.2 hlt;clear hc hlt;generalize ((w - 40:Nat):Rat)/x=q3 at *;generalize ((h - 40:Nat):Rat)/y=q4 at *;generalize ((w - 40:Nat):Rat)=q1 at *;generalize ((h - 40:Nat):Rat)=q2 at *;refine pI func36 rfl ntmps36 results36 call36 ?_;(focus (refine wkvp w_t w_t ?_;(repeat' first|exact w_t|apply w_l);all_goals intros));apply Zal (Za3 [(2,ratQ q1),(4,.tup [ratQ q3,.v (.int .i64 0)])]) [] [9] zk zr zk;(focus (simp only [Zwd,Zwi,Nat.reduceAdd];rfl));(focus (refine wkax (w_1 ew) (w_2 cw qx) w_t w_t w_t w_t w_t (w_r 0) ?_;(repeat' first|exact w_t|apply w_l);all_goals intros))
    apply Zal (Za3 [(2,ratQ q2),(4,.tup [ratQ q4,.v (.int .i64 0)])]) [] [11] zk zr zk;(focus (simp only [Zwd,Zwi,Nat.reduceAdd];rfl));(focus (refine wkax (w_1 eh) (w_3 ch qy cc) w_t w_t w_t w_t w_t (w_r 0) ?_;(repeat' first|exact w_t|apply w_l);all_goals intros));simp (disch:=omega) only [go_sem]
   ·rw [Zv5 hlt];have hs:¬s < 0:=λh5=>hlt (hc.1 h5);clear hc hlt;generalize ((w - 40:Nat):Rat)/x=q3 at *;generalize ((h - 40:Nat):Rat)/y=q4 at *;generalize ((w - 40:Nat):Rat)=q1 at *;generalize ((h - 40:Nat):Rat)=q2 at *;refine pI func36 rfl ntmps36 results36 call36 ?_;(focus (refine wkvp w_t w_t ?_;(repeat' first|exact w_t|apply w_l);all_goals intros));apply Zal (Za3 [(2,ratQ q1),(4,.tup [ratQ q3,.v (.int .i64 0)])]) [] [9] zk zr zk;(focus (simp only [Zwd,Zwi,Nat.reduceAdd];rfl));(focus (refine wkax (w_1 ew) (w_2 cw qx) w_t w_t w_t w_t w_t (w_r 0) ?_;(repeat' first|exact w_t|apply w_l);all_goals intros))
    apply Zal (Za3 [(2,ratQ q2),(4,.tup [ratQ q4,.v (.int .i64 0)])]) [] [11] zk zr zk;(focus (simp only [Zwd,Zwi,Nat.reduceAdd];rfl));(focus (refine wkax (w_1 eh) (w_3 ch qy cc) w_t w_t w_t w_t w_t (w_r 0) ?_;(repeat' first|exact w_t|apply w_l);all_goals intros));simp (disch:=omega) only [go_sem]
theorem dWhole (q:Rat) {j:Nat} (hq:Sz q j) (hj:j≤100000) (n:Nat) (hn:n < 65536) (hf:q.floor=(n:Int)):Pure prog 42 [ratQ q] (.v (.int .i64 (n:Int))):=by
 have cf:=ratFloor q hq zo
 have e:intZ q.floor=intA false n:=by
  rw [hf];have:=Zd1 false n
  rwa [Zwx] at this
 rw [e] at cf;have l4:(toL n).length≤4:=Zad.2 zo;have cu:=Zuv (toL n) zo (Zan _);rw [Zam,Zv6 zo,Zv8 (by omega:n < 18446744073709551616)] at cu;refine pI func42 rfl ntmps42 results42 call42 ?_;(focus (refine wkad w_t (w_2 cf cu) w_t ?_;(repeat' first|exact w_t|apply w_l);all_goals intros));simp (disch:=omega) only [go_sem]
theorem rFloor (q:Rat) {j:Nat} (hq:Sz q j) (hj:j≤100000) (n:Nat) (hn:n < 65536) (hf:(q+hlf).floor=(n:Int)):Pure prog 60 [ratQ q] (.v (.int .i64 (n:Int))):=by
 have cfr:Pure prog 94 [.v (.int .i64 1),.v (.int .i64 2)] (ratQ hlf):=qFrac 1 2 zo zo zo;have ca:=qAdd q hlf hq Zge zo zo;have cf:=qFloor (q+hlf) (hq.add Zge) zo
 have e:intZ (q+hlf).floor=intA false n:=by
  rw [hf];have:=Zd1 false n
  rwa [Zwx] at this
 rw [e] at cf;clear hf e;generalize q+hlf=y at *;generalize hlf=hf at *;by_cases h0:n=0
 ·subst h0;have l0:(toL 0).length=0:=by rw [Zaq];rfl
  refine pI func60 rfl ntmps60 results60 call60 ?_;(focus (refine wkad (w_2 l0 @Zx5) (w_3 cfr ca cf) (w_1 (w_d 1 [(1,ratQ hf),(2,ratQ y),(3,intA false 0)] [] [3])) ?_;(repeat' first|exact w_t|apply w_l);all_goals intros));simp (disch:=omega) only [go_sem,Zx5]
 ·have hl:toL n=[n]:=by
   rw [Zdx h0,Zx6 hn,ZAh hn,Zaq]
  rw [show intA false n=.agg [.v (.bool false),lim [n]] from by unfold intA;rw [hl]] at cf;refine pI func60 rfl ntmps60 results60 call60 ?_;(focus (refine wkad (w_1 @u16s_c) (w_3 cfr ca cf) (w_1 (w_d 1 [(1,ratQ hf),(2,ratQ y),(3,.agg [.v (.bool false),lim [n]])] [] [3])) ?_;(repeat' first|exact w_t|apply w_l);all_goals intros));simp (disch:=omega) only [go_sem]
attribute [go_sem] underlying26 underlying51 underlying64
def minF (m:Rat) (l:List Rat):Rat:=l.foldl (λm a=>if a < m then a else m) m
def maxF (m:Rat) (l:List Rat):Rat:=l.foldl (λm a=>if m < a then a else m) m
theorem Zj6 (m:Rat) (l:List Rat) (a:Rat):minF m (l++[a])=if a < minF m l then a else minF m l:=by unfold minF;rw [List.foldl_append];rfl
theorem Zj7 (m:Rat) (l:List Rat) (a:Rat):maxF m (l++[a])=if maxF m l < a then a else maxF m l:=by unfold maxF;rw [List.foldl_append];rfl
theorem Zia {k:Nat}:∀(l:List Rat) (m:Rat),Sz m k→(∀a∈l,Sz a k)→Sz (minF m l) k
 | [],m,h,_=>h
 | a :: l,m,h,h2=>by
   show Sz (minF (if a < m then a else m) l) k;refine Zia l _ ?_ λb hb=>h2 b (Zxu _ hb);split
   ·exact h2 a Zxd
   ·exact h
theorem Zib {k:Nat}:∀(l:List Rat) (m:Rat),Sz m k→(∀a∈l,Sz a k)→Sz (maxF m l) k
 | [],m,h,_=>h
 | a :: l,m,h,h2=>by
   show Sz (maxF (if m < a then a else m) l) k;refine Zib l _ ?_ λb hb=>h2 b (Zxu _ hb);split
   ·exact h2 a Zxd
   ·exact h
theorem Zcl {α:Type} {l:List α} {k:Nat} (h:k < l.length):l.take (k+1)=l.take k++[l[k]]:=by rw [Zz4,Zwb h];rfl
theorem Zit {α:Type} {l:List α} (f:α→AV) {k:Nat} (h:k < l.length):(l.map f).getD k .u=f l[k]:=by rw [Zwp,Zwb (by simpa using h)];simp
abbrev Zb4 (a:Rat):List AV:=[.v (.bool (decide (a.num < 0))),lim (toL a.num.natAbs),lim (toL a.den)]
theorem Zqy (m:Rat):minF m []=m:=rfl
theorem Zq0 (m:Rat):maxF m []=m:=rfl
theorem dEnds (q0:Rat) (rest:List Rat) {j:Nat} (h0:Sz q0 j) (hr:∀a∈rest,Sz a j) (hj:j≤100000) (hl:rest.length≤1000):Pure prog 35 [.sl 3 ((q0 :: rest).map ratQ)] (.tup [ratQ (minF q0 rest),ratQ (maxF q0 rest)]):=by
 refine pI func35 rfl ntmps35 results35 call35 ?_;(focus (refine wkad w_t w_t (w_1 (w_d 1 [] [] [2,3])) ?_;(repeat' first|exact w_t|apply w_l);all_goals intros));have htk:List.take rest.length (rest.map ratQ)=rest.map ratQ:=Zxj (by rw [Zv9];omega);refine Zai (ι:=Nat) (λk e m=>k≤rest.length∧e 13=.sl 3 (rest.map ratQ)∧e 14=.v (.int .i64 rest.length)∧e 15=.v (.int .i64 (k:Int)) ∧
  ∃g2 g3,e 2=.pbox 2 g2 0∧e 3=.pbox 3 g3 0∧m 2=some (.box g2 41 (Zb4 (minF q0 (rest.take k))) false)∧m 3=some (.box g3 41 (Zb4 (maxF q0 (rest.take k))) false)) (λk=>rest.length - k) 0 zr ?_ ?_
 ·rintro k e m ⟨hk,e13,e14,e15,g2,g3,e2,e3,m2,m3⟩
  by_cases hlt:k < rest.length
  ·have hget:(rest.map ratQ).getD k .u=ratQ rest[k]:=Zit ratQ hlt;have sm:=Zia (rest.take k) q0 h0 λa ha=>hr a (Zxh ha);have sM:=Zib (rest.take k) q0 h0 λa ha=>hr a (Zxh ha);have sa:=hr rest[k] (Zwq hlt);have c1:=Zt2 rest[k] (minF q0 (rest.take k)) sa sm zo zo;have c2:=Zt2 rest[k] (maxF q0 (rest.take k)) sa sM zo zo;have n1:=@Zmq rest[k] (minF q0 (rest.take k));have n2:=@Zrc rest[k] (maxF q0 (rest.take k));have t1:minF q0 (rest.take (k+1))=if rest[k] < minF q0 (rest.take k) then rest[k] else minF q0 (rest.take k):=by rw [Zcl hlt];exact Zj6 _ _ _
   have t2:maxF q0 (rest.take (k+1))=if maxF q0 (rest.take k) < rest[k] then rest[k] else maxF q0 (rest.take k):=by rw [Zcl hlt];exact Zj7 _ _ _
   generalize cmpQ rest[k] (minF q0 (rest.take k))=s1 at *;generalize cmpQ rest[k] (maxF q0 (rest.take k))=s2 at *;generalize minF q0 (rest.take k)=p at *;generalize maxF q0 (rest.take k)=q at *;generalize rest[k]=a at *;simp only [Zb4] at m2 m3;by_cases ha:a < p
   ·have ha':=n1.2 ha;rw [Zv6 ha] at t1;by_cases hb:q < a
    ·have hb':=n2.2 hb;rw [Zv6 hb] at t2;(focus (refine wkad (w_8 e13 e14 e15 e2 e3 m2 m3 hget) (w_2 c1 c2) w_t ?_;(repeat' first|exact w_t|apply w_l);all_goals intros));exact⟨k+1,⟨zo,gW e13,gW e14,gS,g2,g3,gW e2,gW e3,by(simp (disch:=omega) only [go_sem,t1,Zb4]<;>repeat' first|rfl|refine⟨?_,?_⟩),by(simp (disch:=omega) only [go_sem,t2,Zb4]<;>repeat' first|rfl|refine⟨?_,?_⟩)⟩,zo⟩
    ·have hb':¬0 < s2:=λh5=>hb (n2.1 h5);rw [Zv5 hb] at t2;(focus (refine wkad (w_8 e13 e14 e15 e2 e3 m2 m3 hget) (w_2 c1 c2) w_t ?_;(repeat' first|exact w_t|apply w_l);all_goals intros));exact⟨k+1,⟨zo,gW e13,gW e14,gS,g2,g3,gW e2,gW e3,by(simp (disch:=omega) only [go_sem,t1,Zb4]<;>repeat' first|rfl|refine⟨?_,?_⟩),by(simp (disch:=omega) only [go_sem,m3,t2,Zb4]<;>repeat' first|rfl|refine⟨?_,?_⟩)⟩,zo⟩
   ·have ha':¬s1 < 0:=λh5=>ha (n1.1 h5);rw [Zv5 ha] at t1;by_cases hb:q < a
    ·have hb':=n2.2 hb;rw [Zv6 hb] at t2;(focus (refine wkad (w_8 e13 e14 e15 e2 e3 m2 m3 hget) (w_2 c1 c2) w_t ?_;(repeat' first|exact w_t|apply w_l);all_goals intros));exact⟨k+1,⟨zo,gW e13,gW e14,gS,g2,g3,gW e2,gW e3,by(simp (disch:=omega) only [go_sem,m2,t1,Zb4]<;>repeat' first|rfl|refine⟨?_,?_⟩),by(simp (disch:=omega) only [go_sem,t2,Zb4]<;>repeat' first|rfl|refine⟨?_,?_⟩)⟩,zo⟩
    ·have hb':¬0 < s2:=λh5=>hb (n2.1 h5);rw [Zv5 hb] at t2;(focus (refine wkad (w_8 e13 e14 e15 e2 e3 m2 m3 hget) (w_2 c1 c2) w_t ?_;(repeat' first|exact w_t|apply w_l);all_goals intros));exact⟨k+1,⟨zo,gW e13,gW e14,gS,g2,g3,gW e2,gW e3,by(simp (disch:=omega) only [go_sem,m2,t1,Zb4]<;>repeat' first|rfl|refine⟨?_,?_⟩),by(simp (disch:=omega) only [go_sem,m3,t2,Zb4]<;>repeat' first|rfl|refine⟨?_,?_⟩)⟩,zo⟩
  ·rw [Zxj zo] at m2 m3;simp only [Zb4] at m2 m3;(focus (refine wkad (w_7 e13 e14 e15 e2 e3 m2 m3) w_t w_t ?_;(repeat' first|exact w_t|apply w_l);all_goals intros));simp (disch:=omega) only [go_sem,e2,e3,m2,m3]
 ·exact⟨zo,by(simp (disch:=omega) only [go_sem,Zyb,Zv9,htk]<;>repeat' first|rfl|refine⟨?_,?_⟩),by(simp (disch:=omega) only [go_sem,Zyb,Zv9,Nat.min_self]<;>repeat' first|rfl|refine⟨?_,?_⟩),gC,_,_,gC,gC,by(simp (disch:=omega) only [go_sem,Zb4,Zy6,Zqy]<;>repeat' first|rfl|refine⟨?_,?_⟩),by(simp (disch:=omega) only [go_sem,Zb4,Zy6,Zq0]<;>repeat' first|rfl|refine⟨?_,?_⟩)⟩
theorem byRat:Zij prog 41=some 56:=by kernel_rfl
theorem szP2:szOf prog 64=some 2:=by kernel_rfl
theorem byP2:Zij prog 64=some 16:=by kernel_rfl
theorem zP2:Za6 prog 64=some (.agg #[.int .i64 0,.int .i64 0]):=by kernel_rfl
theorem eqP2:eqTy prog 64=true:=by kernel_rfl
attribute [go_sem] byRat szP2 byP2 zP2
attribute [local go_sem] eqP2 List.not_mem_nil false_imp_iff
structure BxQ where
 a:Rat
 b:Rat
 c:Rat
 d:Rat
abbrev BxQ.av (x:BxQ):AV:=boxQ x.a x.b x.c x.d
def BxQ.cx (x:BxQ):Rat:=(x.a+x.b)*hlf
def BxQ.cy (x:BxQ):Rat:=(x.c+x.d)*hlf
def BxQ.sz (x:BxQ) (k:Nat):Prop:=Sz x.a k∧Sz x.b k∧Sz x.c k∧Sz x.d k
def pxR (f x0:Rat) (b:BxQ):Rat:=((20:Nat):Rat)+f*(b.cx - x0)
def pyR (f y0:Rat) (h:Nat) (b:BxQ):Rat:=((h - 20:Nat):Rat) - f*(b.cy - y0)
def rnd (q:Rat):Nat:=(q+hlf).floor.toNat
def Zm8 (q:Rat):Prop:=0≤(q+hlf).floor∧(q+hlf).floor < 65536
abbrev pixA (f x0 y0:Rat) (h:Nat) (b:BxQ):AV:=.agg [.v (.int .i64 (rnd (pxR f x0 b):Int)),.v (.int .i64 (rnd (pyR f y0 h b):Int))]
theorem Zii {b:BxQ} (h:b.sz 4):Sz b.cx 10:=(h.1.add h.2.1).mul Zge
theorem Zih {b:BxQ} (h:b.sz 4):Sz b.cy 10:=(h.2.2.1.add h.2.2.2).mul Zge
theorem Zqb {q:Rat} (h:Zm8 q):(q+hlf).floor=(rnd q:Int)∧rnd q < 65536:=by
 unfold rnd Zm8 at *;omega
theorem one_sz:Sz 1 1:=Zfg 1 zo
theorem fac_sz {w h:Nat} {x y:Rat} (hw:w≤4000) (hh:h≤4000) (hx:Sz x 21) (hy:Sz y 21):Sz (fac w h x y) 22:=by
 have sw:=(Zfg (w - 40) zo).div hx;have sh:=(Zfg (h - 40) zo).div hy;unfold fac;split
 ·split
  ·exact one_sz.mono zo
  ·exact sh
 ·split
  ·exact sw
  ·split
   ·exact sh
   ·exact sw
theorem Zvn (bs:AV) (w h:Int) (hb:w < 100∨4000 < w∨h < 100∨4000 < h):Pure prog 11 [bs,.v (.int .i64 w),.v (.int .i64 h)] (.tup [.v (.slice none 0 0),.v (.int .i64 2)]):=by
 by_cases h1:w < 100
 ·refine pI func11 rfl ntmps11 results11 call11 ?_;(focus (refine wkad w_t w_t w_t ?_;(repeat' first|exact w_t|apply w_l);all_goals intros));simp (disch:=omega) only [go_sem]
 ·by_cases h2:4000 < w
  ·refine pI func11 rfl ntmps11 results11 call11 ?_;(focus (refine wkad w_t w_t w_t ?_;(repeat' first|exact w_t|apply w_l);all_goals intros));simp (disch:=omega) only [go_sem]
  ·by_cases h3:h < 100
   ·refine pI func11 rfl ntmps11 results11 call11 ?_;(focus (refine wkad w_t w_t w_t ?_;(repeat' first|exact w_t|apply w_l);all_goals intros));simp (disch:=omega) only [go_sem]
   ·have h4:4000 < h:=zo;refine pI func11 rfl ntmps11 results11 call11 ?_;(focus (refine wkad w_t w_t w_t ?_;(repeat' first|exact w_t|apply w_l);all_goals intros));simp (disch:=omega) only [go_sem]
theorem Zvm (w h:Int) (h1:100≤w) (h2:w≤4000) (h3:100≤h) (h4:h≤4000):Pure prog 11 [.sl 12 [],.v (.int .i64 w),.v (.int .i64 h)] (.tup [.v (.slice none 0 0),.v (.int .i64 0)]):=by
 refine pI func11 rfl ntmps11 results11 call11 ?_;(focus (refine wkad (w_1 @Zx5) w_t w_t ?_;(repeat' first|exact w_t|apply w_l);all_goals intros));simp (disch:=omega) only [go_sem]
theorem dScale (b0:BxQ) (rest:List BxQ) (w h:Nat) (hs:∀b∈b0 :: rest,b.sz 4) (hl:rest.length≤100) (h1:100≤w) (h2:w≤4000) (h3:100≤h) (h4:h≤4000)
 {x0 x1 y0 y1 f:Rat} (ex0:minF b0.cx (rest.map BxQ.cx)=x0) (ex1:maxF b0.cx (rest.map BxQ.cx)=x1) (ey0:minF b0.cy (rest.map BxQ.cy)=y0) (ey1:maxF b0.cy (rest.map BxQ.cy)=y1)
 (ef:fac w h (x1 - x0) (y1 - y0)=f) (hok:∀b∈b0 :: rest,Zm8 (pxR f x0 b)∧Zm8 (pyR f y0 h b)) :
 Pure prog 11 [.sl 12 ((b0 :: rest).map BxQ.av),.v (.int .i64 (w:Int)),.v (.int .i64 (h:Int))] (.tup [.sl 2 ((b0 :: rest).map (pixA f x0 y0 h)),.v (.int .i64 0)]):=by
 have sx0:Sz x0 10:=by rw [←ex0];exact Zia _ _ (Zii (hs b0 Zxd)) λa ha=>by obtain⟨b,hb,rfl⟩:=List.mem_map.1 ha;exact Zii (hs b (Zxu _ hb))
 have sx1:Sz x1 10:=by rw [←ex1];exact Zib _ _ (Zii (hs b0 Zxd)) λa ha=>by obtain⟨b,hb,rfl⟩:=List.mem_map.1 ha;exact Zii (hs b (Zxu _ hb))
 have sy0:Sz y0 10:=by rw [←ey0];exact Zia _ _ (Zih (hs b0 Zxd)) λa ha=>by obtain⟨b,hb,rfl⟩:=List.mem_map.1 ha;exact Zih (hs b (Zxu _ hb))
 have sy1:Sz y1 10:=by rw [←ey1];exact Zib _ _ (Zih (hs b0 Zxd)) λa ha=>by obtain⟨b,hb,rfl⟩:=List.mem_map.1 ha;exact Zih (hs b (Zxu _ hb))
 have sf:Sz f 22:=by rw [←ef];exact fac_sz h2 h4 (sx1.sub sx0) (sy1.sub sy0)
 have cE1:=dEnds b0.cx (rest.map BxQ.cx) (Zii (hs b0 Zxd)) (λa ha=>by obtain⟨b,hb,rfl⟩:=List.mem_map.1 ha;exact Zii (hs b (Zxu _ hb))) zo (by rw [Zv9];omega);have cE2:=dEnds b0.cy (rest.map BxQ.cy) (Zih (hs b0 Zxd)) (λa ha=>by obtain⟨b,hb,rfl⟩:=List.mem_map.1 ha;exact Zih (hs b (Zxu _ hb))) zo (by rw [Zv9];omega);rw [ex0,ex1] at cE1;rw [ey0,ey1] at cE2;have hxs:b0.cx :: rest.map BxQ.cx=(b0 :: rest).map BxQ.cx:=rfl;have hys:b0.cy :: rest.map BxQ.cy=(b0 :: rest).map BxQ.cy:=rfl;rw [hxs,List.map_map] at cE1
 rw [hys,List.map_map] at cE2;have cS1:=Znc x1 x0 sx1 sx0 zo zo;have cS2:=Znc y1 y0 sy1 sy0 zo zo;have cF:=dFactor (x1 - x0) (y1 - y0) w h (sx1.sub sx0) (sy1.sub sy0) zo h2 h4 h1 h3;rw [ef] at cF;have cH:Pure prog 38 [.v (.int .i64 1),.v (.int .i64 2)] (ratQ hlf):=Zt0 1 2 zo zo zo;have c20:Pure prog 40 [.v (.int .i64 20)] (ratQ ((20:Nat):Rat)):=Ztx 20 zo;have ch20:=Ztx (h - 20) zo;have eh:(h:Int) - 20=((h - 20:Nat):Int):=zo;have s20:=Zfg 20 zo;have sh20:=Zfg (h - 20) zo;have hlen:(b0 :: rest).length=rest.length+1:=rfl;have hn0:(b0 :: rest).length≤101:=zo;have hn1:0 < (b0 :: rest).length:=zo
 generalize hd1:x1 - x0=dx at *;generalize hd2:y1 - y0=dy at *;generalize b0 :: rest=bs at *;clear ex0 ex1 ey0 ey1 ef hxs hys hlen hl;refine pI func11 rfl ntmps11 results11 call11 ?_;(focus (refine wkad w_t w_t w_t ?_;(repeat' first|exact w_t|apply w_l);all_goals intros));refine Zez (Frz.nilOwn (d:=8) 50 3 41 (gC)) ?_;refine Zez (Frz.nilOwn (d:=9) 56 3 41 (gC)) ?_;refine Zai (ι:=Nat) (λk e m=>k≤bs.length∧e 0=.sl 12 (bs.map BxQ.av)∧e 1=.v (.int .i64 (w:Int))∧e 2=.v (.int .i64 (h:Int))∧e 39=.sl 12 (bs.map BxQ.av)∧e 40=.v (.int .i64 bs.length)∧e 41=.v (.int .i64 (k:Int)) ∧
  ∃sv8 sv9,e 8=.own 50 sv8∧m 50=some (.row sv8 41 3 ((bs.take k).map (ratQ ∘ BxQ.cx)) 0)∧e 9=.own 56 sv9∧m 56=some (.row sv9 41 3 ((bs.take k).map (ratQ ∘ BxQ.cy)) 0)) (λk=>bs.length - k) 0 zr ?_ ?_
 ·rintro k e m ⟨hk,e0,e1,e2,e39,e40,e41,sv8,sv9,e8,m50,e9,m56⟩
  by_cases hlt:k < bs.length
  ·have hget:(bs.map BxQ.av).getD k .u=boxQ bs[k].a bs[k].b bs[k].c bs[k].d:=Zit BxQ.av hlt;have hb:=hs bs[k] (Zwq hlt);have c1:Pure prog 34 [Zuh bs[k].a bs[k].b] (ratQ bs[k].cx):=Zvo _ _ hb.1 hb.2.1 zo zo;have c2:Pure prog 34 [Zuh bs[k].c bs[k].d] (ratQ bs[k].cy):=Zvo _ _ hb.2.2.1 hb.2.2.2 zo zo;have t1:(bs.take (k+1)).map (ratQ ∘ BxQ.cx)=(bs.take k).map (ratQ ∘ BxQ.cx)++[ratQ bs[k].cx]:=by rw [Zcl hlt,Zye];rfl
   have t2:(bs.take (k+1)).map (ratQ ∘ BxQ.cy)=(bs.take k).map (ratQ ∘ BxQ.cy)++[ratQ bs[k].cy]:=by rw [Zcl hlt,Zye];rfl
   clear hb;generalize bs[k].cx=q1 at *;generalize bs[k].cy=q2 at *;generalize bs[k].a=va at *;generalize bs[k].b=vb at *;generalize bs[k].c=vc at *;generalize bs[k].d=vd at *;(focus (refine wkax (w_5 e39 e40 e41 hget @Zcp) w_t w_t w_t w_t w_t w_t (w_r 0) ?_;(repeat' first|exact w_t|apply w_l);all_goals intros));apply Zal (Za3 [(3,ratQ q1),(4,.sl 3 [ratQ q1]),(9,ratQ q2),(10,.sl 3 [ratQ q2])]) [5,1005,11,1011] [50,56] zk zr zk;(focus (simp only [Zwd,Zwi,Nat.reduceAdd];rfl));(focus (refine wkax (w_5 e8 e9 e41 m50 m56) (w_2 c1 c2) w_t w_t w_t w_t w_t (w_r 0) ?_;(repeat' first|exact w_t|apply w_l);all_goals intros))
   exact⟨k+1,⟨zo,gW e0,gW e1,gW e2,gW e39,gW e40,gS,_,_,gC,gW t1,gC,gW t2⟩,zo⟩
  ·rw [Zxj zo] at m50 m56;(focus (refine wkax (w_7 e39 e40 e41 e8 e9 m50 m56) w_t w_t w_t (w_2 cE1 cE2) w_t w_t (w_r 0) ?_;(repeat' first|exact w_t|apply w_l);all_goals intros));apply Zal (Za3 [(2,ratQ dx),(5,ratQ dy),(8,ratQ f)]) [] [16] zk zr zk;(focus (simp only [Zwd,Zwi,Nat.reduceAdd];rfl));(focus (refine wkax (w_4 e0 e1 e2 @Zcp) (w_4 cS1 cS2 cF cH) w_t w_t w_t w_t w_t (w_r 0) ?_;(repeat' first|exact w_t|apply w_l);all_goals intros));refine Zez (Frz.own (d:=8) (k:=50) (sv:=sv8) (mm:=3) (ty:=41) (es:=bs.map (ratQ ∘ BxQ.cx)) (pub:=(bs.map (ratQ ∘ BxQ.cx)).length) (gW e8) (gW m50)) ?_
   refine Zez (Frz.own (d:=9) (k:=56) (sv:=sv9) (mm:=3) (ty:=41) (es:=bs.map (ratQ ∘ BxQ.cy)) (pub:=(bs.map (ratQ ∘ BxQ.cy)).length) (gW e9) (gW m56)) ?_;refine Zez (Frz.nilOwn (d:=18) 116 2 64 (gC)) ?_;clear hk hlt e0 e1 e39 e40 e41 e8 e9 m50 m56;refine Zai (ι:=Nat) (λk e m=>k≤bs.length∧e 2=.v (.int .i64 (h:Int))∧e 8=.sl 3 (bs.map (ratQ ∘ BxQ.cx))∧e 9=.sl 3 (bs.map (ratQ ∘ BxQ.cy))∧e 79=.v (.int .i64 bs.length)∧e 80=.v (.int .i64 (k:Int)) ∧
    ∃g12 g14 g16 g17 sv,e 12=.pbox 12 g12 0∧m 12=some (.box g12 41 (Zb4 x0) false)∧e 14=.pbox 14 g14 0∧m 14=some (.box g14 41 (Zb4 y0) false)∧e 16=.pbox 16 g16 0∧m 16=some (.box g16 41 (Zb4 f) false)∧e 17=.pbox 17 g17 0∧m 17=some (.box g17 41 (Zb4 hlf) false) ∧
     e 18=.own 116 sv∧m 116=some (.row sv 64 2 ((bs.take k).map (pixA f x0 y0 h)) 0)) (λk=>bs.length - k) 0 zr ?_ ?_
   ·clear e2
    rintro k e m ⟨hk,e2,e8,e9,e79,e80,g12,g14,g16,g17,sv,e12,m12,e14,m14,e16,m16,e17,m17,e18,m116⟩
    by_cases hlt:k < bs.length
    ·have hb:=hs bs[k] (Zwq hlt);have hr:=hok bs[k] (Zwq hlt);have sx:=Zii hb;have sy:=Zih hb;have hgx:(bs.map (ratQ ∘ BxQ.cx)).getD k .u=ratQ bs[k].cx:=Zit (ratQ ∘ BxQ.cx) hlt;have hgy:(bs.map (ratQ ∘ BxQ.cy)).getD k .u=ratQ bs[k].cy:=Zit (ratQ ∘ BxQ.cy) hlt;have tk:(bs.take (k+1)).map (pixA f x0 y0 h)=(bs.take k).map (pixA f x0 y0 h)++[pixA f x0 y0 h bs[k]]:=by rw [Zcl hlt,Zye];rfl
     have cD1:=Znc bs[k].cx x0 sx sx0 zo zo;have cM1:=Zty f (bs[k].cx - x0) sf (sx.sub sx0) zo zo;have sX:=s20.add (sf.mul (sx.sub sx0));have cA1:Pure prog 39 [ratQ ((20:Nat):Rat),ratQ (f*(bs[k].cx - x0))] (ratQ (pxR f x0 bs[k])):=Zql ((20:Nat):Rat) (f*(bs[k].cx - x0)) s20 (sf.mul (sx.sub sx0)) zo zo;have sX:Sz (pxR f x0 bs[k]) _:=sX;have cA2:=Zql (pxR f x0 bs[k]) hlf sX Zge zo zo;have rX:=Zqb hr.1;have cW1:=dWhole (pxR f x0 bs[k]+hlf) (sX.add Zge) zo (rnd (pxR f x0 bs[k])) rX.2 rX.1;have cD2:=Znc bs[k].cy y0 sy sy0 zo zo;have cM2:=Zty f (bs[k].cy - y0) sf (sy.sub sy0) zo zo
     have sY:=sh20.sub (sf.mul (sy.sub sy0));have cA3:Pure prog 37 [ratQ ((h - 20:Nat):Rat),ratQ (f*(bs[k].cy - y0))] (ratQ (pyR f y0 h bs[k])):=Znc ((h - 20:Nat):Rat) (f*(bs[k].cy - y0)) sh20 (sf.mul (sy.sub sy0)) zo zo;have sY:Sz (pyR f y0 h bs[k]) _:=sY;have cA4:=Zql (pyR f y0 h bs[k]) hlf sY Zge zo zo;have rY:=Zqb hr.2;have cW2:=dWhole (pyR f y0 h bs[k]+hlf) (sY.add Zge) zo (rnd (pyR f y0 h bs[k])) rY.2 rY.1;clear hb hr sx sy sX sY rX rY;simp only [pixA] at tk;generalize rnd (pxR f x0 bs[k])=px at *;generalize rnd (pyR f y0 h bs[k])=py at *;generalize pxR f x0 bs[k]+hlf=Xh at *
     generalize pyR f y0 h bs[k]+hlf=Yh at *;generalize pxR f x0 bs[k]=X at *;generalize pyR f y0 h bs[k]=Y at *;generalize f*(bs[k].cx - x0)=m1 at *;generalize f*(bs[k].cy - y0)=mm2 at *;generalize bs[k].cx - x0=r1 at *;generalize bs[k].cy - y0=r2 at *;generalize bs[k].cx=q1 at *;generalize bs[k].cy=q2 at *;generalize ((20:Nat):Rat)=z20 at *;generalize ((h - 20:Nat):Rat)=zh at *;simp only [Zb4] at m12 m14 m16 m17;(focus (refine wkax (w_2 e79 e80) w_t w_t w_t w_t w_t w_t (w_r 0) ?_;(repeat' first|exact w_t|apply w_l);all_goals intros));apply Zal (Za3 [(0,ratQ z20),(7,ratQ r1),(8,ratQ m1),(9,ratQ X)]) [] [20] zk zr zk;(focus (simp only [Zwd,Zwi,Nat.reduceAdd];rfl))
     (focus (refine wkax (w_8 e80 e8 e12 m12 e16 m16 hgx @Zcp) (w_4 c20 cD1 cM1 cA1) w_t w_t w_t w_t w_t (w_r 0) ?_;(repeat' first|exact w_t|apply w_l);all_goals intros));apply Zal (Za3 [(2,ratQ zh),(9,ratQ r2),(10,ratQ mm2),(11,ratQ Y)]) [] [21] zk zr zk;(focus (simp only [Zwd,Zwi,Nat.reduceAdd];rfl));(focus (refine wkax (w_10 e80 eh e2 e9 e14 m14 e16 m16 hgy @Zcp) (w_4 ch20 cD2 cM2 cA3) w_t w_t w_t w_t w_t (w_r 0) ?_;(repeat' first|exact w_t|apply w_l);all_goals intros));apply Zal (Za3 [(3,ratQ Xh),(4,.v (.int .i64 (px:Int))),(7,ratQ Yh),(8,.v (.int .i64 (py:Int))),(10,.sl 2 [.agg [.v (.int .i64 (px:Int)),.v (.int .i64 (py:Int))]])]) [11] [116] zk zr zk;(focus (simp only [Zwd,Zwi,Nat.reduceAdd];rfl))
     (focus (refine wkax (w_5 e80 e17 m17 e18 m116) (w_4 cA2 cW1 cA4 cW2) w_t w_t w_t w_t w_t (w_r 0) ?_;(repeat' first|exact w_t|apply w_l);all_goals intros));exact⟨k+1,⟨zo,gW e2,gW e8,gW e9,gW e79,gS,g12,g14,g16,g17,_,gW e12,gW m12,gW e14,gW m14,gW e16,gW m16,gW e17,gW m17,gC,gW tk⟩,zo⟩
    ·rw [Zxj zo] at m116;(focus (refine wkax (w_4 e79 e80 e18 m116) w_t w_t w_t w_t w_t w_t (w_r 0) ?_;(repeat' first|exact w_t|apply w_l);all_goals intros));simp (disch:=omega) only [go_sem,e18,m116]
   ·exact⟨zo,gW e2,gC,gC,by(simp (disch:=omega) only [go_sem,Zv9]<;>repeat' first|rfl|refine⟨?_,?_⟩),gC,_,_,_,_,_,gC,by(simp (disch:=omega) only [go_sem,Zb4]<;>repeat' first|rfl|refine⟨?_,?_⟩),gC,by(simp (disch:=omega) only [go_sem,Zb4]<;>repeat' first|rfl|refine⟨?_,?_⟩),gC,by(simp (disch:=omega) only [go_sem,Zb4]<;>repeat' first|rfl|refine⟨?_,?_⟩),gC,by(simp (disch:=omega) only [go_sem,Zb4]<;>repeat' first|rfl|refine⟨?_,?_⟩),gC,gC⟩
 ·exact⟨zo,gC,gC,gC,gC,by(simp (disch:=omega) only [go_sem,Zv9]<;>repeat' first|rfl|refine⟨?_,?_⟩),gC,_,_,gC,gC,gC,gC⟩
theorem Zuy (m:Rat) (l:List Rat):minF m (m :: l)=minF m l:=by
 have:¬m < m:=Rat.lt_irrefl;show minF (if m < m then m else m) l=_;rw [Zv5 this]
theorem Zuz (m:Rat) (l:List Rat):maxF m (m :: l)=maxF m l:=by
 have:¬m < m:=Rat.lt_irrefl;show maxF (if m < m then m else m) l=_;rw [Zv5 this]
abbrev Zh5 (a b:Rat):List AV:=[.v (.bool (decide (a.num < 0))),lim (toL a.num.natAbs),lim (toL a.den),.v (.bool (decide (b.num < 0))),lim (toL b.num.natAbs),lim (toL b.den)]
theorem Zt5 (bs:AV) (w h:Int) (hb:w < 100∨4000 < w∨h < 100∨4000 < h):Pure prog 22 [bs,.v (.int .i64 w),.v (.int .i64 h)] (.tup [.v (.slice none 0 0),.v (.int .i64 2)]):=by
 by_cases h1:w < 100
 ·refine pI func22 rfl ntmps22 results22 call22 ?_;(focus (refine wkad w_t w_t w_t ?_;(repeat' first|exact w_t|apply w_l);all_goals intros));simp (disch:=omega) only [go_sem]
 ·by_cases h2:4000 < w
  ·refine pI func22 rfl ntmps22 results22 call22 ?_;(focus (refine wkad w_t w_t w_t ?_;(repeat' first|exact w_t|apply w_l);all_goals intros));simp (disch:=omega) only [go_sem]
  ·by_cases h3:h < 100
   ·refine pI func22 rfl ntmps22 results22 call22 ?_;(focus (refine wkad w_t w_t w_t ?_;(repeat' first|exact w_t|apply w_l);all_goals intros));simp (disch:=omega) only [go_sem]
   ·have h4:4000 < h:=zo;refine pI func22 rfl ntmps22 results22 call22 ?_;(focus (refine wkad w_t w_t w_t ?_;(repeat' first|exact w_t|apply w_l);all_goals intros));simp (disch:=omega) only [go_sem]
theorem Zt4 (w h:Int) (h1:100≤w) (h2:w≤4000) (h3:100≤h) (h4:h≤4000):Pure prog 22 [.sl 12 [],.v (.int .i64 w),.v (.int .i64 h)] (.tup [.v (.slice none 0 0),.v (.int .i64 0)]):=by
 refine pI func22 rfl ntmps22 results22 call22 ?_;(focus (refine wkad (w_1 @Zx5) w_t w_t ?_;(repeat' first|exact w_t|apply w_l);all_goals intros));simp (disch:=omega) only [go_sem]
theorem rScale (b0:BxQ) (rest:List BxQ) (w h:Nat) (hs:∀b∈b0 :: rest,b.sz 4) (hl:rest.length≤100) (h1:100≤w) (h2:w≤4000) (h3:100≤h) (h4:h≤4000)
 {x0 x1 y0 y1 f:Rat} (ex0:minF b0.cx (rest.map BxQ.cx)=x0) (ex1:maxF b0.cx (rest.map BxQ.cx)=x1) (ey0:minF b0.cy (rest.map BxQ.cy)=y0) (ey1:maxF b0.cy (rest.map BxQ.cy)=y1)
 (ef:fac w h (x1 - x0) (y1 - y0)=f) (hok:∀b∈b0 :: rest,Zm8 (pxR f x0 b)∧Zm8 (pyR f y0 h b)) :
 Pure prog 22 [.sl 12 ((b0 :: rest).map BxQ.av),.v (.int .i64 (w:Int)),.v (.int .i64 (h:Int))] (.tup [.sl 2 ((b0 :: rest).map (pixA f x0 y0 h)),.v (.int .i64 0)]):=by
 have s0:=hs b0 Zxd;have cc (b:BxQ) (hb:b.sz 4):Pure prog 52 [boxQ b.a b.b b.c b.d] (Zuh b.cx b.cy):=rCenter _ _ _ _ hb.1 hb.2.1 hb.2.2.1 hb.2.2.2 zo;have cc0:=cc b0 s0;rw [←Zuy] at ex0 ey0;rw [←Zuz] at ex1 ey1;have hxs:b0.cx :: rest.map BxQ.cx=(b0 :: rest).map BxQ.cx:=rfl;have hys:b0.cy :: rest.map BxQ.cy=(b0 :: rest).map BxQ.cy:=rfl;rw [hxs] at ex0 ex1;rw [hys] at ey0 ey1;have sxs:∀k,∀a∈((b0 :: rest).map BxQ.cx).take k,Sz a 10:=λk a ha=>by obtain⟨b,hb,rfl⟩:=List.mem_map.1 (Zxh ha);exact Zii (hs b hb)
 have sys:∀k,∀a∈((b0 :: rest).map BxQ.cy).take k,Sz a 10:=λk a ha=>by obtain⟨b,hb,rfl⟩:=List.mem_map.1 (Zxh ha);exact Zih (hs b hb)
 have sx (k:Nat):=Zia _ _ (Zii s0) (sxs k);have sX (k:Nat):=Zib _ _ (Zii s0) (sxs k);have sy (k:Nat):=Zia _ _ (Zih s0) (sys k);have sY (k:Nat):=Zib _ _ (Zih s0) (sys k);have hget0:((b0 :: rest).map BxQ.av).getD 0 .u=boxQ b0.a b0.b b0.c b0.d:=rfl;have hlen:(b0 :: rest).length=rest.length+1:=rfl;have hn0:(b0 :: rest).length≤101:=zo;have hn1:0 < (b0 :: rest).length:=zo;have c20:Pure prog 58 [.v (.int .i64 20)] (ratQ ((20:Nat):Rat)):=qOf 20 zo;have ch20:=qOf (h - 20) zo;have eh:(h:Int) - 20=((h - 20:Nat):Int):=zo;have s20:=Zfg 20 zo;have sh20:=Zfg (h - 20) zo;have sx0:Sz x0 10:=by have:=sx (b0 :: rest).length;rwa [Zxj (by rw [Zv9];omega),ex0] at this
 have sx1:Sz x1 10:=by have:=sX (b0 :: rest).length;rwa [Zxj (by rw [Zv9];omega),ex1] at this
 have sy0:Sz y0 10:=by have:=sy (b0 :: rest).length;rwa [Zxj (by rw [Zv9];omega),ey0] at this
 have sy1:Sz y1 10:=by have:=sY (b0 :: rest).length;rwa [Zxj (by rw [Zv9];omega),ey1] at this
 have sf:Sz f 22:=by rw [←ef];exact fac_sz h2 h4 (sx1.sub sx0) (sy1.sub sy0)
 clear sxs sys;generalize b0.cx=u0 at *;generalize b0.cy=u1 at *;generalize b0.a=va at *;generalize b0.b=vb at *;generalize b0.c=vc at *;generalize b0.d=vd at *;generalize b0 :: rest=bs at *;clear hxs hys hlen hl s0;refine pI func22 rfl ntmps22 results22 call22 ?_;(focus (refine wkax (w_2 hget0 @Zcp) (w_1 cc0) w_t w_t w_t w_t w_t (w_r 0) ?_;(repeat' first|exact w_t|apply w_l);all_goals intros));refine Zai (ι:=Nat) (λk e m=>k≤bs.length∧e 0=.sl 12 (bs.map BxQ.av)∧e 1=.v (.int .i64 (w:Int))∧e 2=.v (.int .i64 (h:Int))∧e 42=.sl 12 (bs.map BxQ.av)∧e 43=.v (.int .i64 bs.length)∧e 44=.v (.int .i64 (k:Int)) ∧
  ∃g8 g9,e 8=.pbox 8 g8 0∧m 8=some (.box g8 98 (Zh5 (minF u0 ((bs.map BxQ.cx).take k)) (minF u1 ((bs.map BxQ.cy).take k))) false)∧e 9=.pbox 9 g9 0∧m 9=some (.box g9 98 (Zh5 (maxF u0 ((bs.map BxQ.cx).take k)) (maxF u1 ((bs.map BxQ.cy).take k))) false)) (λk=>bs.length - k) 0 zr ?_ ?_
 ·rintro k e m ⟨hk,e0,e1,e2,e42,e43,e44,g8,g9,e8,m8,e9,m9⟩
  by_cases hlt:k < bs.length
  ·have hget:(bs.map BxQ.av).getD k .u=boxQ bs[k].a bs[k].b bs[k].c bs[k].d:=Zit BxQ.av hlt;have hb:=hs bs[k] (Zwq hlt);have c1:=cc bs[k] hb;have hltx:k < (bs.map BxQ.cx).length:=by rw [Zv9];exact hlt
   have hlty:k < (bs.map BxQ.cy).length:=by rw [Zv9];exact hlt
   have t1:minF u0 ((bs.map BxQ.cx).take (k+1))=if bs[k].cx < minF u0 ((bs.map BxQ.cx).take k) then bs[k].cx else minF u0 ((bs.map BxQ.cx).take k):=by rw [Zcl hltx,Zj6,ZAi]
   have t2:minF u1 ((bs.map BxQ.cy).take (k+1))=if bs[k].cy < minF u1 ((bs.map BxQ.cy).take k) then bs[k].cy else minF u1 ((bs.map BxQ.cy).take k):=by rw [Zcl hlty,Zj6,ZAi]
   have t3:maxF u0 ((bs.map BxQ.cx).take (k+1))=if maxF u0 ((bs.map BxQ.cx).take k) < bs[k].cx then bs[k].cx else maxF u0 ((bs.map BxQ.cx).take k):=by rw [Zcl hltx,Zj7,ZAi]
   have t4:maxF u1 ((bs.map BxQ.cy).take (k+1))=if maxF u1 ((bs.map BxQ.cy).take k) < bs[k].cy then bs[k].cy else maxF u1 ((bs.map BxQ.cy).take k):=by rw [Zcl hlty,Zj7,ZAi]
   have d1:=Zo3 _ _ (sx k) (Zii hb) zo zo;have d2:=Zo3 _ _ (sy k) (Zih hb) zo zo;have d3:=Zqm _ _ (sX k) (Zii hb) zo zo;have d4:=Zqm _ _ (sY k) (Zih hb) zo zo;rw [←t1] at d1;rw [←t2] at d2;rw [←t3] at d3;rw [←t4] at d4;clear t1 t2 t3 t4 hb;generalize hp1:minF u0 ((bs.map BxQ.cx).take (k+1))=p1 at *;generalize hp2:minF u1 ((bs.map BxQ.cy).take (k+1))=p2 at *;generalize hp3:maxF u0 ((bs.map BxQ.cx).take (k+1))=p3 at *;generalize hp4:maxF u1 ((bs.map BxQ.cy).take (k+1))=p4 at *;generalize minF u0 ((bs.map BxQ.cx).take k)=o1 at *;generalize minF u1 ((bs.map BxQ.cy).take k)=o2 at *
   generalize maxF u0 ((bs.map BxQ.cx).take k)=o3 at *;generalize maxF u1 ((bs.map BxQ.cy).take k)=o4 at *;generalize bs[k].cx=q1 at *;generalize bs[k].cy=q2 at *;generalize bs[k].a=va at *;generalize bs[k].b=vb at *;generalize bs[k].c=vc at *;generalize bs[k].d=vd at *;simp only [Zh5] at m8 m9;(focus (refine wkax (w_5 e42 e43 e44 hget @Zcp) (w_1 c1) w_t w_t w_t w_t w_t (w_r 0) ?_;(repeat' first|exact w_t|apply w_l);all_goals intros));apply Zal (Za3 [(4,ratQ p1),(9,ratQ p2)]) [11] [] zk zr zk;(focus (simp only [Zwd,Zwi,Nat.reduceAdd];rfl));(focus (refine wkax (w_4 e8 e9 m8 m9) (w_2 d1 d2) w_t w_t w_t w_t w_t (w_r 0) ?_;(repeat' first|exact w_t|apply w_l);all_goals intros))
   apply Zal (Za3 [(4,ratQ p3),(9,ratQ p4)]) [11] [] zk zr zk;(focus (simp only [Zwd,Zwi,Nat.reduceAdd];rfl));(focus (refine wkax (w_5 e8 e9 e44 m8 m9) (w_2 d3 d4) w_t w_t w_t w_t w_t (w_r 0) ?_;(repeat' first|exact w_t|apply w_l);all_goals intros));exact⟨k+1,⟨zo,gW e0,gW e1,gW e2,gW e42,gW e43,gS,g8,g9,gW e8,gW (And.intro hp1 hp2),gW e9,gW (And.intro hp3 hp4)⟩,zo⟩
  ·rw [Zxj (by rw [Zv9];omega),Zxj (by rw [Zv9];omega),ex0,ey0] at m8;rw [Zxj (by rw [Zv9];omega),Zxj (by rw [Zv9];omega),ex1,ey1] at m9;have cS1:=qSub x1 x0 sx1 sx0 zo zo;have cS2:=qSub y1 y0 sy1 sy0 zo zo;have cF:=rFactor (x1 - x0) (y1 - y0) w h (sx1.sub sx0) (sy1.sub sy0) zo h2 h4 h1 h3;rw [ef] at cF;clear ex0 ex1 ey0 ey1 ef sx sX sy sY;generalize hd1:x1 - x0=dx at *;generalize hd2:y1 - y0=dy at *;simp only [Zh5] at m8 m9;(focus (refine wkax (w_3 e42 e43 e44) w_t w_t w_t w_t w_t w_t (w_r 0) ?_;(repeat' first|exact w_t|apply w_l);all_goals intros))
   apply Zal (Za3 [(4,ratQ dx),(9,ratQ dy),(12,ratQ f)]) [] [13] zk zr zk;(focus (simp only [Zwd,Zwi,Nat.reduceAdd];rfl));(focus (refine wkax (w_8 e0 e1 e2 e8 e9 m8 m9 @Zcp) (w_3 cS1 cS2 cF) w_t w_t w_t w_t w_t (w_r 0) ?_;(repeat' first|exact w_t|apply w_l);all_goals intros));refine Zez (Frz.nilOwn (d:=14) 121 2 64 (gC)) ?_;refine Zai (ι:=Nat) (λk e m=>k≤bs.length∧e 2=.v (.int .i64 (h:Int))∧e 86=.sl 12 (bs.map BxQ.av)∧e 87=.v (.int .i64 bs.length)∧e 88=.v (.int .i64 (k:Int)) ∧
    ∃g8 g13 sv,e 8=.pbox 8 g8 0∧m 8=some (.box g8 98 (Zh5 x0 y0) false)∧e 13=.pbox 13 g13 0∧m 13=some (.box g13 41 (Zb4 f) false) ∧
     e 14=.own 121 sv∧m 121=some (.row sv 64 2 ((bs.take k).map (pixA f x0 y0 h)) 0)) (λk=>bs.length - k) 0 zr ?_ ?_
   ·clear e0 e1 e2 e42 e43 e44 e8 m8 e9 m9 hk hlt
    rintro k e m ⟨hk,e2,e86,e87,e88,g8,g13,sv,e8,m8,e13,m13,e14,m121⟩
    by_cases hlt:k < bs.length
    ·have hget:(bs.map BxQ.av).getD k .u=boxQ bs[k].a bs[k].b bs[k].c bs[k].d:=Zit BxQ.av hlt;have hb:=hs bs[k] (Zwq hlt);have c1:=cc bs[k] hb;have hr:=hok bs[k] (Zwq hlt);have sx:=Zii hb;have sy:=Zih hb;have tk:(bs.take (k+1)).map (pixA f x0 y0 h)=(bs.take k).map (pixA f x0 y0 h)++[pixA f x0 y0 h bs[k]]:=by rw [Zcl hlt,Zye];rfl
     have cD1:=qSub bs[k].cx x0 sx sx0 zo zo;have cM1:=qMul f (bs[k].cx - x0) sf (sx.sub sx0) zo zo;have sX:=s20.add (sf.mul (sx.sub sx0));have cA1:Pure prog 57 [ratQ ((20:Nat):Rat),ratQ (f*(bs[k].cx - x0))] (ratQ (pxR f x0 bs[k])):=qAdd ((20:Nat):Rat) (f*(bs[k].cx - x0)) s20 (sf.mul (sx.sub sx0)) zo zo;have sX:Sz (pxR f x0 bs[k]) _:=sX;have rX:=Zqb hr.1;have cW1:=rFloor (pxR f x0 bs[k]) sX zo (rnd (pxR f x0 bs[k])) rX.2 rX.1;have cD2:=qSub bs[k].cy y0 sy sy0 zo zo;have cM2:=qMul f (bs[k].cy - y0) sf (sy.sub sy0) zo zo;have sY:=sh20.sub (sf.mul (sy.sub sy0));have cA3:Pure prog 56 [ratQ ((h - 20:Nat):Rat),ratQ (f*(bs[k].cy - y0))] (ratQ (pyR f y0 h bs[k])):=qSub ((h - 20:Nat):Rat) (f*(bs[k].cy - y0)) sh20 (sf.mul (sy.sub sy0)) zo zo
     have sY:Sz (pyR f y0 h bs[k]) _:=sY;have rY:=Zqb hr.2;have cW2:=rFloor (pyR f y0 h bs[k]) sY zo (rnd (pyR f y0 h bs[k])) rY.2 rY.1;clear hb hr sx sy sX sY rX rY;simp only [pixA] at tk;generalize rnd (pxR f x0 bs[k])=px at *;generalize rnd (pyR f y0 h bs[k])=py at *;generalize pxR f x0 bs[k]=X at *;generalize pyR f y0 h bs[k]=Y at *;generalize f*(bs[k].cx - x0)=m1 at *;generalize f*(bs[k].cy - y0)=mm2 at *;generalize bs[k].cx - x0=r1 at *;generalize bs[k].cy - y0=r2 at *;generalize bs[k].cx=q1 at *;generalize bs[k].cy=q2 at *;generalize bs[k].a=va at *;generalize bs[k].b=vb at *;generalize bs[k].c=vc at *
     generalize bs[k].d=vd at *;generalize ((20:Nat):Rat)=z20 at *;generalize ((h - 20:Nat):Rat)=zh at *;simp only [Zb4,Zh5] at m8 m13;(focus (refine wkax (w_5 e86 e87 e88 hget @Zcp) (w_1 c1) w_t w_t w_t w_t w_t (w_r 0) ?_;(repeat' first|exact w_t|apply w_l);all_goals intros));apply Zal (Za3 [(0,ratQ z20),(6,ratQ r1),(7,ratQ m1),(8,ratQ X)]) [] [18] zk zr zk;(focus (simp only [Zwd,Zwi,Nat.reduceAdd];rfl));(focus (refine wkax (w_4 e8 m8 e13 m13) (w_4 c20 cD1 cM1 cA1) w_t w_t w_t w_t w_t (w_r 0) ?_;(repeat' first|exact w_t|apply w_l);all_goals intros));apply Zal (Za3 [(2,ratQ zh),(8,ratQ r2),(9,ratQ mm2),(10,ratQ Y)]) [] [19] zk zr zk;(focus (simp only [Zwd,Zwi,Nat.reduceAdd];rfl))
     (focus (refine wkax (w_6 eh e2 e8 m8 e13 m13) (w_4 ch20 cD2 cM2 cA3) w_t w_t w_t w_t w_t (w_r 0) ?_;(repeat' first|exact w_t|apply w_l);all_goals intros));apply Zal (Za3 [(2,.v (.int .i64 (px:Int))),(4,.v (.int .i64 (py:Int))),(6,.sl 2 [.agg [.v (.int .i64 (px:Int)),.v (.int .i64 (py:Int))]])]) [7] [121] zk zr zk;(focus (simp only [Zwd,Zwi,Nat.reduceAdd];rfl));(focus (refine wkax (w_3 e88 e14 m121) (w_2 cW1 cW2) w_t w_t w_t w_t w_t (w_r 0) ?_;(repeat' first|exact w_t|apply w_l);all_goals intros));exact⟨k+1,⟨zo,gW e2,gW e86,gW e87,gS,g8,g13,_,gW e8,gW m8,gW e13,gW m13,gC,gW tk⟩,zo⟩
    ·rw [Zxj zo] at m121;(focus (refine wkax (w_4 e87 e88 e14 m121) w_t w_t w_t w_t w_t w_t (w_r 0) ?_;(repeat' first|exact w_t|apply w_l);all_goals intros));simp (disch:=omega) only [go_sem,e14,m121]
   ·exact⟨zo,gW e2,gC,by(simp (disch:=omega) only [go_sem,Zv9]<;>repeat' first|rfl|refine⟨?_,?_⟩),gC,_,_,_,gW e8,by(simp (disch:=omega) only [go_sem,m8,Zh5]<;>repeat' first|rfl|refine⟨?_,?_⟩),gC,by(simp (disch:=omega) only [go_sem,Zb4]<;>repeat' first|rfl|refine⟨?_,?_⟩),gC,gC⟩
 ·exact⟨zo,gC,gC,gC,gC,by(simp (disch:=omega) only [go_sem,Zv9]<;>repeat' first|rfl|refine⟨?_,?_⟩),gC,_,_,gC,by(simp (disch:=omega) only [go_sem,Zh5,Zy6,Zqy]<;>repeat' first|rfl|refine⟨?_,?_⟩),gC,by(simp (disch:=omega) only [go_sem,Zh5,Zy6,Zq0]<;>repeat' first|rfl|refine⟨?_,?_⟩)⟩
structure RBox where
 a:RQ
 b:RQ
 c:RQ
 d:RQ
abbrev RBox.av (x:RBox):AV:=.agg [.v (.bool x.a.s),lim x.a.l,lim x.a.d,.v (.bool x.b.s),lim x.b.l,lim x.b.d,.v (.bool x.c.s),lim x.c.l,lim x.c.d,.v (.bool x.d.s),lim x.d.l,lim x.d.d]
def RBox.lm (x:RBox) (k:Nat):Prop:=x.a.lm k∧x.b.lm k∧x.c.lm k∧x.d.lm k
def iok (lo hi:RQ):Bool:=lo.ok && hi.ok && decide (cmpQ lo.q hi.q≤0)
def RQ.sh (r:RQ):Bool:=r.ok && decide (r.l.length≤4) && decide (r.d.length≤4)
def RBox.iok (x:RBox):Bool:=Go.Proofs.YtaedgaikloifgaaGreatDoor.iok x.a x.b && Go.Proofs.YtaedgaikloifgaaGreatDoor.iok x.c x.d
def RBox.sh (x:RBox):Bool:=x.a.sh && x.b.sh && x.c.sh && x.d.sh
theorem all_at {α:Type} {l:List α} {p:α→Bool} {k:Nat} (h:k < l.length) (hp:p l[k]=false):l.all p=false:=by
 rw [List.all_eq_false];exact⟨l[k],Zwq h,by rw [hp];simp⟩
theorem Zrg {α:Type} {l:List α} {p:α→Bool} {k:Nat} (h:k < l.length) (h1:(l.take k).all p=true) (hp:p l[k]=true):(l.take (k+1)).all p=true:=by
 rw [Zcl h,List.all_append,h1];simp [hp]
theorem vRight (lo hi:RQ) (h1:lo.lm 1100000) (h2:hi.lm 1100000):Pure prog 28 [.agg [.v (.bool lo.s),lim lo.l,lim lo.d,.v (.bool hi.s),lim hi.l,lim hi.d]] (.v (.bool (iok lo hi))):=by
 have c1:=Znd lo.s lo.l lo.d h1.1 h1.2.1 (by have:=h1.2.2.1;omega) (by have:=h1.2.2.2;omega);have c2:=Znd hi.s hi.l hi.d h2.1 h2.2.1 (by have:=h2.2.2.1;omega) (by have:=h2.2.2.2;omega)
 have cc:lo.ok=true→hi.ok=true→Pure prog 68 [lo.av,hi.av] (.v (.int .i64 (cmpQ lo.q hi.q))):=by
  intro k1 k2;obtain⟨e1,s1⟩:=RQ.ok_av (k:=1100000) h1 k1;obtain⟨e2,s2⟩:=RQ.ok_av (k:=1100000) h2 k2;rw [e1,e2];exact qCmp _ _ s1 s2 zo zo
 unfold iok;have e1:RQ.ok ⟨lo.s,lo.l,lo.d⟩=lo.ok:=rfl;have e2:RQ.ok ⟨hi.s,hi.l,hi.d⟩=hi.ok:=rfl;rw [e1] at c1;rw [e2] at c2;generalize lo.ok=v1 at *;generalize hi.ok=v2 at *;cases v1
 ·refine pI func28 rfl ntmps28 results28 call28 ?_;(focus (refine wkad (w_1 @Zwx) (w_1 c1) w_t ?_;(repeat' first|exact w_t|apply w_l);all_goals intros));simp (disch:=omega) only [go_sem,Zwx]
 ·cases v2
  ·refine pI func28 rfl ntmps28 results28 call28 ?_;(focus (refine wkad (w_1 @Zwx) (w_2 c1 c2) w_t ?_;(repeat' first|exact w_t|apply w_l);all_goals intros));simp (disch:=omega) only [go_sem,Zwx]
  ·have cc:=cc rfl rfl;generalize cmpQ lo.q hi.q=s at *;by_cases hs:s≤0
   ·rw [Zv8 hs];refine pI func28 rfl ntmps28 results28 call28 ?_;(focus (refine wkad w_t (w_3 c1 c2 cc) w_t ?_;(repeat' first|exact w_t|apply w_l);all_goals intros));simp (disch:=omega) only [go_sem]
   ·rw [Zv7 hs];refine pI func28 rfl ntmps28 results28 call28 ?_;(focus (refine wkad (w_1 @Zy9) (w_3 c1 c2 cc) w_t ?_;(repeat' first|exact w_t|apply w_l);all_goals intros));simp (disch:=omega) only [go_sem,Zy9]
theorem Zq2 (r:RQ) (h:r.lm 1100000):Pure prog 8 [r.av] (.v (.bool r.sh)):=by
 have c1:=Znd r.s r.l r.d h.1 h.2.1 (by have:=h.2.2.1;omega) (by have:=h.2.2.2;omega);have e1:RQ.ok ⟨r.s,r.l,r.d⟩=r.ok:=rfl;rw [e1] at c1;unfold RQ.sh;have l1:=h.2.2.1;have l2:=h.2.2.2;generalize r.ok=v1 at *;cases v1
 ·refine pI func8 rfl ntmps8 results8 call8 ?_;(focus (refine wkad (w_1 @Zwx) (w_1 c1) w_t ?_;(repeat' first|exact w_t|apply w_l);all_goals intros));simp (disch:=omega) only [go_sem,Zwx]
 ·by_cases h1:r.l.length≤4
  ·rw [Zv8 h1];by_cases h2:r.d.length≤4
   ·rw [Zv8 h2];refine pI func8 rfl ntmps8 results8 call8 ?_;(focus (refine wkad w_t (w_1 c1) w_t ?_;(repeat' first|exact w_t|apply w_l);all_goals intros));simp (disch:=omega) only [go_sem]
   ·rw [Zv7 h2];refine pI func8 rfl ntmps8 results8 call8 ?_;(focus (refine wkad w_t (w_1 c1) w_t ?_;(repeat' first|exact w_t|apply w_l);all_goals intros));simp (disch:=omega) only [go_sem,Zy9]
  ·rw [Zv7 h1];refine pI func8 rfl ntmps8 results8 call8 ?_;(focus (refine wkad w_t (w_1 c1) w_t ?_;(repeat' first|exact w_t|apply w_l);all_goals intros));simp (disch:=omega) only [go_sem,Zy9,Zwx]
theorem bRight (l:List RBox) (h:∀b∈l,b.lm 1100000) (hl:l.length≤1000000000):Pure prog 9 [.sl 12 (l.map RBox.av)] (.v (.bool (l.all RBox.iok))):=by
 refine pI func9 rfl ntmps9 results9 call9 ?_;(focus (refine wkad (w_1 @Zcp) w_t w_t ?_;(repeat' first|exact w_t|apply w_l);all_goals intros));refine Zai (ι:=Nat) (λk e m=>k≤l.length∧e 5=.sl 12 (l.map RBox.av)∧e 6=.v (.int .i64 l.length)∧e 7=.v (.int .i64 (k:Int))∧(l.take k).all RBox.iok=true) (λk=>l.length - k) 0 zr ?_ ?_
 ·rintro k e m ⟨hk,e5,e6,e7,hall⟩
  by_cases hlt:k < l.length
  ·have hget:(l.map RBox.av).getD k .u=RBox.av l[k]:=Zit RBox.av hlt;have hb:=h l[k] (Zwq hlt);have c1:=vRight l[k].a l[k].b hb.1 hb.2.1;have c2:=vRight l[k].c l[k].d hb.2.2.1 hb.2.2.2;have hf:=@all_at _ l RBox.iok k hlt;have ht:=@Zrg _ l RBox.iok k hlt hall;unfold RBox.iok at hf ht;generalize iok l[k].a l[k].b=v1 at *;generalize iok l[k].c l[k].d=v2 at *;cases v1
   ·have hf:=hf rfl;have hf:l.all RBox.iok=false:=hf;(focus (refine wkad (w_5 e5 e6 e7 hget @Zcp) (w_1 c1) w_t ?_;(repeat' first|exact w_t|apply w_l);all_goals intros));simp (disch:=omega) only [go_sem,hf]
   ·cases v2
    ·have hf:=hf rfl;have hf:l.all RBox.iok=false:=hf;(focus (refine wkad (w_5 e5 e6 e7 hget @Zcp) (w_2 c1 c2) w_t ?_;(repeat' first|exact w_t|apply w_l);all_goals intros));simp (disch:=omega) only [go_sem,hf]
    ·have ht:=ht rfl;(focus (refine wkad (w_5 e5 e6 e7 hget @Zcp) (w_2 c1 c2) w_t ?_;(repeat' first|exact w_t|apply w_l);all_goals intros));exact⟨k+1,⟨zo,gW e5,gW e6,gS,ht⟩,zo⟩
  ·rw [Zxj zo] at hall;(focus (refine wkad (w_4 e5 e6 e7 @Zcp) w_t w_t ?_;(repeat' first|exact w_t|apply w_l);all_goals intros));simp (disch:=omega) only [go_sem,hall]
 ·exact⟨zo,gC,gC,gC,by simp⟩
def okB (l:List RBox):Bool:=l.all RBox.sh && decide (l.length≤12) && l.all RBox.iok
theorem lBoxes (l:List RBox) (h:∀b∈l,b.lm 1100000) (hl:l.length≤1000000000):Pure prog 5 [.sl 12 (l.map RBox.av)] (.v (.bool (okB l))):=by
 have cR:=bRight l h hl;unfold okB;refine pI func5 rfl ntmps5 results5 call5 ?_;(focus (refine wkad (w_1 @Zcp) w_t w_t ?_;(repeat' first|exact w_t|apply w_l);all_goals intros));refine Zai (ι:=Nat) (λk e m=>k≤l.length∧e 0=.sl 12 (l.map RBox.av)∧e 5=.sl 12 (l.map RBox.av)∧e 6=.v (.int .i64 l.length)∧e 7=.v (.int .i64 (k:Int))∧(l.take k).all RBox.sh=true) (λk=>l.length - k) 0 zr ?_ ?_
 ·rintro k e m ⟨hk,e0,e5,e6,e7,hall⟩
  by_cases hlt:k < l.length
  ·have hget:(l.map RBox.av).getD k .u=RBox.av l[k]:=Zit RBox.av hlt;have hb:=h l[k] (Zwq hlt);have c1:=Zq2 l[k].a hb.1;have c2:=Zq2 l[k].b hb.2.1;have c3:=Zq2 l[k].c hb.2.2.1;have c4:=Zq2 l[k].d hb.2.2.2;have hf:=@all_at _ l RBox.sh k hlt;have ht:=@Zrg _ l RBox.sh k hlt hall;unfold RBox.sh at hf ht;generalize l[k].a.sh=v1 at *;generalize l[k].b.sh=v2 at *;generalize l[k].c.sh=v3 at *;generalize l[k].d.sh=v4 at *;cases v1
   ·have hf:l.all RBox.sh=false:=hf rfl;(focus (refine wkad (w_5 e5 e6 e7 hget @Zcp) (w_1 c1) w_t ?_;(repeat' first|exact w_t|apply w_l);all_goals intros));simp (disch:=omega) only [go_sem,hf,Zwx]
   ·cases v2
    ·have hf:l.all RBox.sh=false:=hf rfl;(focus (refine wkad (w_5 e5 e6 e7 hget @Zcp) (w_2 c1 c2) w_t ?_;(repeat' first|exact w_t|apply w_l);all_goals intros));simp (disch:=omega) only [go_sem,hf,Zwx]
    ·cases v3
     ·have hf:l.all RBox.sh=false:=hf rfl;(focus (refine wkad (w_5 e5 e6 e7 hget @Zcp) (w_3 c1 c2 c3) w_t ?_;(repeat' first|exact w_t|apply w_l);all_goals intros));simp (disch:=omega) only [go_sem,hf,Zwx]
     ·cases v4
      ·have hf:l.all RBox.sh=false:=hf rfl;(focus (refine wkad (w_5 e5 e6 e7 hget @Zcp) (w_4 c1 c2 c3 c4) w_t ?_;(repeat' first|exact w_t|apply w_l);all_goals intros));simp (disch:=omega) only [go_sem,hf,Zwx]
      ·have ht:=ht rfl;(focus (refine wkad (w_5 e5 e6 e7 hget @Zcp) (w_4 c1 c2 c3 c4) w_t ?_;(repeat' first|exact w_t|apply w_l);all_goals intros));exact⟨k+1,⟨zo,gW e0,gW e5,gW e6,gS,ht⟩,zo⟩
  ·rw [Zxj zo] at hall;by_cases h12:l.length≤12
   ·rw [Zv8 h12];(focus (refine wkad (w_5 e0 e5 e6 e7 @Zcp) (w_1 cR) w_t ?_;(repeat' first|exact w_t|apply w_l);all_goals intros));simp (disch:=omega) only [go_sem,hall]
   ·rw [Zv7 h12];(focus (refine wkad (w_5 e0 e5 e6 e7 @Zcp) (w_1 cR) w_t ?_;(repeat' first|exact w_t|apply w_l);all_goals intros));simp (disch:=omega) only [go_sem,hall,Zy9,Zwx]
 ·exact⟨zo,gC,gC,by(simp (disch:=omega) only [go_sem,Zv9]<;>repeat' first|rfl|refine⟨?_,?_⟩),gC,by simp⟩
end Go.Proofs.YtaedgaikloifgaaGreatDoor
