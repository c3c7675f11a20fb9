/- Contracts of the functions that the law reaches, and the rules by which they are walked. They say what a call hands back for every input within the bounds that each names; no other condition. -/
import Derived.Test.YtkefeinbjbeidaaGreatDoorBt5
import Derived.Lib.Builder
import Derived.Lib.UnsafeStr
import Derived.Laws.Externs
import Derived.Shelf.RegionOpenPlain
set_option linter.unusedSimpArgs false
set_option linter.unusedVariables false
set_option maxRecDepth 20000
set_option maxHeartbeats 16000000
namespace Go.Proofs.YtkefeinbjbeidaaGreatDoor
open Go Go.RowKit Go.Pg Go.Proofs.Tryz
attribute [-bool_to_prop] Bool.and_eq_decide Bool.or_eq_decide Bool.decide_beq_decide decide_eq_decide
inductive Vk:AV→AV→Prop
 | refl (a:AV):Vk a a
 | nil (m:Nat):Vk (.v (.slice none 0 0)) (.sl m [])
 | agg (xs ys:List AV) (hl:xs.length=ys.length) (h:∀(j:Nat) (a b:AV),xs[j]?=some a→ys[j]?=some b→Vk a b):Vk (.agg xs) (.agg ys)
 | tup (xs ys:List AV) (hl:xs.length=ys.length) (h:∀(j:Nat) (a b:AV),xs[j]?=some a→ys[j]?=some b→Vk a b):Vk (.tup xs) (.tup ys)
 | sl (m:Nat) (es es':List AV) (hl:es.length=es'.length) (hm:∀e∈es',e.cells.length=m) (hok:∀e∈es',e.ok=true) (hf:(flat es).length=(flat es').length) (h:∀(j:Nat) (a b:AV),(flat es)[j]?=some a→(flat es')[j]?=some b→Vk a b):Vk (.sl m es) (.sl m es')
theorem Vk.rd {w:World} {imm:Imm} {a b:AV} (h:Vk a b):∀{x:Value},Rd w imm a x→Rd w imm b x:=by
 induction h with
 | refl a=>exact λh=>h
 | nil m =>
   intro x h;cases h;exact .sl m [] none 0 (λ_=>undef) zs zs (ZBw _) zs zs (by simp [flat])
 | agg xs ys hl _ ih =>
   intro x h
   cases h with
   | agg _ vs hl2 hr =>
     refine .agg ys vs zo λj b x h1 h2=>?_;have hj:j < xs.length:=by rw [hl];exact(List.getElem?_eq_some_iff.1 h1).1
     exact ih j xs[j] b (ZB6 hj) h1 (hr j xs[j] x (ZB6 hj) h2)
 | tup xs ys hl _ ih =>
   intro x h
   cases h with
   | tup _ vs hl2 hr =>
     refine .tup ys vs zo λj b x h1 h2=>?_;have hj:j < xs.length:=by rw [hl];exact(List.getElem?_eq_some_iff.1 h1).1
     exact ih j xs[j] b (ZB6 hj) h1 (hr j xs[j] x (ZB6 hj) h2)
 | sl m es es' hl hm hok hf _ ih =>
   intro x h;obtain⟨A,cap,f,rfl,hcap,_,_,hn,hA,hr⟩:=(Rs.pure h).sl_inv;rw [hl];refine .sl m es' A cap f hm hok zo (λh=>hn zo) (λj hj=>hA j (by rw [hl];exact hj)) λj b hb=>?_;have hj:j < (flat es).length:=by rw [hf];exact(List.getElem?_eq_some_iff.1 hb).1
   exact ih j _ b (ZB6 hj) hb (hr j _ (ZB6 hj))
def VkL (xs ys:List AV):Prop:=xs.length=ys.length∧∀(j:Nat) (a b:AV),xs[j]?=some a→ys[j]?=some b→Vk a b
theorem VkL.nil:VkL [] []:=⟨rfl,λj a b h=>by simp at h⟩
theorem VkL.cons {a b:AV} {xs ys:List AV} (h:Vk a b) (t:VkL xs ys):VkL (a :: xs) (b :: ys):=by
 refine⟨by simp [t.1],λj x y h1 h2=>?_⟩
 cases j with
 | zero=>simp at h1 h2;subst h1;subst h2;exact h
 | succ j=>exact t.2 j x y (by simpa using h1) (by simpa using h2)
theorem VkL.refl (xs:List AV):VkL xs xs:=⟨rfl,λj a b h1 h2=>by rw [h1] at h2;cases h2;exact .refl _⟩
theorem Vk.aggL {xs ys:List AV} (h:VkL xs ys):Vk (.agg xs) (.agg ys):=.agg xs ys h.1 h.2
theorem Vk.tupL {xs ys:List AV} (h:VkL xs ys):Vk (.tup xs) (.tup ys):=.tup xs ys h.1 h.2
theorem Vk.slL {m:Nat} {es es':List AV} (hl:es.length=es'.length) (hm:∀e∈es',e.cells.length=m) (hok:∀e∈es',e.ok=true) (h:VkL (flat es) (flat es')):Vk (.sl m es) (.sl m es'):=.sl m es es' hl hm hok h.1 h.2
theorem Zyk {P:Program} {f:FuncId} {args args':List AV} {r r':AV} (h:Pure P f args' r) (ha:VkL args args') (hw:Vk r r'):Pure P f args r':=by
 refine⟨h.1,λw imm vs h1 h2 h3=>(h.2 w imm vs h1 (by rw [←ha.1];exact h2) λj b x e1 e2=>?_).mono λe w' he=>?_⟩
 ·have hj:j < args.length:=by rw [ha.1];exact(List.getElem?_eq_some_iff.1 e1).1
  exact(ha.2 j args[j] b (ZB6 hj) e1).rd (h3 j args[j] x (ZB6 hj) e2)
 ·obtain⟨x,imm',e1,e2,e3⟩:=he;exact⟨x,imm',e1,hw.rd e2,e3⟩
theorem Zir {P:Program} {f:FuncId} {args args':List AV} {r:AV} (h:Pure P f args' r) (ha:VkL args args'):Pure P f args r:=Zyk h ha (.refl _)
theorem Zhk {P:Program} {f:FuncId} {args:List AV} {r r':AV} (h:Pure P f args r) (hw:Vk r r'):Pure P f args r':=Zyk h (.refl _) hw
theorem Zh3 (n m:Nat):(toL (n*m)).length≤(toL n).length+(toL m).length:=by
 rw [Zae,ZDb];exact Nat.mul_lt_mul'' (Zae.1 (ZBw _)) (Zae.1 (ZBw _))
theorem Zzk (n m:Nat):(toL (n+m)).length≤max ((toL n).length) ((toL m).length)+1:=by
 rw [Zae,ZC5];have h1:=Zae.1 (Nat.le_max_left ((toL n).length) ((toL m).length));have h2:=Zae.1 (Nat.le_max_right ((toL n).length) ((toL m).length));generalize 65536 ^ max ((toL n).length) ((toL m).length)=p at *;omega
theorem Zd4 {n m:Nat} (h:n≤m):(toL n).length≤(toL m).length:=Za7 h
theorem Zed:(toL 1).length=1:=by rw [Ze3 zo];simp [Zax]
theorem Zqz:toL 1=[1]:=by rw [Ze3 zo];simp [Zax]
abbrev ratQ (q:Rat):AV:=.agg [.v (.bool (decide (q.num < 0))),lim (toL q.num.natAbs),lim (toL q.den)]
abbrev ratA (s:Bool) (n d:Nat):AV:=.agg [.v (.bool s),lim (toL n),lim (toL d)]
def Sz (q:Rat) (k:Nat):Prop:=(toL q.num.natAbs).length≤k∧(toL q.den).length≤k
theorem Sz.mono {q:Rat} {k j:Nat} (h:Sz q k) (hk:k≤j):Sz q j:=⟨ZB1 h.1 hk,ZB1 h.2 hk⟩
theorem Zro (z:Int) (m:Nat) (hm:m≠0):ratQ (mkRat z m)=.agg [.v (.bool (decide (z < 0))),lim (toL (z.natAbs/Nat.gcd z.natAbs m)),lim (toL (m/Nat.gcd z.natAbs m))]:=by
 unfold ratQ;rw [Rat.num_mkRat,Rat.den_mkRat,ZBu hm,ZBu hm,ZF7 m z.natAbs];have hg:0 < Nat.gcd z.natAbs m:=ZHj _ zo;have hd:((Nat.gcd z.natAbs m:Nat):Int) ∣ z:=Int.ofNat_dvd_left.2 (Nat.gcd_dvd_left _ _);generalize Nat.gcd z.natAbs m=g at *;obtain⟨k,hk⟩:=hd;have hgz:(g:Int)≠0:=zo;have e1:z/(g:Int)=k:=by rw [hk,ZHk _ hgz]
 have e2:z.natAbs/g=k.natAbs:=by rw [hk,ZEq,ZEy,Nat.mul_div_cancel_left _ hg]
 have e3:(z < 0)↔(k < 0):=by
  rw [hk];constructor
  ·intro h;rcases (by omega:k < 0∨0≤k) with h1 | h1
   ·exact h1
   ·have:=Int.mul_nonneg (show(0:Int)≤g by omega) h1;omega
  ·intro h;exact Int.mul_neg_of_pos_of_neg zo h
 rw [e1,e2];simp only [e3]
theorem Sz.mk {z:Int} {m k:Nat} (hz:(toL z.natAbs).length≤k) (hm:(toL m).length≤k) (hk:1≤k):Sz (mkRat z m) k:=by
 unfold Sz;rw [Rat.num_mkRat,Rat.den_mkRat];by_cases h:m=0
 ·rw [ZBv h,ZBv h];refine⟨?_,by rw [Zed];exact hk⟩;show(toL 0).length≤k;rw [Zax];simp
 ·rw [ZBu h,ZBu h];refine⟨ZB1 (Zd4 ?_) hz,ZB1 (Zd4 (ZF6 _ _)) hm⟩;have hd:((Nat.gcd m z.natAbs:Nat):Int) ∣ z:=Int.ofNat_dvd_left.2 (Nat.gcd_dvd_right _ _);have hg:0 < Nat.gcd m z.natAbs:=Nat.gcd_pos_of_pos_left _ zo;generalize Nat.gcd m z.natAbs=g at *;obtain⟨c,hc⟩:=hd;rw [hc,ZHk _ zo,ZEq,ZEy];exact ZHo _ hg
theorem Zgf (a b:Int):(a+b).natAbs≤a.natAbs+b.natAbs:=zo
theorem Sz.pos {q:Rat} {k:Nat} (h:Sz q k):1≤k:=by
 have h1:=Za6.2 q.den_pos;have h2:=h.2;omega
theorem Zhn (a b:Rat) {j k:Nat} (ha:Sz a j) (hb:Sz b k):(toL (a.num*b.den).natAbs).length≤j+k:=by
 rw [ZEq,ZEy];exact ZB1 (Zh3 _ _) (ZC8 ha.1 hb.2)
theorem Sz.mul {a b:Rat} {j k:Nat} (ha:Sz a j) (hb:Sz b k):Sz (a*b) (j+k):=by
 rw [Rat.mul_def'];refine Sz.mk ?_ (ZB1 (Zh3 _ _) (ZC8 ha.2 hb.2)) (by have:=ha.pos;omega);rw [ZEq];exact ZB1 (Zh3 _ _) (ZC8 ha.1 hb.1)
theorem Sz.add {a b:Rat} {j k:Nat} (ha:Sz a j) (hb:Sz b k):Sz (a+b) (j+k+1):=by
 rw [Rat.add_def'];refine Sz.mk ?_ (ZB1 (Zh3 _ _) (by have:=ha.2;have:=hb.2;omega)) zo;have h1:=Zhn a b ha hb;have h2:=Zhn b a hb ha;have h3:=Zd4 (Zgf (a.num*b.den) (b.num*a.den));have h4:=Zzk (a.num*b.den).natAbs (b.num*a.den).natAbs;omega
theorem Sz.neg {a:Rat} {j:Nat} (ha:Sz a j):Sz (-a) j:=by
 unfold Sz;rw [Rat.neg_num,Rat.neg_den,ZG0];exact ha
theorem Sz.sub {a b:Rat} {j k:Nat} (ha:Sz a j) (hb:Sz b k):Sz (a - b) (j+k+1):=by
 rw [Rat.sub_eq_add_neg];exact ha.add hb.neg
theorem Sz.inv {a:Rat} {j:Nat} (ha:Sz a j):Sz (a⁻¹) j:=by
 unfold Sz;rw [Rat.num_inv,Rat.den_inv];by_cases h:a.num=0
 ·rw [ZBv h,h];refine⟨?_,by rw [Zed];exact ha.pos⟩;have:(Int.sign 0*(a.den:Int)).natAbs=0:=by simp
  rw [this];show(toL 0).length≤j;rw [Zax];simp
 ·rw [ZBu h];refine⟨?_,ha.1⟩;rw [ZEq,ZEy,Int.natAbs_sign_of_ne_zero h,ZD1];exact ha.2
theorem Sz.int {z:Int} {k:Nat} (h:(toL z.natAbs).length≤k) (hk:1≤k):Sz (z:Rat) k:=⟨h,by show(toL 1).length≤k;rw [Zed];exact hk⟩
def cmpQ (a b:Rat):Int:=if a < b then -1 else if b < a then 1 else 0
theorem cmpQ_z (a b:Rat):cmpQ a b=cmpZ (a.num*b.den) (b.num*a.den):=by
 unfold cmpQ cmpZ;simp only [Rat.lt_iff]
theorem iMul (z w:Int) (hz:(toL z.natAbs).length≤100000000) (hw:(toL w.natAbs).length≤100000000):Pure prog 94 [intZ z,intZ w] (intZ (z*w)):=by
 have:=Zuo (decide (z < 0)) (decide (w < 0)) z.natAbs w.natAbs hz hw
 rwa [Zc8,Zc8] at this
theorem iMulN (z:Int) (d:Nat) (hz:(toL z.natAbs).length≤100000000) (hw:(toL d).length≤100000000):Pure prog 94 [intZ z,intA false d] (intZ (z*d)):=by
 have:=Zuo (decide (z < 0)) false z.natAbs d hz hw;rw [Zc8] at this;exact this
theorem iAddA (z:Int) (t:Bool) (m:Nat) (hz:(toL z.natAbs).length≤100000000) (hm:(toL m).length≤100000000):Pure prog 160 [intZ z,intA t m] (intZ (z+zI t m)):=by
 have:=intAdd (decide (z < 0)) t z.natAbs m hz hm
 rwa [Zc8] at this
theorem iAdd0 (t:Bool) (m:Nat) (hm:(toL m).length≤100000000):Pure prog 160 [.agg [.v (.bool false),.v (.slice none 0 0)],intA t m] (intZ (zI t m)):=by
 have h:=iAddA 0 t m (by show(toL 0).length≤_;rw [Zax];simp) hm;rw [ZB9] at h;refine Zir h (.cons (.aggL (.cons (.refl _) (.cons ?_ .nil))) (.cons (.refl _) .nil));show Vk _ (.sl 1 (u16s (toL 0)));rw [Zax];exact .nil 1
theorem iCmp (z w:Int) (hz:(toL z.natAbs).length≤100000000) (hw:(toL w.natAbs).length≤100000000):Pure prog 247 [intZ z,intZ w] (.v (.int .i64 (cmpZ z w))):=by
 have:=intCmp (decide (z < 0)) (decide (w < 0)) z.natAbs w.natAbs hz hw
 rwa [Zc8,Zc8] at this
theorem iSign (z:Int) (hz:(toL z.natAbs).length≤100000000):Pure prog 54 [intZ z] (.v (.int .i64 z.sign)):=by
 have:=Zsj (decide (z < 0)) z.natAbs hz
 rwa [Zc8] at this
def sumC (z w:Int):Nat→List AV
 | 0=>[.v (.bool false),.v (.slice none 0 0)]
 | 1=>[.v (.bool (decide (z < 0))),lim (toL z.natAbs)]
 | _=>[.v (.bool (decide (z+w < 0))),lim (toL (z+w).natAbs)]
theorem Zw3 (x:Nat) (l:List Nat):u16s (x :: l)=AV.v (.int .u16 (x:Int)) :: u16s l:=rfl
theorem Zxc:szOf prog 192=some 2:=by kernel_rfl
theorem zShape:Zao prog 192=some (.agg #[.int .i64 0,.int .u16 0]):=by kernel_rfl
theorem ZAm:eqTy prog 192=true:=by kernel_rfl
theorem Zr4 (n:Nat) (h:n < 65536):Sz (n:Rat) 1:=⟨Zae.2 (by show((n:Int)).natAbs < _;simpa using h),Zae.2 (by show 1 < 65536 ^ 1;decide)⟩
attribute [go_sem] zShape underlying193
attribute [local go_sem] Zav Zaw Zas Zxc ZAm
theorem intOf (n:Nat) (hn:n < 9223372036854775808):Pure prog 67 [.v (.int .i64 (n:Int))] (intA false n):=by
 have l4:(toL n).length≤4:=Zae.2 zo;have hm:=Zji false n zo;rw [Zg4,ZCz] at hm;refine pI func67 rfl ntmps67 results67 call67 ?_
 (refine wkvp w_t (w_2 (natOf n zo) hm) (w_s ?_);intros)
 simp (disch:=omega) only [go_sem]
theorem Zrn:Pure prog 68 [] (lim (toL 1)):=by
 rw [Zqz];refine pI func68 rfl ntmps68 results68 call68 ?_
 (refine wkvp w_t w_t (w_s ?_);intros)
 exact gC
theorem Zke (n:Nat):Pure prog 98 [lim (toL n)] (intA false n):=by
 refine pI func98 rfl ntmps98 results98 call98 ?_
 (refine wkvp w_t w_t (w_s ?_);intros)
 simp (disch:=omega) only [go_sem]
theorem Zla (n:Nat) (hn:(toL n).length≤100000000):Pure prog 96 [lim (toL n)] (.v (.bool (decide (n=1)))):=by
 by_cases h0:n=0
 ·subst h0;rw [Zax];refine pI func96 rfl ntmps96 results96 call96 ?_
  (refine wkvp w_t w_t (w_s ?_);intros)
  simp (disch:=omega) only [go_sem,ZCa]
 ·have hd:decide (n=1)=(((((toL (n/65536)).length+1:Nat):Int) == 1) && (((n%65536:Nat):Int) == 1)):=by
   have hp:=@Za6 (n/65536);rw [ZCk];simp only [ZCs,ZCm,ZDw];omega
  rw [Ze3 zo,hd];refine pI func96 rfl ntmps96 results96 call96 ?_
  (refine wkvp (w_1 @Zw3) w_t (w_s ?_);intros)
  simp (disch:=omega) only [go_sem]
theorem Zk9 (s:Bool) (n d:Nat) (h2:(toL d).length≤10000000) (h0:d≠0):Pure prog 53 [ratA s n d] (.tup [intA s n,lim (toL d)]):=by
 have hb:Zoq d≠0:=λe=>h0 (Zht.1 e);refine pI func53 rfl ntmps53 results53 call53 ?_;(focus (refine wkad w_t (w_1 (nBits d zo)) (w_1 (w_d 3 [] [] [2])) ?_;(repeat' first|exact w_t|apply w_l);all_goals intros));simp (disch:=omega) only [go_sem]
theorem Zgc (q:Rat) {k:Nat} (h:Sz q k) (hk:k≤10000000):Pure prog 53 [ratQ q] (.tup [intZ q.num,lim (toL q.den)]) :=
 Zk9 _ _ _ (ZB1 h.2 hk) q.den_nz
theorem Zfx (s:Bool) (n m:Nat) (hn:(toL n).length≤10000000) (hm:(toL m).length≤10000000) (h0:m≠0):Pure prog 93 [intA s n,lim (toL m)] (ratQ (mkRat (zI s n) m)):=by
 have cn:=intNorm s n zo;have hz:=Zd7 s n;rw [Zro _ _ h0];generalize zI s n=z at *;subst hz;have hmp:=Za6.2 (ZDl h0);have g0:Nat.gcd z.natAbs m≠0:=Nat.ne_of_gt (ZHj _ zo);have hg:(toL (Nat.gcd z.natAbs m)).length≤10000000:=ZB1 (Zd4 (Nat.le_of_dvd zo (Nat.gcd_dvd_right _ _))) hm;have cg:=nGcd z.natAbs m zo zo;have c1:=Zla m zo;have c2:=Zla (Nat.gcd z.natAbs m) zo;by_cases hz0:z.natAbs=0
 ·have hzz:z=0:=zo;subst hzz;have l0:(toL 0).length=0:=by rw [Zax];rfl
  have n0:Int.natAbs 0=0:=rfl;have hd:decide ((0:Int) < 0)=false:=rfl;have cn:Pure prog 157 [intA s 0] (.agg [.v (.bool false),lim (toL 0)]):=cn;rw [n0] at hn ⊢;rw [Nat.gcd_zero_left,Nat.zero_div,Nat.div_self zo,hd];refine Zhk (r:=.agg [.v (.bool false),.v (.slice none 0 0),lim (toL 1)]) ?_ (.aggL (.cons (.refl _) (.cons ?_ (VkL.refl _))))
  ·refine pI func93 rfl ntmps93 results93 call93 ?_
   (refine wkvp (w_1 l0) (w_3 (Zpx m zo) cn Zrn) (w_s ?_);intros)
   simp (disch:=omega) only [go_sem]
  ·show Vk _ (.sl 1 (u16s (toL 0)));rw [Zax];exact .nil 1
 ·have hzp:=Za6.2 (ZDl hz0);by_cases hm1:m=1
  ·subst hm1;rw [Nat.gcd_one_right,ZFm,ZFm];refine pI func93 rfl ntmps93 results93 call93 ?_
   (refine wkvp w_t (w_3 (Zpx 1 zo) cn c1) (w_s ?_);intros)
   simp (disch:=omega) only [go_sem]
  ·have d1:decide (m=1)=false:=ZB3 hm1;rw [d1] at c1;by_cases hg1:Nat.gcd z.natAbs m=1
   ·have d2:decide (Nat.gcd z.natAbs m=1)=true:=ZB4 hg1;rw [d2] at c2;rw [hg1,ZFm,ZFm];refine pI func93 rfl ntmps93 results93 call93 ?_
    (refine wkvp w_t (w_5 (Zpx m zo) cn c1 cg c2) (w_s ?_);intros)
    simp (disch:=omega) only [go_sem]
   ·have d2:decide (Nat.gcd z.natAbs m=1)=false:=ZB3 hg1;rw [d2] at c2;refine pI func93 rfl ntmps93 results93 call93 ?_
    (refine wkad w_t (w_7 (Zpx m zo) cn c1 cg c2 (Zy7 z.natAbs (Nat.gcd z.natAbs m) zo zo g0) (Zy7 m (Nat.gcd z.natAbs m) zo zo g0)) w_t (w_s ?_);intros)
    simp (disch:=omega) only [go_sem]
theorem Zdd (q:Rat) {k:Nat} (h:Sz q k) (hk:k≤10000000):Pure prog 18 [ratQ q] (.v (.int .i64 q.num.sign)):=by
 have h1:=h.1;refine pI func18 rfl ntmps18 results18 call18 ?_
 (refine wkvp w_t (w_2 (Zgc q h hk) (iSign q.num zo)) (w_s ?_);intros)
 simp (disch:=omega) only [go_sem]
theorem Zya (s t:Bool) (n m:Nat) (hn:(toL n).length≤100000000) (hm:(toL m).length≤100000000):Pure prog 97 [.sl 2 [intA s n,intA t m]] (intZ (zI s n+zI t m)):=by
 have cz:=iAdd0 s n hn;have ca:=iAddA (zI s n) t m (by rw [Zd7];exact hn) hm;generalize zI s n=z at *;generalize zI t m=w at *;refine pI func97 rfl ntmps97 results97 call97 ?_
 (refine wkvp w_t w_t (w_s ?_);intros)
 refine Zad (ι:=Nat) (λk e mm=>k≤2∧e 6=.sl 2 [intA s n,intA t m]∧e 7=.v (.int .i64 2)∧e 8=.v (.int .i64 (k:Int))∧∃g2 g,e 2=.pbox 2 g2 0∧mm 2=some (.box g2 26 [.v (.bool false),.v (.slice none 0 0)] false)∧e 3=.pbox 3 g 0∧mm 3=some (.box g 26 (sumC z w k) false)) (λk=>2 - k) 0 zr ?_ ?_
 ·rintro k e mm ⟨hk,e6,e7,e8,g2,g,e2,m2,e3,m3⟩
  match k,hk with
  | 0,_ =>
    simp only [sumC] at m3
    (refine wkvp (w_8 e6 e7 e8 e2 m2 e3 m3 @ZDp) (w_1 cz) (w_s ?_);intros)
    exact⟨1,⟨zo,gW e6,gW e7,gW e8,g2,g,gW e2,gW m2,gW e3,by(simp (disch:=omega) only [go_sem,m3,sumC]<;>repeat' first|rfl|refine⟨?_,?_⟩)⟩,zo⟩
  | 1,_ =>
    simp only [sumC] at m3
    (refine wkvp (w_8 e6 e7 e8 e2 m2 e3 m3 @Int.natCast_one) (w_1 ca) (w_s ?_);intros)
    exact⟨2,⟨zo,gW e6,gW e7,gW e8,g2,g,gW e2,gW m2,gW e3,by(simp (disch:=omega) only [go_sem,m3,sumC]<;>repeat' first|rfl|refine⟨?_,?_⟩)⟩,zo⟩
  | 2,_ =>
    simp only [sumC] at m3
    (refine wkvp (w_7 e6 e7 e8 e2 m2 e3 m3) w_t (w_s ?_);intros)
    simp (disch:=omega) only [go_sem,e2]
 ·exact⟨zo,gC,gC,gC,_,_,gC,gC,gC,by(simp (disch:=omega) only [go_sem,sumC]<;>repeat' first|rfl|refine⟨?_,?_⟩)⟩
theorem ratSum (z w:Int) (hz:(toL z.natAbs).length≤100000000) (hw:(toL w.natAbs).length≤100000000):Pure prog 97 [.sl 2 [intZ z,intZ w]] (intZ (z+w)):=by
 have:=Zya (decide (z < 0)) (decide (w < 0)) z.natAbs w.natAbs hz hw
 rwa [Zc8,Zc8] at this
theorem Zpg (n:Nat) (hn:n < 9223372036854775808):Pure prog 27 [.v (.int .i64 (n:Int))] (ratQ (n:Rat)):=by
 refine pI func27 rfl ntmps27 results27 call27 ?_;have hd:decide ((n:Rat).num < 0)=false:=ZB3 (by show ¬((n:Int) < 0);omega);have hn':(n:Rat).num.natAbs=n:=ZEy n;unfold ratQ;rw [hd,hn',Rat.den_natCast]
 (refine wkvp w_t (w_2 (intOf n hn) Zrn) (w_s ?_);intros)
 simp (disch:=omega) only [go_sem]
theorem Zyb (a b:Rat) {j k:Nat} (ha:Sz a j) (hb:Sz b k) (hj:j≤2000000) (hk:k≤2000000):Pure prog 51 [ratQ a,ratQ b] (ratQ (a*b)):=by
 obtain⟨a1,a2⟩:=id ha;obtain⟨b1,b2⟩:=id hb;have l1:(toL (a.num*b.num).natAbs).length≤j+k:=by rw [ZEq];exact ZB1 (Zh3 _ _) zo
 have l2:(toL (a.den*b.den)).length≤j+k:=ZB1 (Zh3 _ _) zo;have c:=Zfx (decide (a.num*b.num < 0)) (a.num*b.num).natAbs (a.den*b.den) zo zo (ZE3 a.den_nz b.den_nz);rw [Zc8,←Rat.mul_def'] at c;refine pI func51 rfl ntmps51 results51 call51 ?_
 (refine wkvp w_t (w_5 (Zgc a ha zo) (Zgc b hb zo) (iMul a.num b.num zo zo) (nMul a.den b.den zo zo) c) (w_s ?_);intros)
 simp (disch:=omega) only [go_sem]
theorem Zyc (s t:Bool) (n d m c:Nat) {j k:Nat} (a1:(toL n).length≤j) (a2:(toL d).length≤j) (b1:(toL m).length≤k) (b2:(toL c).length≤k) (hd0:d≠0) (hc0:c≠0) (hj:j≤2000000) (hk:k≤2000000) :
 Pure prog 52 [ratA s n d,ratA t m c] (ratQ (mkRat (zI s n) d+mkRat (zI t m) c)):=by
 have oa:=Zla d zo;have ob:=Zla c zo;have l2:(toL (d*c)).length≤j+k:=ZB1 (Zh3 _ _) zo;have z1:=Zd7 s n;have w1:=Zd7 t m;have pa:=Zk9 s n d zo hd0;have pb:=Zk9 t m c zo hc0;have eq:mkRat (zI s n) d+mkRat (zI t m) c=mkRat (zI s n*c+zI t m*d) (d*c):=Rat.mkRat_add_mkRat _ _ hd0 hc0;have cs0:=Zya s t n m zo zo;have cm1:Pure prog 94 [intA s n,intA false c] (intZ (zI s n*c)):=Zuo s false n c zo zo;have cm2:Pure prog 94 [intA t m,intA false d] (intZ (zI t m*d)):=Zuo t false m d zo zo;rw [eq]
 have x1:(toL (zI s n*c).natAbs).length≤j+k:=by
  rw [ZEq,ZEy,z1];exact ZB1 (Zh3 _ _) zo
 have x2:(toL (zI t m*d).natAbs).length≤j+k:=by
  rw [ZEq,ZEy,w1];exact ZB1 (Zh3 _ _) zo
 by_cases h1:d=1∧c=1
 ·obtain⟨h1,h2⟩:=h1
  have l1:(toL (zI s n+zI t m).natAbs).length≤j+k+1:=by
   have h3:=Zd4 (Zgf (zI s n) (zI t m));have h4:=Zzk (zI s n).natAbs (zI t m).natAbs;rw [z1,w1] at h3 h4;omega
  have c:=Zfx (decide (zI s n+zI t m < 0)) (zI s n+zI t m).natAbs 1 zo (by rw [Zed];omega) zo;rw [Zc8] at c;subst h1;subst h2;rw [ZB4 rfl] at oa ob;have e1:zI s n*((1:Nat):Int)+zI t m*((1:Nat):Int)=zI s n+zI t m:=zo;rw [e1,ZEl];refine pI func52 rfl ntmps52 results52 call52 ?_
  (refine wkax w_t (w_5 pa pb oa ob c) w_t (w_1 cs0) w_t w_t w_y (w_r 0) (w_s ?_);intros)
  simp (disch:=omega) only [go_sem]
 ·have l1:(toL (zI s n*c+zI t m*d).natAbs).length≤j+k+1:=by
   have h3:=Zd4 (Zgf (zI s n*c) (zI t m*d));have h4:=Zzk (zI s n*c).natAbs (zI t m*d).natAbs;omega
  have cr:=Zfx (decide (zI s n*c+zI t m*d < 0)) (zI s n*c+zI t m*d).natAbs (d*c) zo zo (ZE3 hd0 hc0);rw [Zc8] at cr;have cs:=ratSum (zI s n*c) (zI t m*d) zo zo;have cw1:=Zke c;have cw2:=Zke d;have cm:=nMul d c zo zo;generalize zI s n*(c:Int)=y1 at *;generalize zI t m*(d:Int)=y2 at *;by_cases h2:d=1
  ·have h3:c≠1:=λh=>h1 ⟨h2,h⟩;rw [ZB4 h2] at oa;rw [ZB3 h3] at ob;refine pI func52 rfl ntmps52 results52 call52 ?_
   (refine wkax w_t (w_11 pa pb oa ob cw1 cm1 cw2 cm2 cs cm cr) (w_1 (w_d 5 [(2,intA false c),(3,intZ y1),(6,intA false d),(7,intZ y2),(8,.sl 2 [intZ y1,intZ y2]),(9,intZ (y1+y2)),(12,lim (toL (d*c))),(13,ratQ (mkRat (y1+y2) (d*c)))] [] [4])) w_t w_t w_t w_y (w_r 0) (w_s ?_);intros)
   simp (disch:=omega) only [go_sem]
  ·rw [ZB3 h2] at oa;refine pI func52 rfl ntmps52 results52 call52 ?_
   (refine wkax w_t (w_10 pa pb oa cw1 cm1 cw2 cm2 cs cm cr) (w_1 (w_d 5 [(2,intA false c),(3,intZ y1),(6,intA false d),(7,intZ y2),(8,.sl 2 [intZ y1,intZ y2]),(9,intZ (y1+y2)),(12,lim (toL (d*c))),(13,ratQ (mkRat (y1+y2) (d*c)))] [] [4])) w_t w_t w_t w_y (w_r 0) (w_s ?_);intros)
   simp (disch:=omega) only [go_sem]
theorem Ztt (a b:Rat) {j k:Nat} (ha:Sz a j) (hb:Sz b k) (hj:j≤2000000) (hk:k≤2000000):Pure prog 52 [ratQ a,ratQ b] (ratQ (a+b)):=by
 have:=Zyc (decide (a.num < 0)) (decide (b.num < 0)) a.num.natAbs a.den b.num.natAbs b.den ha.1 ha.2 hb.1 hb.2 a.den_nz b.den_nz hj hk
 rwa [Zc8,Zc8,ZFt,ZFt] at this
theorem ratSub (a b:Rat) {j k:Nat} (ha:Sz a j) (hb:Sz b k) (hj:j≤2000000) (hk:k≤2000000):Pure prog 115 [ratQ a,ratQ b] (ratQ (a - b)):=by
 have c:=Zyc (decide (a.num < 0)) (!decide (b.num < 0)) a.num.natAbs a.den b.num.natAbs b.den ha.1 ha.2 hb.1 hb.2 a.den_nz b.den_nz hj hk
 have e:zI (!decide (b.num < 0)) b.num.natAbs=-b.num:=by
  have:=Zc8 b.num;unfold zI at *;by_cases h:b.num < 0
  ·simp only [ZB4 h,ZFz,ZB8,ZCx];omega
  ·simp only [ZB3 h,ZF2,ZC0];omega
 have e2:mkRat (-b.num) b.den=-b:=by rw [←Rat.neg_mkRat,ZFt]
 rw [Zc8,e,ZFt,e2,←Rat.sub_eq_add_neg] at c;refine pI func115 rfl ntmps115 results115 call115 ?_
 (refine wkvp w_t (w_1 c) (w_s ?_);intros)
 simp (disch:=omega) only [go_sem]
theorem ratCmp (a b:Rat) {j k:Nat} (ha:Sz a j) (hb:Sz b k) (hj:j≤2000000) (hk:k≤2000000):Pure prog 192 [ratQ a,ratQ b] (.v (.int .i64 (cmpQ a b))):=by
 obtain⟨a1,a2⟩:=id ha;obtain⟨b1,b2⟩:=id hb;have sa:=Zdd a ha zo;have sb:=Zdd b hb zo;have pa:=Zgc a ha zo;have pb:=Zgc b hb zo;have cm1:=iMulN a.num b.den zo zo;have cm2:=iMulN b.num a.den zo zo;have x1:(toL (a.num*b.den).natAbs).length≤j+k:=Zhn a b ha hb;have x2:(toL (b.num*a.den).natAbs).length≤k+j:=Zhn b a hb ha;have cc:=iCmp (a.num*b.den) (b.num*a.den) zo zo;have cw1:=Zke b.den;have cw2:=Zke a.den;have dp:(0:Int) < a.den:=by have:=a.den_pos;omega
 have ep:(0:Int) < b.den:=by have:=b.den_pos;omega
 rw [cmpQ_z]
 have sg:∀z:Int,(z.sign=1∧0 < z)∨(z.sign=0∧z=0)∨(z.sign=-1∧z < 0):=by
  intro z;rcases ZFs z 0 with h | h | h
  ·exact .inr (.inr ⟨ZFr h,h⟩)
  ·exact .inr (.inl ⟨by rw [h];rfl,h⟩)
  ·exact .inl ⟨ZHa h,h⟩
 have mp:∀z w:Int,0 < z→0 < w→0 < z*w:=λz w=>Int.mul_pos;have mz:∀w:Int,0*w=0:=λw=>Int.zero_mul w;have mn:∀z w:Int,z < 0→0 < w→z*w < 0:=λz w=>Int.mul_neg_of_neg_of_pos
 have sA:(a.num.sign=1→0 < a.num*b.den)∧(a.num.sign=0→a.num*b.den=0)∧(a.num.sign=-1→a.num*b.den < 0):=by
  rcases sg a.num with⟨h,h'⟩ | ⟨h,h'⟩ | ⟨h,h'⟩
  ·exact⟨λ_=>mp _ _ h' ep,λh2=>zo,λh2=>zo⟩
  ·exact⟨λh2=>zo,λ_=>(by rw [h'];exact mz _),λh2=>zo⟩
  ·exact⟨λh2=>zo,λh2=>zo,λ_=>mn _ _ h' ep⟩
 have sB:(b.num.sign=1→0 < b.num*a.den)∧(b.num.sign=0→b.num*a.den=0)∧(b.num.sign=-1→b.num*a.den < 0):=by
  rcases sg b.num with⟨h,h'⟩ | ⟨h,h'⟩ | ⟨h,h'⟩
  ·exact⟨λ_=>mp _ _ h' dp,λh2=>zo,λh2=>zo⟩
  ·exact⟨λh2=>zo,λ_=>(by rw [h'];exact mz _),λh2=>zo⟩
  ·exact⟨λh2=>zo,λh2=>zo,λ_=>mn _ _ h' dp⟩
 have ga:=sg a.num;have gb:=sg b.num;generalize a.num*(b.den:Int)=y1 at *;generalize b.num*(a.den:Int)=y2 at *;rcases ZFs a.num.sign b.num.sign with h | h | h
 ·have hc:cmpZ y1 y2=-1:=by
   unfold cmpZ;rw [ZBv zo]
  rw [hc];clear ga gb sA sB;refine pI func192 rfl ntmps192 results192 call192 ?_
  (refine wkad w_t (w_2 sa sb) (w_1 (w_d 1 [(1,.v (.int .i64 a.num.sign)),(3,.v (.int .i64 b.num.sign))] [] [])) (w_s ?_);intros)
  simp (disch:=omega) only [go_sem]
 ·refine pI func192 rfl ntmps192 results192 call192 ?_
  (refine wkvp w_t (w_2 sa sb) (w_s ?_);intros)
  apply Zcp (Zfc [(1,.v (.int .i64 a.num.sign)),(3,.v (.int .i64 b.num.sign))]) [] [] zk zr zk;(focus (simp only [ZCd,ZCq,Nat.reduceAdd];rfl))
  (refine wkax w_t (w_4 sa sb pa pb) w_t w_t w_t w_t w_t (w_r 0) (w_s ?_);intros)
  apply Zcp (Zfc [(2,intA false b.den),(3,intZ y1),(6,intA false a.den),(7,intZ y2),(8,.v (.int .i64 (cmpZ y1 y2)))]) [] [] zk zr zk;(focus (simp only [ZCd,ZCq,Nat.reduceAdd];rfl))
  (refine wkax w_t (w_5 cw1 cm1 cw2 cm2 cc) w_t w_t w_t w_t w_t (w_r 0) (w_s ?_);intros)
  simp (disch:=omega) only [go_sem]
 ·have hc:cmpZ y1 y2=1:=by
   unfold cmpZ;rw [ZBu zo,ZBv zo]
  rw [hc];clear ga gb sA sB;refine pI func192 rfl ntmps192 results192 call192 ?_
  (refine wkad w_t (w_2 sa sb) (w_1 (w_d 1 [(1,.v (.int .i64 a.num.sign)),(3,.v (.int .i64 b.num.sign))] [] [])) (w_s ?_);intros)
  simp (disch:=omega) only [go_sem]
theorem Zho {z:Int} (h:z < 0):intZ z=intA true z.natAbs:=by unfold intZ;rw [ZB4 h]
theorem Zgh {z:Int} (h:¬z < 0):intZ z=intA false z.natAbs:=by unfold intZ;rw [ZB3 h]
theorem zOf' (s:Bool) (n:Nat) (hn:(toL n).length≤100000000):Pure prog 136 [.v (.bool s),lim (toL n)] (intZ (zI s n)):=by
 rw [Zg4];have hp:=@Za6 n;cases s
 ·refine pI func136 rfl ntmps136 results136 call136 ?_
  (refine wkvp w_t (w_1 (Zyg n hn)) (w_s ?_);intros)
  simp (disch:=omega) only [go_sem,ZCz]
 ·by_cases h:0 < n
  ·have h2:=hp.2 h;refine pI func136 rfl ntmps136 results136 call136 ?_
   (refine wkvp w_t (w_1 (Zyg n hn)) (w_s ?_);intros)
   simp (disch:=omega) only [go_sem,ZB4 h]
  ·have h2:¬0 < (toL n).length:=λh3=>h (hp.1 h3);refine pI func136 rfl ntmps136 results136 call136 ?_
   (refine wkvp w_t (w_1 (Zyg n hn)) (w_s ?_);intros)
   simp (disch:=omega) only [go_sem,ZB3 h]
theorem zNorm (s:Bool) (n:Nat) (hn:(toL n).length≤100000000):Pure prog 135 [intA s n] (intZ (zI s n)):=by
 refine pI func135 rfl ntmps135 results135 call135 ?_
 (refine wkvp w_t (w_1 (zOf' s n hn)) (w_s ?_);intros)
 simp (disch:=omega) only [go_sem]
theorem Zs7 (z:Int) (hz:(toL z.natAbs).length≤100000000):Pure prog 135 [intZ z] (intZ z):=by
 have:=zNorm (decide (z < 0)) z.natAbs hz
 rwa [Zc8] at this
theorem zOf (n:Nat) (hn:n < 9223372036854775808):Pure prog 78 [.v (.int .i64 (n:Int))] (intA false n):=by
 have l4:(toL n).length≤4:=Zae.2 zo;have hm:=zOf' false n zo;rw [Zg4,ZCz] at hm;refine pI func78 rfl ntmps78 results78 call78 ?_
 (refine wkvp w_t (w_2 (Zk7 n zo) hm) (w_s ?_);intros)
 simp (disch:=omega) only [go_sem]
theorem zNeg (s:Bool) (n:Nat) (hn:(toL n).length≤100000000):Pure prog 189 [intA s n] (intZ (-zI s n)):=by
 have e:-zI s n=zI (!s) n:=by cases s<;>simp [zI]
 rw [e];refine pI func189 rfl ntmps189 results189 call189 ?_
 (refine wkvp w_t (w_1 (zOf' (!s) n hn)) (w_s ?_);intros)
 simp (disch:=omega) only [go_sem]
theorem zSign (z:Int) (hz:(toL z.natAbs).length≤100000000):Pure prog 129 [intZ z] (.v (.int .i64 z.sign)):=by
 have cn:=Zs7 z hz;have hp:=@Za6 z.natAbs;rcases ZFs z 0 with h | h | h
 ·rw [ZFr h];have h2:=hp.2 zo;rw [Zho h] at cn ⊢;refine pI func129 rfl ntmps129 results129 call129 ?_
  (refine wkvp w_t (w_1 cn) (w_s ?_);intros)
  simp (disch:=omega) only [go_sem]
 ·have h2:¬0 < (toL z.natAbs).length:=λh3=>by have:=hp.1 h3;omega
  have hs:z.sign=0:=by rw [h];rfl
  rw [hs];rw [Zgh zo] at cn ⊢;refine pI func129 rfl ntmps129 results129 call129 ?_
  (refine wkvp w_t (w_1 cn) (w_s ?_);intros)
  simp (disch:=omega) only [go_sem]
 ·rw [ZHa h];have h2:=hp.2 zo;rw [Zgh zo] at cn ⊢;refine pI func129 rfl ntmps129 results129 call129 ?_
  (refine wkvp w_t (w_1 cn) (w_s ?_);intros)
  simp (disch:=omega) only [go_sem]
theorem zCmp (z w:Int) (hz:(toL z.natAbs).length≤100000000) (hw:(toL w.natAbs).length≤100000000):Pure prog 138 [intZ z,intZ w] (.v (.int .i64 (cmpZ z w))):=by
 have c1:=Zs7 z hz;have c2:=Zs7 w hw;have ca:=rCmp z.natAbs w.natAbs hz hw;have cb:=rCmp w.natAbs z.natAbs hw hz;by_cases h1:z < 0
 ·by_cases h2:w < 0
  ·have hc:cmpZ z w=cmpN w.natAbs z.natAbs:=by
    unfold cmpZ cmpN;have e1:(z < w)↔(w.natAbs < z.natAbs):=zo;have e2:(w < z)↔(z.natAbs < w.natAbs):=zo;simp only [e1,e2]
   rw [hc];rw [Zho h1] at c1 ⊢;rw [Zho h2] at c2 ⊢;refine pI func138 rfl ntmps138 results138 call138 ?_
   (refine wkad w_t (w_3 c1 c2 cb) (w_1 (w_d 1 [(1,.agg [.v (.bool true),lim (toL z.natAbs)]),(3,.agg [.v (.bool true),lim (toL w.natAbs)])] [4,5] [])) (w_s ?_);intros)
   simp (disch:=omega) only [go_sem]
  ·have hc:cmpZ z w=-1:=ZBv zo;rw [hc];rw [Zho h1] at c1 ⊢;rw [Zgh h2] at c2 ⊢;refine pI func138 rfl ntmps138 results138 call138 ?_
   (refine wkad w_t (w_2 c1 c2) (w_1 (w_d 1 [(1,.agg [.v (.bool true),lim (toL z.natAbs)]),(3,.agg [.v (.bool false),lim (toL w.natAbs)])] [4,5] [])) (w_s ?_);intros)
   simp (disch:=omega) only [go_sem]
 ·by_cases h2:w < 0
  ·have hc:cmpZ z w=1:=by unfold cmpZ;rw [ZBu zo,ZBv zo]
   rw [hc];rw [Zgh h1] at c1 ⊢;rw [Zho h2] at c2 ⊢;refine pI func138 rfl ntmps138 results138 call138 ?_
   (refine wkad w_t (w_2 c1 c2) (w_1 (w_d 1 [(1,.agg [.v (.bool false),lim (toL z.natAbs)]),(3,.agg [.v (.bool true),lim (toL w.natAbs)])] [4,5] [])) (w_s ?_);intros)
   simp (disch:=omega) only [go_sem]
  ·have hc:cmpZ z w=cmpN z.natAbs w.natAbs:=by
    unfold cmpZ cmpN;have e1:(z < w)↔(z.natAbs < w.natAbs):=zo;have e2:(w < z)↔(w.natAbs < z.natAbs):=zo;simp only [e1,e2]
   rw [hc];rw [Zgh h1] at c1 ⊢;rw [Zgh h2] at c2 ⊢;refine pI func138 rfl ntmps138 results138 call138 ?_
   (refine wkad w_t (w_3 c1 c2 ca) (w_1 (w_d 1 [(1,.agg [.v (.bool false),lim (toL z.natAbs)]),(3,.agg [.v (.bool false),lim (toL w.natAbs)])] [4,5] [])) (w_s ?_);intros)
   simp (disch:=omega) only [go_sem]
theorem zMul (s t:Bool) (n m:Nat) (hn:(toL n).length≤40000000) (hm:(toL m).length≤40000000):Pure prog 131 [intA s n,intA t m] (intZ (zI s n*zI t m)):=by
 have e:zI s n*zI t m=zI (s != t) (n*m):=by cases s<;>cases t<;>simp [zI,Int.mul_neg,Int.neg_mul]
 have lm:=Zh3 n m;have hne:(!(s == t))=(s != t):=rfl;rw [e];refine pI func131 rfl ntmps131 results131 call131 ?_
 (refine wkad (w_1 hne) (w_2 (rMul n m zo zo) (zOf' (s != t) (n*m) zo)) (w_1 (w_d 1 [(9,lim (toL (n*m))),(10,intZ (zI (s != t) (n*m)))] [11] [])) (w_s ?_);intros)
 simp (disch:=omega) only [go_sem]
theorem gcd_le_l (n m:Nat) (h:m≠0):Nat.gcd n m≠0:=Nat.ne_of_gt (ZHj _ (ZDl h))
theorem intZ_div (s:Bool) (n g:Nat) (hg:g ∣ n) (h0:g≠0):intZ (zI s (n/g))=.agg [.v (.bool (decide (zI s n < 0))),lim (toL (n/g))]:=by
 rw [Zg4,zI_lt]
 have:(0 < n/g)↔(0 < n):=by
  obtain⟨k,rfl⟩:=hg;rw [Nat.mul_div_cancel_left _ (ZDl h0)];constructor
  ·intro h;exact Nat.mul_pos (ZDl h0) h
  ·intro h;exact ZDl λe=>by rw [e] at h;simp at h
 simp only [this]
theorem qOver (s:Bool) (n m:Nat) (hn:(toL n).length≤10000000) (hm:(toL m).length≤10000000) (h0:m≠0):Pure prog 77 [intA s n,lim (toL m)] (ratQ (mkRat (zI s n) m)):=by
 rw [Zro _ _ h0,Zd7];have g0:=gcd_le_l n m h0;have hgd:=Nat.gcd_dvd_left n m;have hmp:=Za6.2 (ZDl h0);have hg:(toL (Nat.gcd n m)).length≤10000000:=ZB1 (Zd4 (Nat.le_of_dvd zo (Nat.gcd_dvd_right _ _))) hm;have hq:(toL (n/Nat.gcd n m)).length≤10000000:=ZB1 (Zd4 (ZF6 _ _)) hn;have cg:=rGcd n m zo zo;have c1:=Zrp n (Nat.gcd n m) zo zo g0;have c2:=Zrp m (Nat.gcd n m) zo zo g0;have cn:=zNorm s (n/Nat.gcd n m) zo;rw [intZ_div s n _ hgd g0] at cn;refine pI func77 rfl ntmps77 results77 call77 ?_
 (refine wkvp w_t (w_5 (Zyg m zo) cg c1 c2 cn) (w_s ?_);intros)
 simp (disch:=omega) only [go_sem]
theorem qNorm (q:Rat) {k:Nat} (h:Sz q k) (hk:k≤10000000):Pure prog 130 [ratQ q] (ratQ q):=by
 have c:=qOver (decide (q.num < 0)) q.num.natAbs q.den (ZB1 h.1 hk) (ZB1 h.2 hk) q.den_nz;rw [Zc8,ZFt] at c;refine pI func130 rfl ntmps130 results130 call130 ?_
 (refine wkvp w_t (w_1 c) (w_s ?_);intros)
 simp (disch:=omega) only [go_sem]
theorem qWhole (n:Nat):Pure prog 139 [lim (toL n)] (intA false n):=by
 refine pI func139 rfl ntmps139 results139 call139 ?_
 (refine wkvp w_t w_t (w_s ?_);intros)
 simp (disch:=omega) only [go_sem]
theorem qMake (z w:Int) (hz:(toL z.natAbs).length≤10000000) (hw:(toL w.natAbs).length≤10000000) (h0:w≠0):Pure prog 108 [intZ z,intZ w] (.tup [ratQ (Rat.divInt z w),.v (.int .i64 0)]):=by
 have cs:=zSign w zo;have hs:w.sign≠0:=λh=>h0 (Int.sign_eq_zero_iff_zero.1 h);rcases (by omega:w < 0∨0 < w) with h | h
 ·have e:Rat.divInt z w=mkRat (-z) w.natAbs:=by
   have hw1:w=-((w.natAbs:Nat):Int):=zo;rw [show Rat.divInt z w=Rat.divInt z (-((w.natAbs:Nat):Int)) by rw [←hw1],Rat.divInt_neg',Rat.divInt_ofNat]
  have cn:=zNeg (decide (z < 0)) z.natAbs zo;have c:=qOver (decide (-z < 0)) (-z).natAbs w.natAbs (by rw [ZG0];omega) hw zo;rw [Zc8] at c cn;rw [←e] at c;generalize -z=y at *;generalize Rat.divInt z w=q at *;rw [Zho h] at cs ⊢;refine pI func108 rfl ntmps108 results108 call108 ?_
  (refine wkvp w_t (w_3 cs cn c) (w_s ?_);intros)
  simp (disch:=omega) only [go_sem]
 ·have e:Rat.divInt z w=mkRat z w.natAbs:=by
   have hw1:w=((w.natAbs:Nat):Int):=zo;rw [show Rat.divInt z w=Rat.divInt z ((w.natAbs:Nat):Int) by rw [←hw1],Rat.divInt_ofNat]
  have c:=qOver (decide (z < 0)) z.natAbs w.natAbs hz hw zo;rw [Zc8,←e] at c;generalize Rat.divInt z w=q at *;rw [Zgh (by omega:¬w < 0)] at cs ⊢;refine pI func108 rfl ntmps108 results108 call108 ?_
  (refine wkvp w_t (w_2 cs c) (w_s ?_);intros)
  simp (disch:=omega) only [go_sem]
theorem qOf (n:Nat) (hn:n < 9223372036854775808):Pure prog 39 [.v (.int .i64 (n:Int))] (ratQ (n:Rat)):=by
 have l4:(toL n).length≤4:=Zae.2 zo;have c:=qOver false n 1 zo (by rw [Zed];omega) zo
 have e:mkRat (zI false n) 1=(n:Rat):=by
  have:=ZFt (n:Rat);exact this
 rw [e] at c;refine pI func39 rfl ntmps39 results39 call39 ?_
 (refine wkvp w_t (w_3 (zOf n hn) (Zk7 1 zo) c) (w_s ?_);intros)
 simp (disch:=omega) only [go_sem]
theorem qCmp (a b:Rat) {j k:Nat} (ha:Sz a j) (hb:Sz b k) (hj:j≤2000000) (hk:k≤2000000):Pure prog 82 [ratQ a,ratQ b] (.v (.int .i64 (cmpQ a b))):=by
 obtain⟨a1,a2⟩:=id ha;obtain⟨b1,b2⟩:=id hb;have na:=qNorm a ha zo;have nb:=qNorm b hb zo;have cm1:=zMul (decide (a.num < 0)) false a.num.natAbs b.den zo zo;have cm2:=zMul (decide (b.num < 0)) false b.num.natAbs a.den zo zo;rw [Zc8] at cm1 cm2;have cm1:Pure prog 131 [intZ a.num,intA false b.den] (intZ (a.num*b.den)):=cm1;have cm2:Pure prog 131 [intZ b.num,intA false a.den] (intZ (b.num*a.den)):=cm2;have x1:(toL (a.num*b.den).natAbs).length≤j+k:=Zhn a b ha hb;have x2:(toL (b.num*a.den).natAbs).length≤k+j:=Zhn b a hb ha;have cc:=zCmp (a.num*b.den) (b.num*a.den) zo zo;rw [cmpQ_z]
 have cw1:=qWhole b.den;have cw2:=qWhole a.den;generalize a.num*(b.den:Int)=y1 at *;generalize b.num*(a.den:Int)=y2 at *;refine pI func82 rfl ntmps82 results82 call82 ?_
 (refine wkvp w_t w_t (w_s ?_);intros)
 apply Zcp (Zfc [(1,ratQ a),(3,ratQ b)]) [4,5] [] zk zr zk;(focus (simp only [ZCd,ZCq,Nat.reduceAdd];rfl))
 (refine wkax w_t (w_2 na nb) w_t w_t w_t w_t w_t (w_r 0) (w_s ?_);intros)
 apply Zcp (Zfc [(4,intA false b.den),(5,intZ y1),(10,intA false a.den),(11,intZ y2),(12,.v (.int .i64 (cmpZ y1 y2)))]) [] [] zk zr zk;(focus (simp only [ZCd,ZCq,Nat.reduceAdd];rfl))
 (refine wkax w_t (w_5 cw1 cm1 cw2 cm2 cc) w_t w_t w_t w_t w_t (w_r 0) (w_s ?_);intros)
 simp (disch:=omega) only [go_sem]
theorem qFrac (n m:Nat) (hn:n < 9223372036854775808) (hm:m < 9223372036854775808) (h0:m≠0):Pure prog 59 [.v (.int .i64 (n:Int)),.v (.int .i64 (m:Int))] (ratQ (mkRat n m)):=by
 have l4:(toL n).length≤4:=Zae.2 zo;have m4:(toL m).length≤4:=Zae.2 zo;have c:=qMake (n:Int) (m:Int) (by rw [ZEy];omega) (by rw [ZEy];omega) zo;rw [Rat.divInt_ofNat] at c
 have e1:intZ (n:Int)=intA false n:=by
  have:=Zg4 false n
  rwa [ZCz] at this
 have e2:intZ (m:Int)=intA false m:=by
  have:=Zg4 false m
  rwa [ZCz] at this
 rw [e1,e2] at c;generalize mkRat (n:Int) m=q at *;refine pI func59 rfl ntmps59 results59 call59 ?_
 (refine wkvp w_t (w_3 (zOf n hn) (zOf m hm) c) (w_s ?_);intros)
 simp (disch:=omega) only [go_sem]
theorem szPt:szOf prog 87=some 6:=by kernel_rfl
theorem zPt:Zao prog 87=some (.agg #[.bool false,.slice none 0 0,.slice none 0 0,.bool false,.slice none 0 0,.slice none 0 0]):=by kernel_rfl
abbrev iv (n:Int):AV:=.v (.int .i64 n)
abbrev strA (s:ByteArray):AV:=.v (.string s)
abbrev ivs (l:List Int):AV:=.sl 1 (l.map iv)
abbrev Vt:=Int × Int × Int
abbrev Vt.av (v:Vt):AV:=.agg [iv v.1,iv v.2.1,iv v.2.2]
theorem Zqc {α:Type} {f:α→AV} {l:List α} {j:Nat} {d:α} (h:j < l.length):(l.map f).getD j .u=f (l.getD j d):=by
 rw [ZCb,ZC4,ZB6 h,ZCb,ZB6 h];rfl
theorem Zkk {α:Type} {l:List α} {j:Nat} {d:α} (h:j < l.length):l.getD j d∈l:=by
 rw [ZCb,ZB6 h];exact ZB7 h
theorem Zam {α:Type} (f:α→AV) {l:List α} {k:Nat} (h:k < l.length):(l.map f).getD k .u=f l[k]:=by
 rw [ZCb,ZC4,ZB6 h];rfl
theorem Zah:szOf prog 91=some 4:=by kernel_rfl
theorem Zaq:Zao prog 91=some (.agg #[.int .i64 0,.int .i64 0,.int .i64 0,.int .i64 0]):=by kernel_rfl
theorem Zai:eqTy prog 91=true:=by kernel_rfl
theorem Zxd:szOf prog 183=some 3:=by kernel_rfl
theorem zCor:Zao prog 183=some (.agg #[.int .i64 0,.int .i64 0,.int .i64 0]):=by kernel_rfl
theorem szC3:szOf prog 182=some 3:=by kernel_rfl
theorem zC3:Zao prog 182=some (.agg #[.int .i64 0,.int .i64 0,.int .i64 0]):=by kernel_rfl
theorem Zbu:szOf prog 35=some 1:=by kernel_rfl
theorem zErr:Zao prog 35=some (.int .i64 0):=by kernel_rfl
theorem Za8:szOf prog 9=some 1:=by kernel_rfl
theorem Zbx:Zem prog 9=some 16:=by kernel_rfl
theorem zStr:Zao prog 9=some (.string ByteArray.empty):=by kernel_rfl
theorem szU8:szOf prog 5=some 1:=by kernel_rfl
theorem byU8:Zem prog 5=some 1:=by kernel_rfl
theorem zU8:Zao prog 5=some (.int .u8 0):=by kernel_rfl
theorem Zq5:szOf prog 259=some 3:=by kernel_rfl
theorem Zs0:Zem prog 259=some 24:=by kernel_rfl
theorem zVar:Zao prog 259=some (.agg #[.int .i64 0,.int .i64 0,.int .i64 0]):=by kernel_rfl
theorem Zgs:szOf prog 105=some 2:=by kernel_rfl
theorem Zju:Zao prog 105=some (.agg #[.slice none 0 0,.slice none 0 0]):=by kernel_rfl
theorem Zch:szOf prog 42=some 2:=by kernel_rfl
theorem zFig:Zao prog 42=some (.agg #[.slice none 0 0,.slice none 0 0]):=by kernel_rfl
theorem byPt:Zem prog 87=some 112:=by kernel_rfl
theorem szVec:szOf prog 186=some 6:=by kernel_rfl
theorem zVec:Zao prog 186=some (.agg #[.bool false,.slice none 0 0,.slice none 0 0,.bool false,.slice none 0 0,.slice none 0 0]):=by kernel_rfl
theorem Zgr:szOf prog 215=some 4:=by kernel_rfl
theorem Zu6:Zem prog 215=some 80:=by kernel_rfl
theorem Zkp:Zao prog 215=some (.agg #[.bool false,.slice none 0 0,.slice none 0 0,.slice none 0 0]):=by kernel_rfl
theorem Zh7:szOf prog 150=some 2:=by kernel_rfl
theorem Zij:Zem prog 150=some 48:=by kernel_rfl
theorem Zkr:Zao prog 150=some (.agg #[.slice none 0 0,.slice none 0 0]):=by kernel_rfl
theorem Zbe:szOf prog 81=some 6:=by kernel_rfl
theorem Zbg:Zem prog 81=some 104:=by kernel_rfl
theorem Zce:Zao prog 81=some (.agg #[.int .i64 0,.string ByteArray.empty,.slice none 0 0,.bool false,.slice none 0 0,.slice none 0 0]):=by kernel_rfl
theorem Zbs:szOf prog 30=some 5:=by kernel_rfl
theorem Zbt:Zem prog 30=some 88:=by kernel_rfl
theorem Zcy:Zao prog 30=some (.agg #[.int .i64 0,.slice none 0 0,.bool false,.slice none 0 0,.slice none 0 0]):=by kernel_rfl
theorem Zkw:szOf prog 147=some 2:=by kernel_rfl
theorem Zl1:Zem prog 147=some 48:=by kernel_rfl
theorem Zqv:Zao prog 147=some (.agg #[.slice none 0 0,.slice none 0 0]):=by kernel_rfl
theorem Zkx:szOf prog 145=some 3:=by kernel_rfl
theorem Zl2:Zem prog 145=some 56:=by kernel_rfl
theorem Zqw:Zao prog 145=some (.agg #[.slice none 0 0,.slice none 0 0,.int .i64 0]):=by kernel_rfl
theorem Zgm:szOf prog 109=some 1:=by kernel_rfl
theorem Zg8:Zem prog 109=some 24:=by kernel_rfl
theorem Zj7:Zao prog 109=some (.slice none 0 0):=by kernel_rfl
theorem Zth:szOf prog 213=some 1:=by kernel_rfl
theorem Zu7:Zem prog 213=some 24:=by kernel_rfl
theorem zMono:Zao prog 213=some (.slice none 0 0):=by kernel_rfl
theorem Zcg:szOf prog 22=some 1:=by kernel_rfl
theorem zSlI:Zao prog 22=some (.slice none 0 0):=by kernel_rfl
theorem Zcf:szOf prog 39=some 1:=by kernel_rfl
theorem zSlS:Zao prog 39=some (.slice none 0 0):=by kernel_rfl
theorem Zcz:szOf prog 40=some 1:=by kernel_rfl
theorem zSlF:Zao prog 40=some (.slice none 0 0):=by kernel_rfl
theorem Zq7:szOf prog 102=some 1:=by kernel_rfl
theorem zSlC:Zao prog 102=some (.slice none 0 0):=by kernel_rfl
theorem Zq6:szOf prog 103=some 1:=by kernel_rfl
theorem zSlV:Zao prog 103=some (.slice none 0 0):=by kernel_rfl
theorem Zh6:szOf prog 65=some 1:=by kernel_rfl
theorem Zkq:Zao prog 65=some (.slice none 0 0):=by kernel_rfl
attribute [go_sem] underlying91 underlying183 underlying182 underlying22 zCor szC3 zC3 zErr
attribute [local go_sem] Zah Zaq Zxd Zbu Zai Bool.and_self
structure Qt where
 k:Int
 a:Int
 b:Int
 c:Int
 deriving DecidableEq
abbrev Qt.av (q:Qt):AV:=.agg [iv q.k,iv q.a,iv q.b,iv q.c]
abbrev Qt.zero:Qt:=⟨0,0,0,0⟩
def Qt.ok (q:Qt):Bool:=decide ((q.k=3∧0≤q.a∧q.a < 64∧q.b=0∧q.c=0)∨((q.k=1∨q.k=2)∧(0≤q.a∧q.a < 40)∧(0≤q.b∧q.b < 40)∧(0≤q.c∧q.c < 40)))
theorem quOf (k a b c:Int):Pure prog 152 [Qt.av ⟨k,a,b,c⟩] (.agg [iv a,iv b,iv c]):=by
 refine pI func152 rfl ntmps152 results152 call152 ?_
 (refine wkvp w_t w_t (w_s ?_);intros)
 simp (disch:=omega) only [go_sem]
theorem Zlc (k a b c:Int):Pure prog 151 [Qt.av ⟨k,a,b,c⟩] (.v (.bool (Qt.ok ⟨k,a,b,c⟩))):=by
 have cf:=quOf k a b c;refine pI func151 rfl ntmps151 results151 call151 ?_
 (repeat' (first|(with_reducible first|refine stp ?_|apply gx1|apply gx2|apply gx3|apply gx4|apply gx5|apply gx6|apply gx7|refine gw0 ((id (α:=_) cf)) ?_ ?_)|(with_reducible refine Zcm ?_;intro _)|((with_reducible refine gE ?_);(try simp (disch:=omega) only [go_sem,ZB4,ZB3,ZBv,ZBu,Int.reduceAdd,Int.reduceSub,Int.reduceToNat,ZB9])<;>first|rfl|omega)|with_reducible refine Zak zd ?_|((with_reducible first|apply Zev|apply Zex);all_goals (intro hc;(try simp only [bool_to_prop] at hc);try (exfalso;omega)))|((with_reducible apply Ztu 4);(focus rfl))))
 (all_goals (try simp (disch:=omega) only [go_sem,Qt.ok,ZB4,ZB3,ZBv,ZBu,Int.reduceAdd,Int.reduceSub,Int.reduceToNat,ZB9]));(all_goals first|done|rfl|(congr 2;first|done|omega|(rw [ZCk];simp only [bool_to_prop,ZB8,ZCt,ZCu,ZCv,ZCw];omega))|skip)
theorem Znl (a:Int):Pure prog 251 [iv a] (.v (.bool (decide (0≤a∧a < 40)))):=by
 refine pI func251 rfl ntmps251 results251 call251 ?_;exact wklp w_t w_t w_t (w_r 0) w_z
theorem Zxx (k a b c:Int):Pure prog 199 [Qt.av ⟨k,a,b,c⟩] (.v (.bool (Qt.ok ⟨k,a,b,c⟩))):=by
 have ca:=Znl a;have cb:=Znl b;have cc:=Znl c;refine pI func199 rfl ntmps199 results199 call199 ?_;(focus (refine wkap w_t (w_3 ca cb cc) (w_r 0) ?_;(repeat' first|exact w_t|apply w_l);all_goals intros))
 (all_goals (try simp (disch:=omega) only [go_sem,Qt.ok,ZB4,ZB3,ZBv,ZBu,Int.reduceAdd,Int.reduceSub,Int.reduceToNat,ZB9]));(all_goals first|done|rfl|(congr 2;first|done|omega|(rw [ZCk];simp only [bool_to_prop,ZB8,ZCt,ZCu,ZCv,ZCw];omega))|skip)
def Zek (a b c:Int):Qt × Int :=
 if a=b∨b=c∨a=c then (Qt.zero,0)
 else if a < b then (if b < c then (⟨1,a,b,c⟩,1) else if a < c then (⟨1,a,c,b⟩,-1) else (⟨1,c,a,b⟩,1))
 else (if a < c then (⟨1,b,a,c⟩,-1) else if b < c then (⟨1,b,c,a⟩,1) else (⟨1,c,b,a⟩,-1))
def Zfp (a b c:Int):Qt × Int :=
 if a=b∨b=c then (Qt.zero,0)
 else if a=c∧b < a then (⟨2,b,a,b⟩,1)
 else if c < a then (⟨2,c,b,a⟩,1) else (⟨2,a,b,c⟩,1)
def Qt.norm (q:Qt):Qt × Int:=if q.ok=true then (if q.k=1 then Zek q.a q.b q.c else if q.k=2 then Zfp q.a q.b q.c else (q,1)) else (Qt.zero,0)
theorem Zvx (a b c:Int):Pure prog 224 [.agg [iv a,iv b,iv c]] (.tup [(Zek a b c).1.av,iv (Zek a b c).2]):=by
 refine pI func224 rfl ntmps224 results224 call224 ?_;(focus (refine wkax w_t w_t (w_1 (w_d 8 [] [11,13,2011,2013] [])) w_t w_t w_t w_y (w_r 4) ?_;(repeat' first|exact w_t|apply w_l);all_goals intros))
 (all_goals (try simp (disch:=omega) only [go_sem,Zek,Qt.av,Qt.zero,ZB4,ZB3,ZBv,ZBu,Int.reduceAdd,Int.reduceSub,Int.reduceToNat,ZB9]));(all_goals first|done|rfl|(congr 2;first|done|omega|(rw [ZCk];simp only [bool_to_prop,ZB8,ZCt,ZCu,ZCv,ZCw];omega))|skip)
theorem Zvw (a b c:Int):Pure prog 225 [.agg [iv a,iv b,iv c]] (.tup [(Zfp a b c).1.av,iv (Zfp a b c).2]):=by
 refine pI func225 rfl ntmps225 results225 call225 ?_;(focus (refine wkap w_t w_t (w_r 0) ?_;(repeat' first|exact w_t|apply w_l);all_goals intros))
 (all_goals (try simp (disch:=omega) only [go_sem,Zfp,Qt.av,Qt.zero,ZB4,ZB3,ZBv,ZBu,Int.reduceAdd,Int.reduceSub,Int.reduceToNat,ZB9]));(all_goals first|done|rfl|(congr 2;first|done|omega|(rw [ZCk];simp only [bool_to_prop,ZB8,ZCt,ZCu,ZCv,ZCw];omega))|skip)
theorem rqArea (a b c:Int):Pure prog 209 [iv a,iv b,iv c] (.tup [(Zek a b c).1.av,iv (Zek a b c).2]):=by
 refine pI func209 rfl ntmps209 results209 call209 ?_;(focus (refine wkap w_t w_t (w_r 0) ?_;(repeat' first|exact w_t|apply w_l);all_goals intros))
 (all_goals (try simp (disch:=omega) only [go_sem,Zek,Qt.av,Qt.zero,ZB4,ZB3,ZBv,ZBu,Int.reduceAdd,Int.reduceSub,Int.reduceToNat,ZB9]));(all_goals first|done|rfl|(congr 2;first|done|omega|(rw [ZCk];simp only [bool_to_prop,ZB8,ZCt,ZCu,ZCv,ZCw];omega))|skip)
theorem rqPyth (a b c:Int):Pure prog 210 [iv a,iv b,iv c] (.tup [(Zfp a b c).1.av,iv (Zfp a b c).2]):=by
 refine pI func210 rfl ntmps210 results210 call210 ?_;(focus (refine wkap w_t w_t (w_r 0) ?_;(repeat' first|exact w_t|apply w_l);all_goals intros))
 (all_goals (try simp (disch:=omega) only [go_sem,Zfp,Qt.av,Qt.zero,ZB4,ZB3,ZBv,ZBu,Int.reduceAdd,Int.reduceSub,Int.reduceToNat,ZB9]));(all_goals first|done|rfl|(congr 2;first|done|omega|(rw [ZCk];simp only [bool_to_prop,ZB8,ZCt,ZCu,ZCv,ZCw];omega))|skip)
theorem Zyh (k a b c:Int):Pure prog 162 [Qt.av ⟨k,a,b,c⟩] (.tup [(Qt.norm ⟨k,a,b,c⟩).1.av,iv (Qt.norm ⟨k,a,b,c⟩).2]):=by
 have c1:=Zlc k a b c;have c2:=quOf k a b c;have c3:=Zvx a b c;have c4:=Zvw a b c;unfold Qt.norm;generalize Qt.ok ⟨k,a,b,c⟩=v at *;generalize Zek a b c=r1 at *;generalize Zfp a b c=r2 at *;obtain⟨⟨k1,a1,b1,d1⟩,s1⟩:=r1;obtain⟨⟨k2,a2,b2,d2⟩,s2⟩:=r2;cases v
 ·refine pI func162 rfl ntmps162 results162 call162 ?_
  (refine wkap w_t (w_1 c1) (w_r 0) (w_s ?_);intros)
  (all_goals (try simp (disch:=omega) only [go_sem,Qt.av,Qt.zero,ZB4,ZB3,ZBv,ZBu,Int.reduceAdd,Int.reduceSub,Int.reduceToNat,ZB9]));(all_goals first|done|rfl|(congr 2;first|done|omega|(rw [ZCk];simp only [bool_to_prop,ZB8,ZCt,ZCu,ZCv,ZCw];omega))|skip)
 ·refine pI func162 rfl ntmps162 results162 call162 ?_;(focus (refine wkap w_t (w_4 c1 c2 c3 c4) (w_r 0) ?_;(repeat' first|exact w_t|apply w_l);all_goals intros))
  (all_goals (try simp (disch:=omega) only [go_sem,Qt.av,Qt.zero,ZB4,ZB3,ZBv,ZBu,Int.reduceAdd,Int.reduceSub,Int.reduceToNat,ZB9]));(all_goals first|done|rfl|(congr 2;first|done|omega|(rw [ZCk];simp only [bool_to_prop,ZB8,ZCt,ZCu,ZCv,ZCw];omega))|skip)
theorem rqNorm (k a b c:Int):Pure prog 143 [Qt.av ⟨k,a,b,c⟩] (.tup [(Qt.norm ⟨k,a,b,c⟩).1.av,iv (Qt.norm ⟨k,a,b,c⟩).2]):=by
 have c1:=Zxx k a b c;have c3:=rqArea a b c;have c4:=rqPyth a b c;unfold Qt.norm;generalize Qt.ok ⟨k,a,b,c⟩=v at *;generalize Zek a b c=r1 at *;generalize Zfp a b c=r2 at *;obtain⟨⟨k1,a1,b1,d1⟩,s1⟩:=r1;obtain⟨⟨k2,a2,b2,d2⟩,s2⟩:=r2;cases v
 ·refine pI func143 rfl ntmps143 results143 call143 ?_
  (refine wkap w_t (w_1 c1) (w_r 0) (w_s ?_);intros)
  (all_goals (try simp (disch:=omega) only [go_sem,Qt.av,Qt.zero,ZB4,ZB3,ZBv,ZBu,Int.reduceAdd,Int.reduceSub,Int.reduceToNat,ZB9]));(all_goals first|done|rfl|(congr 2;first|done|omega|(rw [ZCk];simp only [bool_to_prop,ZB8,ZCt,ZCu,ZCv,ZCw];omega))|skip)
 ·refine pI func143 rfl ntmps143 results143 call143 ?_;(focus (refine wkap w_t (w_3 c1 c3 c4) (w_r 0) ?_;(repeat' first|exact w_t|apply w_l);all_goals intros))
  (all_goals (try simp (disch:=omega) only [go_sem,Qt.av,Qt.zero,ZB4,ZB3,ZBv,ZBu,Int.reduceAdd,Int.reduceSub,Int.reduceToNat,ZB9]));(all_goals first|done|rfl|(congr 2;first|done|omega|(rw [ZCk];simp only [bool_to_prop,ZB8,ZCt,ZCu,ZCv,ZCw];omega))|skip)
def ordI (x y:Int):Int:=if x < y then -1 else if y < x then 1 else 0
def or4 (w x y z:Int):Int:=if w=0 then (if x=0 then (if y=0 then z else y) else x) else w
def Qt.cmp (p q:Qt):Int:=or4 (ordI p.k q.k) (ordI p.a q.a) (ordI p.b q.b) (ordI p.c q.c)
theorem isNaN (x:Int):Pure prog 273 [iv x] (.v (.bool false)):=by
 refine pI func273 rfl ntmps273 results273 call273 ?_
 (refine wkap w_t w_t (w_r 0) (w_s ?_);intros)
 (all_goals (try simp (disch:=omega) only [go_sem,bne_self_eq_false,ZB4,ZB3,ZBv,ZBu,Int.reduceAdd,Int.reduceSub,Int.reduceToNat,ZB9]));(all_goals first|done|rfl|(congr 2;first|done|omega|(rw [ZCk];simp only [bool_to_prop,ZB8,ZCt,ZCu,ZCv,ZCw];omega))|skip)
theorem Zu3 (x y:Int):Pure prog 229 [iv x,iv y] (iv (ordI x y)):=by
 have c1:=isNaN x;have c2:=isNaN y;refine pI func229 rfl ntmps229 results229 call229 ?_;(focus (refine wkap w_t (w_2 c1 c2) (w_r 0) ?_;(repeat' first|exact w_t|apply w_l);all_goals intros))
 (all_goals (try simp (disch:=omega) only [go_sem,ordI,ZB4,ZB3,ZBv,ZBu,Int.reduceAdd,Int.reduceSub,Int.reduceToNat,ZB9]));(all_goals first|done|rfl|(congr 2;first|done|omega|(rw [ZCk];simp only [bool_to_prop,ZB8,ZCt,ZCu,ZCv,ZCw];omega))|skip)
theorem Znk (x y:Int):Pure prog 140 [iv x,iv y] (iv (ordI x y)):=by
 refine pI func140 rfl ntmps140 results140 call140 ?_;(focus (refine wkap w_t w_t (w_r 0) ?_;(repeat' first|exact w_t|apply w_l);all_goals intros))
 (all_goals (try simp (disch:=omega) only [go_sem,ordI,ZB4,ZB3,ZBv,ZBu,Int.reduceAdd,Int.reduceSub,Int.reduceToNat,ZB9]));(all_goals first|done|rfl|(congr 2;first|done|omega|(rw [ZCk];simp only [bool_to_prop,ZB8,ZCt,ZCu,ZCv,ZCw];omega))|skip)
theorem cmpOr (w x y z:Int):Pure prog 228 [.sl 1 [iv w,iv x,iv y,iv z]] (iv (or4 w x y z)):=by
 refine pI func228 rfl ntmps228 results228 call228 ?_;(focus (refine wkap w_t w_t (w_r 6) ?_;(repeat' first|exact w_t|apply w_l);all_goals intros))
 (all_goals (try simp (disch:=omega) only [go_sem,or4,ZB4,ZB3,ZBv,ZBu,Int.reduceAdd,Int.reduceSub,Int.reduceToNat,ZB9]));(all_goals first|done|rfl|(congr 2;first|done|omega|(rw [ZCk];simp only [bool_to_prop,ZB8,ZCt,ZCu,ZCv,ZCw];omega))|skip)
theorem Znu (x:Int):ordI x x=0:=by unfold ordI;simp
theorem Zyu {x y:Int} (h:x≠y):ordI x y≠0:=by unfold ordI;split<;>(try split)<;>omega
theorem quCmp (k a b c k' a' b' c':Int):Pure prog 164 [Qt.av ⟨k,a,b,c⟩,Qt.av ⟨k',a',b',c'⟩] (iv (Qt.cmp ⟨k,a,b,c⟩ ⟨k',a',b',c'⟩)):=by
 have h1:=Zu3 k k';have h2:=Zu3 a a';have h3:=Zu3 b b';have h4:=Zu3 c c';have h5:=cmpOr (ordI k k') (ordI a a') (ordI b b') (ordI c c');refine pI func164 rfl ntmps164 results164 call164 ?_;(focus (refine wkad w_t (w_5 h1 h2 h3 h4 h5) (w_1 (w_d 3 [(4,iv (ordI k k')),(9,iv (ordI a a')),(14,iv (ordI b b')),(19,iv (ordI c c')),(20,.sl 1 [iv (ordI k k'),iv (ordI a a'),iv (ordI b b'),iv (ordI c c')]),(21,iv (or4 (ordI k k') (ordI a a') (ordI b b') (ordI c c')))] [] [])) ?_;(repeat' first|exact w_t|apply w_l);all_goals intros))
 (all_goals (try simp (disch:=omega) only [go_sem,Qt.cmp,ZB4,ZB3,ZBv,ZBu,Int.reduceAdd,Int.reduceSub,Int.reduceToNat,ZB9]));(all_goals first|done|rfl|(congr 2;first|done|omega|(rw [ZCk];simp only [bool_to_prop,ZB8,ZCt,ZCu,ZCv,ZCw];omega))|skip)
 all_goals (rename_i hc;obtain⟨rfl,rfl,rfl,rfl⟩:=hc;simp only [Znu,or4,ZC0])
theorem rqCmp (k a b c k' a' b' c':Int):Pure prog 83 [Qt.av ⟨k,a,b,c⟩,Qt.av ⟨k',a',b',c'⟩] (iv (Qt.cmp ⟨k,a,b,c⟩ ⟨k',a',b',c'⟩)):=by
 have h1:=Znk k k';have h2:=Znk a a';have h3:=Znk b b';have h4:=Znk c c';refine pI func83 rfl ntmps83 results83 call83 ?_;(focus (refine wkap w_t (w_4 h1 h2 h3 h4) (w_r 0) ?_;(repeat' first|exact w_t|apply w_l);all_goals intros));all_goals (try simp (disch:=omega) only [go_sem,Qt.cmp,or4])
 all_goals (try subst_vars)
 all_goals first|rfl|(simp only [Znu,ZC0];done)|((try simp only [Znu,ZC0]);have hn:=Zyu (by assumption);rw [ZBu hn])|simp [*,Znu,Zyu]
def Qt.chk (q:Qt) (n m:Int):Int:=if q.ok=true then (if q.k=3 then (if m≤q.a then 2 else 0) else if n≤q.a∨n≤q.b∨n≤q.c then 2 else 0) else 1
theorem quCheck (k a b c n m:Int):Pure prog 90 [Qt.av ⟨k,a,b,c⟩,iv n,iv m] (iv (Qt.chk ⟨k,a,b,c⟩ n m)):=by
 have c1:=Zlc k a b c;have c2:=quOf k a b c;unfold Qt.chk;generalize Qt.ok ⟨k,a,b,c⟩=v at *;cases v
 ·refine pI func90 rfl ntmps90 results90 call90 ?_;exact wklp w_t (w_1 c1) w_t (w_r 0) w_z
 ·refine pI func90 rfl ntmps90 results90 call90 ?_;exact wklp w_t (w_2 c1 c2) w_t (w_r 5) w_z
theorem rqCheck (k a b c n m:Int):Pure prog 214 [Qt.av ⟨k,a,b,c⟩,iv n,iv m] (iv (Qt.chk ⟨k,a,b,c⟩ n m)):=by
 have c1:=Zxx k a b c;unfold Qt.chk;generalize Qt.ok ⟨k,a,b,c⟩=v at *;cases v
 ·refine pI func214 rfl ntmps214 results214 call214 ?_;exact wklp w_t (w_1 c1) w_t (w_r 0) w_z
 ·refine pI func214 rfl ntmps214 results214 call214 ?_;exact wklp w_t (w_1 c1) w_t (w_r 0) w_z
attribute [go_sem] underlying2 underlying113 szU8 byU8 zU8 zStr
attribute [local go_sem] Za8
def decB:Nat→Nat→ByteArray→ByteArray
 | 0,_,s=>s
 | f+1,n,s=>if n=0 then s else decB f (n/10) (Zes [((48+n%10:Nat):Int)]++s)
def decS (n:Nat):ByteArray:=if n=0 then Zes [48] else decB n n ByteArray.empty
theorem Zqn:∀(f g n:Nat) (s:ByteArray),n≤f→n≤g→decB f n s=decB g n s
 | 0,0,_,_,_,_=>rfl
 | 0,g+1,n,s,h,_=>by
   have:n=0:=zo;subst this;rfl
 | f+1,0,n,s,_,h=>by
   have:n=0:=zo;subst this;rfl
 | f+1,g+1,n,s,h1,h2=>by
   unfold decB;by_cases h:n=0
   ·rw [ZBv h,ZBv h]
   ·rw [ZBu h,ZBu h];exact Zqn f g _ _ zo zo
theorem Zqm {n:Nat} {s:ByteArray} (h:n≠0):decB n n s=decB (n/10) (n/10) (Zes [((48+n%10:Nat):Int)]++s):=by
 obtain⟨m,rfl⟩:∃m,n=m+1:=⟨n - 1,zo⟩;rw [decB,ZBu h];exact Zqn _ _ _ _ zo zo
theorem Zc0 (l:List Int):(Zes l).size=l.length:=by
 have key:∀(l:List Int) (s:ByteArray),(l.foldl (λr n=>r.push (UInt8.ofNat n.toNat)) s).size=s.size+l.length:=by
  intro l
  induction l with
  | nil=>intro s;rfl
  | cons a l ih=>intro s;rw [ZGt,ih,ByteArray.size_push,ZCd];omega
 unfold Zes;rw [key];show 0+l.length=l.length;omega
theorem pow10_lt {s k n:Nat} (h:10 ^ s*k≤n) (hk:k≠0):s < 5*(toL n).length+1:=by
 have h1:=Zae.1 (ZBw ((toL n).length));have h2:10 ^ s≤n:=ZB1 (ZE2 _ zo) h
 have h3:65536 ^ (toL n).length≤10 ^ (5*(toL n).length):=by
  rw [Nat.pow_mul];exact ZHb zd _
 have h4:10 ^ s < 10 ^ (5*(toL n).length):=zo;have:=(Nat.pow_lt_pow_iff_right (by decide:1 < 10)).1 h4;omega
theorem Zx4 (n:Nat) (hn:(toL n).length≤10000000):Pure prog 213 [lim (toL n)] (.v (.string (decS n))):=by
 have cn:=Zyg n zo;have c10:=Zk7 10 zo;by_cases h0:n=0
 ·subst h0;have l0:(toL 0).length=0:=by rw [Zax];rfl
  refine pI func213 rfl ntmps213 results213 call213 ?_;(focus (refine wkvp (w_2 l0 @ZDp) (w_1 cn) ?_;(repeat' first|exact w_t|apply w_l);all_goals intros));simp (disch:=omega) only [go_sem];rfl
 ·have hp:=Za6.2 (ZDl h0);have hd:decS n=decB n n ByteArray.empty:=ZBu h0;rw [hd];refine pI func213 rfl ntmps213 results213 call213 ?_;(focus (refine wkvp w_t (w_1 cn) ?_;(repeat' first|exact w_t|apply w_l);all_goals intros));refine Zad (ι:=Nat × ByteArray) (λx e m=>e 0=lim (toL x.1)∧e 3=.v (.string x.2)∧x.1≤n∧decB x.1 x.1 x.2=decB n n ByteArray.empty∧(x.1≠0→10 ^ x.2.size*x.1≤n)) (λx=>x.1) (n,ByteArray.empty) zr ?_ ?_
  ·rintro ⟨k,s⟩ e m ⟨e0,e3,hk,hs,hsz⟩
   simp only at e0 e3 hk hs hsz ⊢;by_cases hk0:k=0
   ·subst hk0;have l0:(toL 0).length=0:=by rw [Zax];rfl
    rw [decB] at hs;(focus (refine wkvp (w_4 e0 e3 l0 @ZDp) w_t ?_;(repeat' first|exact w_t|apply w_l);all_goals intros));simp (disch:=omega) only [go_sem,hs]
   ·have hkp:=Za6.2 (ZDl hk0);have hlk:(toL k).length≤(toL n).length:=Zd4 hk;have l10:(toL 10).length≤1:=Zae.2 zd;have cd:=Zrp k 10 zo zo zo;have lr:(toL (k%10)).length≤1:=Zae.2 zo;have cs:=Zno (toL (k%10)) zo (Zar _);rw [Zap] at cs;have h5:=hsz hk0;have h6:=pow10_lt h5 hk0
    have w1:IntKind.u64.wrap (48+((k%10:Nat):Int))=((48+k%10:Nat):Int):=by
     rw [Zff zo zo];omega
    have w2:IntKind.u8.wrap ((48+k%10:Nat):Int)=((48+k%10:Nat):Int):=by
     show(((48+k%10:Nat):Int))%256=_;omega
    have sz1:(Zes [((48+k%10:Nat):Int)]).size=1:=Zc0 _;generalize hx:Zes [((48+k%10:Nat):Int)]=x at *;(focus (refine wkvp (w_6 e0 e3 w1 w2 sz1 hx) (w_3 cd c10 cs) ?_;(repeat' first|exact w_t|apply w_l);all_goals intros));refine⟨(k/10,x++s),⟨gC,gC,?_,?_,?_⟩,?_⟩
    ·show k/10≤n;omega
    ·show decB (k/10) (k/10) (x++s)=_;rw [←hs,Zqm hk0,hx]
    ·intro _;show 10 ^ (x++s).size*(k/10)≤n;rw [ZCn,sz1,ZEn,ZC5,ZC6];exact ZB1 (ZD0 _ zo) h5
    ·show k/10 < k;omega
  ·refine⟨gC,gC,ZBw _,rfl,λ_=>?_⟩;show 10 ^ 0*n≤n;omega
def decZ (z:Int):ByteArray:=if z < 0 then Zes [45]++decS z.natAbs else decS z.natAbs
def decQ (q:Rat):ByteArray:=if q.den=1 then decZ q.num else decZ q.num++Zes [47]++decS q.den
theorem ZAz {k:Nat}:∀(f n:Nat) (s:ByteArray),n < 10 ^ k→(decB f n s).size≤s.size+k:=by
 induction k with
 | zero =>
   intro f n s h;have:n=0:=by simpa using h
   subst this;cases f<;>simp [decB]
 | succ k ih =>
   intro f n s h
   cases f with
   | zero=>simp [decB]
   | succ f =>
     unfold decB;split
     ·omega
     ·have:=ih f (n/10) (Zes [((48+n%10:Nat):Int)]++s) (by rw [ZC5] at h;omega);rw [ZCn,Zc0] at this;simp only [ZCd,ZCq] at this;omega
theorem Zdu (n:Nat):(decS n).size≤5*(toL n).length+1:=by
 unfold decS;split
 ·rw [Zc0];simp
 ·have h1:=Zae.1 (ZBw ((toL n).length))
  have h3:65536 ^ (toL n).length≤10 ^ (5*(toL n).length):=by
   rw [Nat.pow_mul];exact ZHb zd _
  have:=ZAz (k:=5*(toL n).length) n n ByteArray.empty zo;have e:ByteArray.empty.size=0:=rfl;omega
theorem zText (z:Int) (hz:(toL z.natAbs).length≤10000000):Pure prog 212 [intZ z] (.v (.string (decZ z))):=by
 have cn:=Zs7 z zo;have ct:=Zx4 z.natAbs hz;have hs:=Zdu z.natAbs;have h45:(Zes [45]).size=1:=Zc0 _;unfold decZ;have e45:Zes [45]=⟨#[45]⟩:=rfl;rw [e45] at h45 ⊢;generalize decS z.natAbs=s at *;by_cases h:z < 0
 ·rw [ZBv h];rw [show intZ z=.agg [.v (.bool true),lim (toL z.natAbs)] from by unfold intZ intA;rw [ZB4 h]] at *;refine pI func212 rfl ntmps212 results212 call212 ?_;(focus (refine wkvp (w_1 h45) (w_2 cn ct) ?_;(repeat' first|exact w_t|apply w_l);all_goals intros));simp (disch:=omega) only [go_sem]
 ·rw [ZBu h];rw [show intZ z=.agg [.v (.bool false),lim (toL z.natAbs)] from by unfold intZ intA;rw [ZB3 h]] at *;refine pI func212 rfl ntmps212 results212 call212 ?_;(focus (refine wkvp w_t (w_2 cn ct) ?_;(repeat' first|exact w_t|apply w_l);all_goals intros));simp (disch:=omega) only [go_sem]
theorem Zlu (z:Int):(decZ z).size≤5*(toL z.natAbs).length+2:=by
 have:=Zdu z.natAbs;unfold decZ;split
 ·rw [ZCn,Zc0];simp only [ZCd,ZCq];omega
 ·omega
theorem qText (q:Rat) {k:Nat} (h:Sz q k) (hk:k≤1000000):Pure prog 145 [ratQ q] (.v (.string (decQ q))):=by
 have cn:=qNorm q h zo;have h1:=h.1;have h2:=h.2;have c1:Pure prog 79 [.v (.int .u64 1)] (lim (toL 1)):=Zk7 1 zo;have cs:=Ztr (toL q.den) (toL 1) zo (by rw [Zed];omega) (Zar _) (Zar _);have cz:=zText q.num zo;have cd:=Zx4 q.den zo;have z1:=Zlu q.num;have z2:=Zdu q.den;have e47:Zes [47]=⟨#[47]⟩:=rfl;have h47:(Zes [47]).size=1:=Zc0 _;rw [e47] at h47;unfold decQ;rw [e47];by_cases hd:q.den=1
 ·rw [ZBv hd];rw [ZB4 (by rw [hd])] at cs;generalize decZ q.num=s at *;refine pI func145 rfl ntmps145 results145 call145 ?_;(focus (refine wkad w_t (w_4 cn c1 cs cz) (w_1 (w_d 2 [(2,lim (toL 1)),(3,.v (.bool true))] [] [])) ?_;(repeat' first|exact w_t|apply w_l);all_goals intros));simp (disch:=omega) only [go_sem]
 ·rw [ZBu hd];rw [ZB3 (λe=>hd (by have:=ZDi nv e;rwa [Zap,Zap] at this))] at cs;generalize decZ q.num=s at *;generalize decS q.den=t at *;have h3:(s++⟨#[47]⟩:ByteArray).size=s.size+1:=by rw [ZCn,h47]
  refine pI func145 rfl ntmps145 results145 call145 ?_;(focus (refine wkad (w_2 h47 h3) (w_5 cn c1 cs cz cd) (w_2 (w_d 2 [(2,lim (toL 1)),(3,.v (.bool false))] [] []) (w_d 4 [(2,.v (.string s)),(6,.v (.string t))] [] [])) ?_;(repeat' first|exact w_t|apply w_l);all_goals intros));simp (disch:=omega) only [go_sem]
attribute [go_sem] underlying65
attribute [local go_sem] Zbx
def dig36:ByteArray:=⟨#[48,49,50,51,52,53,54,55,56,57,97,98,99,100,101,102,103,104,105,106,107,108,109,110,111,112,113,114,115,116,117,118,119,120,121,122]⟩
def dig200:ByteArray:=⟨#[48,48,48,49,48,50,48,51,48,52,48,53,48,54,48,55,48,56,48,57,49,48,49,49,49,50,49,51,49,52,49,53,49,54,49,55,49,56,49,57,50,48,50,49,50,50,50,51,50,52,50,53,50,54,50,55,50,56,50,57,51,48,51,49,51,50,51,51,51,52,51,53,51,54,51,55,51,56,51,57,52,48,52,49,52,50,52,51,52,52,52,53,52,54,52,55,52,56,52,57,53,48,53,49,53,50,53,51,53,52,53,53,53,54,53,55,53,56,53,57,54,48,54,49,54,50,54,51,54,52,54,53,54,54,54,55,54,56,54,57,55,48,55,49,55,50,55,51,55,52,55,53,55,54,55,55,55,56,55,57,56,48,56,49,56,50,56,51,56,52,56,53,56,54,56,55,56,56,56,57,57,48,57,49,57,50,57,51,57,52,57,53,57,54,57,55,57,56,57,57]⟩
theorem dig36_at:∀n,n < 10→dig36.extract n (n+1)=decS n:=by decide +kernel
theorem ZAv:∀n,n < 100→10≤n→dig200.extract (n*2) (n*2+2)=decS n:=by decide +kernel
theorem scSmall (n:Nat) (hn:n < 100):Pure prog 255 [iv (n:Int)] (.v (.string (decS n))):=by
 by_cases h:n < 10
 ·refine pI func255 rfl ntmps255 results255 call255 ?_
  (refine wkvp w_t w_t (w_s ?_);intros)
  simp (disch:=omega) only [go_sem];exact ZDi (λs=>AV.v (.string s)) (dig36_at n h)
 ·have e1:(n:Int)*2=((n*2:Nat):Int):=zo;have e2:((n*2:Nat):Int)+2=((n*2+2:Nat):Int):=zo;refine pI func255 rfl ntmps255 results255 call255 ?_
  (repeat' (first|(with_reducible first|refine stp ?_|apply gx1|apply gx2|apply gx3|apply gx4|apply gx5|apply gx6|apply gx7)|(with_reducible refine Zcm ?_;intro _)|((with_reducible refine gE ?_);(try simp (disch:=omega) only [go_sem,e1,e2,List.append_eq,ZCr])<;>first|rfl|omega)|with_reducible refine Zak zd ?_))
  simp (disch:=omega) only [go_sem];exact ZDi (λs=>AV.v (.string s)) (ZAv n hn zo)
theorem scFormat (n:Nat) (hn:n < 100):Pure prog 211 [.v (.int .i64 (n:Int)),iv 10] (.v (.string (decS n))):=by
 have c:=scSmall n hn;refine pI func211 rfl ntmps211 results211 call211 ?_
 (refine wkvp w_t (w_1 c) (w_s ?_);intros)
 simp (disch:=omega) only [go_sem]
theorem scItoaI (n:Nat) (hn:n < 100):Pure prog 144 [iv (n:Int)] (.v (.string (decS n))):=by
 have c:=scFormat n hn;refine pI func144 rfl ntmps144 results144 call144 ?_
 (refine wkvp w_t (w_1 c) (w_s ?_);intros)
 simp (disch:=omega) only [go_sem]
theorem scItoa (n:Nat) (hn:n < 100):Pure prog 86 [iv (n:Int)] (.v (.string (decS n))):=by
 have c:=scItoaI n hn;refine pI func86 rfl ntmps86 results86 call86 ?_
 (refine wkvp w_t (w_1 c) (w_s ?_);intros)
 simp (disch:=omega) only [go_sem]
theorem decQ_nat (n:Nat):decQ (n:Rat)=decS n:=by
 unfold decQ;rw [ZBv zr];unfold decZ;have e:((n:Rat)).num=(n:Int):=rfl;rw [e,ZBu zo];rfl
def c1 (s:ByteArray) (ss:List ByteArray) (n:Int):ByteArray:=s++ss.getD n.toNat ByteArray.empty
def Qt.txt (q:Qt) (ss:List ByteArray):ByteArray :=
 if q.k=3 then ⟨#[116,40]⟩++decS q.a.toNat++⟨#[41]⟩
 else (if q.k=2 then ⟨#[80,40]⟩ else ⟨#[83,40]⟩)++ss.getD q.a.toNat ByteArray.empty++⟨#[44,32]⟩++ss.getD q.b.toNat ByteArray.empty++⟨#[44,32]⟩++ss.getD q.c.toNat ByteArray.empty++⟨#[41]⟩
theorem Zu4 {k a b c n m:Int} (h:Qt.chk ⟨k,a,b,c⟩ n m=0):(k=3∧0≤a∧a < 64∧a < m)∨(k≠3∧(k=1∨k=2)∧(0≤a∧a < n)∧(0≤b∧b < n)∧(0≤c∧c < n)):=by
 unfold Qt.chk Qt.ok at h;simp only [ZCs] at h;split at h
 ·split at h
  ·split at h<;>omega
  ·split at h<;>omega
 ·omega
theorem Zjb {ss:List ByteArray} {j:Nat} (h:j < ss.length):(ss.map strA).getD j .u=strA (ss.getD j ByteArray.empty):=by
 rw [ZCb,ZC4,ZB6 h,ZCb,ZB6 h];rfl
theorem Zeg {ss:List ByteArray} (h:∀s∈ss,s.size≤1000) (j:Nat):(ss.getD j ByteArray.empty).size≤1000:=by
 rw [ZCb];rcases ZCg j ss.length with h1 | h1
 ·rw [ZB6 h1];exact h _ (ZB7 h1)
 ·rw [ZDh h1];exact ZB5 _
theorem quText (k a b c:Int) (ss:List ByteArray) (hl:ss.length≤1000000000) (hs:∀s∈ss,s.size≤1000):Pure prog 112 [Qt.av ⟨k,a,b,c⟩,.sl 1 (ss.map strA)] (if Qt.chk ⟨k,a,b,c⟩ ss.length 64=0 then .tup [strA (Qt.txt ⟨k,a,b,c⟩ ss),iv 0] else .tup [strA ⟨#[]⟩,iv (Qt.chk ⟨k,a,b,c⟩ ss.length 64)]):=by
 have cc:=quCheck k a b c ss.length 64;have ok:=@Zu4 k a b c ss.length 64;generalize Qt.chk ⟨k,a,b,c⟩ ss.length 64=v at *;by_cases hv:v=0
 ·subst hv;rw [ZBv rfl];rcases ok rfl with⟨rfl,h1,h2,h3⟩ | ⟨h0,h1,h2,h3,h4⟩
  ·obtain⟨n,rfl⟩:∃n:Nat,a=n:=⟨a.toNat,zo⟩;have ci:=scItoa n zo;have z:=Zdu n;have zl:(toL n).length≤1:=Zae.2 zo;have e:Qt.txt ⟨3,n,b,c⟩ ss=⟨#[116,40]⟩++decS n++⟨#[41]⟩:=by unfold Qt.txt;rfl
   rw [e];generalize decS n=s at *;have s1:(⟨#[116,40]⟩:ByteArray).size=2:=rfl;have s2:(⟨#[41]⟩:ByteArray).size=1:=rfl;refine pI func112 rfl ntmps112 results112 call112 ?_;exact wkld (w_4 @ZCn s1 s2 @Zc6) (w_2 cc ci) w_t w_t w_z
  ·obtain⟨x,rfl⟩:∃n:Nat,a=n:=⟨a.toNat,zo⟩;obtain⟨y,rfl⟩:∃n:Nat,b=n:=⟨b.toNat,zo⟩;obtain⟨w,rfl⟩:∃n:Nat,c=n:=⟨c.toNat,zo⟩;have hx:=Zjb (ss:=ss) (j:=x) zo;have hy:=Zjb (ss:=ss) (j:=y) zo;have hw:=Zjb (ss:=ss) (j:=w) zo;have zx:=Zeg hs x;have zy:=Zeg hs y;have zw:=Zeg hs w;unfold Qt.txt;simp only [ZEk];generalize ss.getD x ByteArray.empty=sx at *;generalize ss.getD y ByteArray.empty=sy at *;generalize ss.getD w ByteArray.empty=sw at *;have s1:(⟨#[83,40]⟩:ByteArray).size=2:=rfl;have s2:(⟨#[80,40]⟩:ByteArray).size=2:=rfl;have s3:(⟨#[44,32]⟩:ByteArray).size=2:=rfl
   have s4:(⟨#[41]⟩:ByteArray).size=1:=rfl;refine pI func112 rfl ntmps112 results112 call112 ?_;exact wkld (w_9 @ZCn s1 s2 s3 s4 @Zc6 hx hy hw) (w_1 cc) w_t w_t w_z
 ·rw [ZBu hv];refine pI func112 rfl ntmps112 results112 call112 ?_;exact wkld (w_1 @Zc6) (w_1 cc) w_t w_t w_z
theorem rqText (k a b c:Int) (ss:List ByteArray) (hl:ss.length≤1000000000) (hs:∀s∈ss,s.size≤1000):Pure prog 146 [Qt.av ⟨k,a,b,c⟩,.sl 1 (ss.map strA)] (if Qt.chk ⟨k,a,b,c⟩ ss.length 64=0 then .tup [strA (Qt.txt ⟨k,a,b,c⟩ ss),iv 0] else .tup [strA ⟨#[]⟩,iv (Qt.chk ⟨k,a,b,c⟩ ss.length 64)]):=by
 have cc:=rqCheck k a b c ss.length 64;have ok:=@Zu4 k a b c ss.length 64;generalize Qt.chk ⟨k,a,b,c⟩ ss.length 64=v at *;by_cases hv:v=0
 ·subst hv;rw [ZBv rfl];rcases ok rfl with⟨rfl,h1,h2,h3⟩ | ⟨h0,h1,h2,h3,h4⟩
  ·obtain⟨n,rfl⟩:∃n:Nat,a=n:=⟨a.toNat,zo⟩;have co:=qOf n zo;have ct:=qText (n:Rat) (Zr4 n zo) zo;rw [decQ_nat] at ct;have z:=Zdu n;have zl:(toL n).length≤1:=Zae.2 zo;have e:Qt.txt ⟨3,n,b,c⟩ ss=⟨#[116,40]⟩++decS n++⟨#[41]⟩:=by unfold Qt.txt;rfl
   rw [e];generalize decS n=s at *;generalize (n:Rat)=q at *;have s1:(⟨#[116,40]⟩:ByteArray).size=2:=rfl;have s2:(⟨#[41]⟩:ByteArray).size=1:=rfl;refine pI func146 rfl ntmps146 results146 call146 ?_;(focus (refine wkld (w_4 @ZCn s1 s2 @Zc6) (w_3 cc co ct) w_t w_t ?_;(repeat' first|exact w_t|apply w_l);all_goals intros))
  ·obtain⟨x,rfl⟩:∃n:Nat,a=n:=⟨a.toNat,zo⟩;obtain⟨y,rfl⟩:∃n:Nat,b=n:=⟨b.toNat,zo⟩;obtain⟨w,rfl⟩:∃n:Nat,c=n:=⟨c.toNat,zo⟩;have hx:=Zjb (ss:=ss) (j:=x) zo;have hy:=Zjb (ss:=ss) (j:=y) zo;have hw:=Zjb (ss:=ss) (j:=w) zo;have zx:=Zeg hs x;have zy:=Zeg hs y;have zw:=Zeg hs w;unfold Qt.txt;simp only [ZEk];generalize ss.getD x ByteArray.empty=sx at *;generalize ss.getD y ByteArray.empty=sy at *;generalize ss.getD w ByteArray.empty=sw at *;have s1:(⟨#[83,40]⟩:ByteArray).size=2:=rfl;have s2:(⟨#[80,40]⟩:ByteArray).size=2:=rfl;have s3:(⟨#[44,32]⟩:ByteArray).size=2:=rfl
   have s4:(⟨#[41]⟩:ByteArray).size=1:=rfl;refine pI func146 rfl ntmps146 results146 call146 ?_;(focus (refine wkld (w_9 @ZCn s1 s2 s3 s4 @Zc6 hx hy hw) (w_1 cc) w_t w_t ?_;(repeat' first|exact w_t|apply w_l);all_goals intros))
 ·rw [ZBu hv];refine pI func146 rfl ntmps146 results146 call146 ?_;(focus (refine wkld (w_1 @Zc6) (w_1 cc) w_t w_t ?_;(repeat' first|exact w_t|apply w_l);all_goals intros))
def isP (a b c:Int) (p:Nat):Bool:=decide (a=(p:Int)∨b=(p:Int)∨c=(p:Int))
def Qt.pts (q:Qt):List Int:=if q.ok=true∧q.k≠3 then ((List.range 40).filter (isP q.a q.b q.c)).map λn:Nat=>(n:Int) else []
theorem Zkf (k a b c:Int):Pure prog 231 [Qt.av ⟨k,a,b,c⟩] (ivs (Qt.pts ⟨k,a,b,c⟩)):=by
 have c1:=Zlc k a b c;have c2:=quOf k a b c;unfold Qt.pts;generalize Qt.ok ⟨k,a,b,c⟩=v at *;by_cases hv:v=true∧k≠3
 ·obtain⟨rfl,hk⟩:=hv;rw [ZBv ⟨rfl,hk⟩];refine pI func231 rfl ntmps231 results231 call231 ?_
  (refine wkap w_t (w_1 c1) (w_r 0) (w_s ?_);intros)
  refine Zfb (Frz.nilOwn (d:=3) 38 1 3 (gC)) ?_;refine Zad (ι:=Nat) (λi e m=>i≤40∧e 14=iv i∧(∃g,e 1=.pbox 1 g 0∧m 1=some (.box g 91 [iv k,iv a,iv b,iv c] false))∧∃sv,e 3=.own 38 sv∧m 38=some (.row sv 3 1 ((((List.range i).filter (isP a b c)).map λn:Nat=>(n:Int)).map iv) 0)) (λi=>40 - i) 0 zr ?_ ?_
  ·rintro i e m ⟨hi,e14,⟨g,e1,m1⟩,sv,e3,m38⟩
   by_cases h40:i < 40
   ·have hstep:(List.range (i+1)).filter (isP a b c)=(List.range i).filter (isP a b c)++(if a=i∨b=i∨c=i then [i] else []):=by
     rw [List.range_succ,ZEz];congr 1;by_cases h:a=i∨b=i∨c=i
     ·have hp:isP a b c i=true:=ZB4 h;rw [ZBv h,ZFc,ZBv hp];rfl
     ·have hp:isP a b c i=false:=ZB3 h;rw [ZBu h,ZFc,ZBu (by rw [hp];simp)];rfl
    have hlen:((List.range i).filter (isP a b c)).length≤40:=ZB1 (ZGm _ _) (by simp;omega);by_cases h:a=i∨b=i∨c=i
    ·rw [ZBv h] at hstep;generalize (List.range i).filter (isP a b c)=l at *;(focus (refine wkap (w_6 e14 e1 m1 e3 m38 @Zc6) (w_1 c2) (w_r 0) ?_;(repeat' first|exact w_t|apply w_l);all_goals intros));all_goals refine⟨i+1,⟨zo,gS,⟨_,gW e1,gW m1⟩,_,gW e3,?_⟩,zo⟩
     all_goals (rw [hstep,ZCp,ZCp];exact gC)
    ·rw [ZBu h,ZDf] at hstep;generalize (List.range i).filter (isP a b c)=l at *
     (refine wkap (w_6 e14 e1 m1 e3 m38 @Zc6) (w_1 c2) (w_r 0) (w_s ?_);intros)
     all_goals refine⟨i+1,⟨zo,gS,⟨_,gW e1,gW m1⟩,_,gW e3,?_⟩,zo⟩
     all_goals (rw [hstep];exact gW m38)
   ·have:i=40:=zo;subst this
    (refine wkap (w_6 e14 e1 m1 e3 m38 @Zc6) w_t (w_r 0) (w_s ?_);intros)
    simp (disch:=omega) only [go_sem,m38,ZB2]
  ·refine⟨zo,gC,⟨_,gC,gC⟩,_,gC,by(simp (disch:=omega) only [go_sem,List.range_zero,List.filter_nil]<;>repeat' first|rfl|refine⟨?_,?_⟩)⟩
 ·rw [ZBu hv];refine Zhk (r:=.v (.slice none 0 0)) ?_ (.nil 1);cases v
  ·refine pI func231 rfl ntmps231 results231 call231 ?_;exact wklp w_t (w_1 c1) w_t (w_r 0) w_z
  ·have hk:k=3:=by
    rcases Decidable.em (k=3) with h | h
    ·exact h
    ·exact(hv ⟨rfl,h⟩).elim
   subst hk;refine pI func231 rfl ntmps231 results231 call231 ?_;exact wklp w_t (w_1 c1) w_t (w_r 0) w_z
attribute [go_sem] underlying87 underlying186 szPt byPt zPt szVec zVec
abbrev ptQ (x y:Rat):AV:=.agg [.v (.bool (decide (x.num < 0))),lim (toL x.num.natAbs),lim (toL x.den),.v (.bool (decide (y.num < 0))),lim (toL y.num.natAbs),lim (toL y.den)]
abbrev PQ:=Rat × Rat
abbrev PQ.av (p:PQ):AV:=ptQ p.1 p.2
def PQ.sz (p:PQ) (j:Nat):Prop:=Sz p.1 j∧Sz p.2 j
def Zdy (p q r s:PQ):Rat:=(q.1 - p.1)*(s.2 - r.2) - (q.2 - p.2)*(s.1 - r.1)
def dotP (p q r s:PQ):Rat:=(q.1 - p.1)*(s.1 - r.1)+(q.2 - p.2)*(s.2 - r.2)
theorem qEqual (a b:Rat) {j k:Nat} (ha:Sz a j) (hb:Sz b k) (hj:j≤1000000) (hk:k≤1000000):Pure prog 41 [ratQ a,ratQ b] (.v (.bool (decide (a=b)))):=by
 have c:=qCmp a b ha hb zo zo
 have e:(cmpQ a b == 0)=decide (a=b):=by
  rw [ZCk,ZDw,ZCs];unfold cmpQ;constructor
  ·intro h;split at h
   ·omega
   ·split at h
    ·omega
    ·rename_i h1 h2;exact Rat.le_antisymm (Rat.not_lt.1 h2) (Rat.not_lt.1 h1)
  ·rintro rfl
   simp
 rw [←e];generalize cmpQ a b=s at *;refine pI func41 rfl ntmps41 results41 call41 ?_
 (refine wkvp w_t (w_1 c) (w_s ?_);intros)
 simp (disch:=omega) only [go_sem]
attribute [go_sem] underlying85 underlying53
def Qt.val (q:Qt) (ps:List PQ) (rs:List Rat):Rat :=
 if q.k=3 then rs.getD q.a.toNat 0
 else if q.k=1 then Zdy (ps.getD q.a.toNat (0,0)) (ps.getD q.b.toNat (0,0)) (ps.getD q.a.toNat (0,0)) (ps.getD q.c.toNat (0,0))
 else 2*dotP (ps.getD q.b.toNat (0,0)) (ps.getD q.a.toNat (0,0)) (ps.getD q.b.toNat (0,0)) (ps.getD q.c.toNat (0,0))
theorem chk_val {k a b c n m:Int} (h:Qt.chk ⟨k,a,b,c⟩ n m=0):(k=3∧0≤a∧a < 64∧a < m)∨(k≠3∧(k=1∨k=2)∧(0≤a∧a < n)∧(0≤b∧b < n)∧(0≤c∧c < n)):=Zu4 h
abbrev zeroQ:AV:=.agg [.v (.bool false),.v (.slice none 0 0),.v (.slice none 0 0)]
def shortB (ss:List ByteArray):Bool:=decide (ss.length≤60) && ss.all λs=>decide (s.size≤30)
section
attribute [local go_sem] underlying3 underlying2 underlying4 underlying35 underlying91 underlying22 underlying65 underlying9 underlying28 underlying85 underlying87 underlying53 sz3 by3 z3 Zah Zaq Zbu zErr Za8 Zbx zStr Zai Bool.and_self Zas zRat szPt byPt zPt
end
attribute [local go_sem] beq_self_eq_true
section
variable {N n:Nat} {cs:List AV}
end
theorem Zal:Zem prog 91=some 32:=by kernel_rfl
theorem Zba:szOf prog 76=some 1:=by kernel_rfl
theorem zSlQ:Zao prog 76=some (.slice none 0 0):=by kernel_rfl
theorem Zip:szOf prog 113=some 1:=by kernel_rfl
theorem Zna:Zao prog 113=some (.slice none 0 0):=by kernel_rfl
theorem szQT:szOf prog 78=some 4:=by kernel_rfl
theorem byQT:Zem prog 78=some 80:=by kernel_rfl
theorem zQT:Zao prog 78=some (.agg #[.bool false,.slice none 0 0,.slice none 0 0,.slice none 0 0]):=by kernel_rfl
theorem Za9:szOf prog 33=some 1:=by kernel_rfl
theorem zSlT:Zao prog 33=some (.slice none 0 0):=by kernel_rfl
theorem szQP:szOf prog 34=some 1:=by kernel_rfl
theorem zQP:Zao prog 34=some (.slice none 0 0):=by kernel_rfl
theorem Zo5:szOf prog 227=some 2:=by kernel_rfl
theorem Zjx:szOf prog 164=some 1:=by kernel_rfl
theorem Zou:Zao prog 164=some (.pointer none):=by kernel_rfl
theorem Zo7:szOf prog 225=some 1:=by kernel_rfl
def expOk (x:Int):Bool:=!decide (x < 0) && !decide (1048576 < x)
def rightB (l:List Int):Bool:=decide (l.length≤64) && !(l.getLast?.getD 1 == 0) && l.all expOk
attribute [go_sem] underlying213
def Sm (l:List Int):Prop:=l.length≤1000∧∀j,0≤gI l j∧gI l j≤16777216
def sumT (l:List Int):Nat→Int
 | 0=>0
 | k+1=>sumT l k+gI l k
theorem Zxf {l:List Int} (h:Sm l):∀k,0≤sumT l k∧sumT l k≤k*16777216
 | 0=>by simp [sumT]
 | k+1=>by
   have h1:=Zxf h k;have h2:=h.2 k;simp only [sumT];omega
theorem Zp1 (l:List Int) (hs:Sm l):Pure prog 283 [ints l] (.v (.int .i64 (sumT l l.length))):=by
 unfold ints;refine Zaa (tok:=0) (rs:=[.tmp 2]) func283 rfl ntmps283 results283 call283 zr zs ?_;have hl:=hs.1;(focus (refine wkap w_t w_t (w_r 0) ?_;(repeat' first|exact w_t|apply w_l);all_goals intros));refine Ztv (ι:=Nat) (λk st=>k≤l.length∧st.env 6=.sl 1 (l.map λn=>AV.v (.int .i64 n))∧st.env 7=.v (.int .i64 l.length)∧st.env 8=.v (.int .i64 k)∧st.env 3=.v (.int .i64 (sumT l k))) (λk=>l.length - k) 0 zr ?_ ?_
 ·rintro k st ⟨hk,e6,e7,e8,e3⟩
  by_cases hlt:k < l.length
  ·have b1:=Zxf hs k;have b2:=hs.2 k;(focus (refine wkap (w_4 e6 e7 e8 e3) w_t (w_r 0) ?_;(repeat' first|exact w_t|apply w_l);all_goals intros));exact⟨k+1,⟨zo,by simp (disch:=omega) only [go_sem,e6],by simp (disch:=omega) only [go_sem,e7],by simp (disch:=omega) only [go_sem,e8];rfl,by simp (disch:=omega) only [go_sem,e3];rfl⟩,zo⟩
  ·have hk':k=l.length:=zo;subst hk';(focus (refine wkap (w_4 e6 e7 e8 e3) w_t (w_r 0) ?_;(repeat' first|exact w_t|apply w_l);all_goals intros));simp (disch:=omega) only [go_sem,e3]
 ·exact⟨ZB5 _,by simp (disch:=omega) only [go_sem],by simp (disch:=omega) only [go_sem],by simp (disch:=omega) only [go_sem];rfl,by simp (disch:=omega) only [go_sem];rfl⟩
def expI (l:List Int) (v:Int):Int:=if v < 0 then 0 else gI l v.toNat
theorem exp_of (l:List Int) (k:Nat):expI l (k:Int)=gI l k:=by unfold expI;rw [ZBu zo];rfl
theorem toNat_lt {l:List Int} {v:Int} (h0:0≤v) (h:v < l.length):v.toNat < l.length:=zo
theorem monExp (l:List Int) (v:Int):Pure prog 284 [ints l,.v (.int .i64 v)] (.v (.int .i64 (expI l v))):=by
 unfold ints;refine Zaa (tok:=0) (rs:=[.tmp 4]) func284 rfl ntmps284 results284 call284 zr zs ?_;by_cases h0:v < 0
 ·unfold expI;rw [ZBv h0];(focus (refine wkap w_t w_t (w_r 0) ?_;(repeat' first|exact w_t|apply w_l);all_goals intros));simp (disch:=omega) only [go_sem]
 ·unfold expI;rw [ZBu h0];by_cases h1:v < l.length
  ·have h2:=toNat_lt zo h1;(focus (refine wkap w_t w_t (w_r 0) ?_;(repeat' first|exact w_t|apply w_l);all_goals intros));simp (disch:=omega) only [go_sem]
  ·rw [Zcw zo];(focus (refine wkap w_t w_t (w_r 0) ?_;(repeat' first|exact w_t|apply w_l);all_goals intros));simp (disch:=omega) only [go_sem]
def sgn (n:Int):Int:=if n < 0 then -1 else if 0 < n then 1 else 0
def Zhx (l:List Int):Nat→Nat
 | 0=>0
 | n+1=>if gI l n=0 then Zhx l n else n+1
theorem Ztg (l:List Int):∀n,Zhx l n≤n
 | 0=>ZBw _
 | n+1=>by
   simp only [Zhx];split
   ·exact ZB1 (Ztg l n) zo
   ·omega
def Zj8 (l:List Int):List Int:=l.take (Zhx l l.length)
theorem Zmg {l:List Int} {k:Nat} (h:0 < k) (hx:gI l (k - 1)≠0):Zhx l k=k:=by
 cases k with
 | zero=>omega
 | succ k=>simp only [Zhx];rw [ZBu (by simpa using hx)]
theorem Zvi {l:List Int} {k:Nat} (h:0 < k) (hx:gI l (k - 1)=0):Zhx l (k - 1)=Zhx l k:=by
 cases k with
 | zero=>omega
 | succ k=>simp only [Zhx];rw [ZBv (by simpa using hx)];rfl
theorem Zqp {k:Nat} (h:0 < k):(k:Int) - 1=((k - 1:Nat):Int):=zo
theorem monTrim' (l:List Int) (hs:l.length≤1000):Pure prog 280 [ints l] (if Zhx l l.length=0 then .v (.slice none 0 0) else ints (Zj8 l)):=by
 have hle:=Ztg l l.length
 have hcode:∀r:AV,(Zhx l l.length=0→r=.v (.slice none 0 0))→(Zhx l l.length≠0→r=.sl 1 ((l.map λn=>AV.v (.int .i64 n)).take (Zhx l l.length)))→Pure prog 280 [ints l] r:=by
  intro r h1 h2;unfold ints;refine Zaa (tok:=0) (rs:=[.tmp 2]) func280 rfl ntmps280 results280 call280 zr zs ?_;(focus (refine wkap w_t w_t (w_r 0) ?_;(repeat' first|exact w_t|apply w_l);all_goals intros));refine Ztv (ι:=Nat) (λk st=>k≤l.length∧st.env 0=.sl 1 (l.map λn=>AV.v (.int .i64 n))∧st.env 3=.v (.int .i64 k)∧Zhx l k=Zhx l l.length) (λk=>k) l.length zr ?_ ?_
  ·rintro k st ⟨hk,e0,e3,ha⟩
   by_cases h0:0 < k
   ·by_cases hx:gI l (k - 1)=0
    ·(focus (refine wkap (w_2 e0 e3) w_t (w_r 0) ?_;(repeat' first|exact w_t|apply w_l);all_goals intros));refine⟨k - 1,⟨zo,by simp (disch:=omega) only [go_sem,e0],by simp (disch:=omega) only [go_sem,e3];rw [Zqp h0],?_⟩,zo⟩;rw [Zvi h0 hx,ha]
    ·rw [Zmg h0 hx] at ha;rw [←ha] at h1 h2 hle;rw [h2 zo];(focus (refine wkap (w_2 e0 e3) w_t (w_r 0) ?_;(repeat' first|exact w_t|apply w_l);all_goals intros));simp (disch:=omega) only [go_sem]
   ·have hk0:k=0:=zo;subst hk0;have h3:Zhx l l.length=0:=ha.symm;rw [h1 h3];(focus (refine wkap (w_2 e0 e3) w_t (w_r 0) ?_;(repeat' first|exact w_t|apply w_l);all_goals intros));simp (disch:=omega) only [go_sem]
  ·exact⟨ZBw _,by simp (disch:=omega) only [go_sem],by simp (disch:=omega) only [go_sem],rfl⟩
 refine hcode _ (λh=>by rw [ZBv h]) (λh=>by rw [ZBu h];unfold ints Zj8;rw [List.map_take])
theorem monTrim (l:List Int) (hs:l.length≤1000):Pure prog 280 [ints l] (ints (Zj8 l)):=by
 refine(monTrim' l hs).wk ?_;split
 ·rename_i h;unfold Zj8 ints;rw [h];exact .nil 1
 ·exact .refl _
theorem addF (x y:Int) (h:-9223372036854775808≤x+y∧x+y≤9223372036854775807):Pure prog 282 [.v (.int .i64 x),.v (.int .i64 y)] (.v (.int .i64 (x+y))):=by
 refine Zaa (tok:=0) (rs:=[.tmp 4]) func282 rfl ntmps282 results282 call282 zr zs ?_;(focus (refine wkap w_t w_t (w_r 0) ?_;(repeat' first|exact w_t|apply w_l);all_goals intros));simp (disch:=omega) only [go_sem]
def zipI (F:Int→Int→Int) (a b:List Int):List Int:=(List.range (max a.length b.length)).map λi=>F (gI a i) (gI b i)
def upto (n k:Nat) (F:Nat→Int):List AV:=(List.range n).map λi=>AV.v (.int .i64 (if i < k then F i else 0))
theorem upto_len (n k:Nat) (F:Nat→Int):(upto n k F).length=n:=by simp [upto]
theorem Zoy (n:Nat) (F:Nat→Int):List.replicate n (AV.v (.int .i64 0))=upto n 0 F:=by
 refine List.ext_getElem (by simp [upto]) λj h1 h2=>?_;simp [upto]
theorem upto_set {n k:Nat} {F:Nat→Int} (h:k < n):(upto n k F).set k (.v (.int .i64 (F k)))=upto n (k+1) F:=by
 refine List.ext_getElem (by simp [upto]) λj h1 h2=>?_;simp only [upto,List.getElem_set,ZF9,List.getElem_range];by_cases hj:k=j
 ·subst hj;simp
 ·rw [ZBu hj];by_cases h3:j < k
  ·rw [ZBv h3,ZBv zo]
  ·rw [ZBu h3,ZBu zo]
theorem Zww (n:Nat) (F:Nat→Int):upto n n F=((List.range n).map F).map λx=>AV.v (.int .i64 x):=by
 refine List.ext_getElem (by simp [upto]) λj h1 h2=>?_;have hj:j < n:=by simpa [upto] using h1
 simp [upto,hj]
theorem Zv9 (a b:List Int) (g:Nat) (F:Int→Int→Int) (ha:a.length≤1000) (hb:b.length≤1000)
 (hF:∀k,k < max a.length b.length→Pure prog g [.v (.int .i64 (gI a k)),.v (.int .i64 (gI b k))] (.v (.int .i64 (F (gI a k) (gI b k))))):Pure prog 281 [ints a,ints b,.fn g []] (ints (zipI F a b)):=by
 unfold ints;refine Zaa (tok:=0) (rs:=[.tmp 6]) func281 rfl ntmps281 results281 call281 zr zs ?_;obtain⟨n,hn⟩:∃n,n=max a.length b.length:=⟨_,rfl⟩;have hmx:max (a.length:Int) (b.length:Int)=(n:Int):=zo
 (repeat' (first|(with_reducible first|refine stp ?_|apply gx1|apply gx2|apply gx3|apply gx4|apply gx5|apply gx6|apply gx7)|(with_reducible refine Zcm ?_;intro _)|((with_reducible refine gE ?_);(try simp (disch:=omega) only [go_sem,hmx,Zoy,ZB4,ZB3,ZBv,ZBu,Int.reduceAdd,Int.reduceSub,Int.reduceToNat,ZB9])<;>first|rfl|omega)|with_reducible refine Zak zd ?_|((with_reducible first|apply Zev|apply Zex);all_goals (intro hc;(try simp only [bool_to_prop] at hc);try (exfalso;omega)))))
 rename_i sv;refine Ztv (ι:=Nat) (λk st=>k≤n∧st.env 0=.sl 1 (a.map λn=>AV.v (.int .i64 n))∧st.env 1=.sl 1 (b.map λn=>AV.v (.int .i64 n))∧st.env 2=.fn g []∧st.env 7=.own 16 sv∧st.env 18=.v (.int .i64 n)∧st.env 19=.v (.int .i64 k)∧st.mem 16=some (.row sv 3 1 (upto n k λi=>F (gI a i) (gI b i)) 0)) (λk=>n - k) 0 zr ?_ ?_
 ·rintro k st ⟨hk,e0,e1,e2,e7,e18,e19,em⟩
  have hu:=upto_len n k λi=>F (gI a i) (gI b i);by_cases hlt:k < n
  ·have hFk:=hF k zo;have hst:=@upto_set n k (λi=>F (gI a i) (gI b i)) hlt;have key:∀(x y:Int) (Q:AE→St→Prop),gI a k=x→gI b k=y→True:=λ_ _ _ _ _=>trivial;by_cases h1:k < a.length<;>by_cases h2:k < b.length
   ·(focus (refine wkap (w_10 e0 e1 e2 e7 e18 e19 em hmx hu hst) (w_1 hFk) (w_r 0) ?_;(repeat' first|exact w_t|apply w_l);all_goals intros));refine⟨k+1,⟨zo,by simp (disch:=omega) only [go_sem,e0],by simp (disch:=omega) only [go_sem,e1],by simp (disch:=omega) only [go_sem,e2],by simp (disch:=omega) only [go_sem,e7],by simp (disch:=omega) only [go_sem,e18],by simp (disch:=omega) only [go_sem,e19];rfl,by simp (disch:=omega) only [go_sem]⟩,zo⟩
   ·have g2:=Zcw (l:=b) (k:=k) zo;rw [g2] at hFk;rw [g2] at hst;(focus (refine wkap (w_10 e0 e1 e2 e7 e18 e19 em hmx hu hst) (w_1 hFk) (w_r 0) ?_;(repeat' first|exact w_t|apply w_l);all_goals intros));refine⟨k+1,⟨zo,by simp (disch:=omega) only [go_sem,e0],by simp (disch:=omega) only [go_sem,e1],by simp (disch:=omega) only [go_sem,e2],by simp (disch:=omega) only [go_sem,e7],by simp (disch:=omega) only [go_sem,e18],by simp (disch:=omega) only [go_sem,e19];rfl,by simp (disch:=omega) only [go_sem]⟩,zo⟩
   ·have g2:=Zcw (l:=a) (k:=k) zo;rw [g2] at hFk;rw [g2] at hst;(focus (refine wkap (w_10 e0 e1 e2 e7 e18 e19 em hmx hu hst) (w_1 hFk) (w_r 0) ?_;(repeat' first|exact w_t|apply w_l);all_goals intros));refine⟨k+1,⟨zo,by simp (disch:=omega) only [go_sem,e0],by simp (disch:=omega) only [go_sem,e1],by simp (disch:=omega) only [go_sem,e2],by simp (disch:=omega) only [go_sem,e7],by simp (disch:=omega) only [go_sem,e18],by simp (disch:=omega) only [go_sem,e19];rfl,by simp (disch:=omega) only [go_sem]⟩,zo⟩
   ·exfalso;omega
  ·have hk':k=n:=zo;subst hk';(focus (refine wkap (w_8 e0 e1 e2 e7 e18 e19 em hmx) w_t (w_r 0) ?_;(repeat' first|exact w_t|apply w_l);all_goals intros));unfold zipI;rw [←hn,←Zww];simp (disch:=omega) only [go_sem,em]
 ·exact⟨ZB5 _,by simp (disch:=omega) only [go_sem],by simp (disch:=omega) only [go_sem],by simp (disch:=omega) only [go_sem],by simp (disch:=omega) only [go_sem],by simp (disch:=omega) only [go_sem],by simp (disch:=omega) only [go_sem];rfl,by simp (disch:=omega) only [go_sem,←Zoy]⟩
theorem zipI_len (F:Int→Int→Int) (a b:List Int):(zipI F a b).length=max a.length b.length:=by simp [zipI]
def Wd (l:List Int):Prop:=l.length≤1000∧∀j,-4503599627370496≤gI l j∧gI l j≤4503599627370496
theorem Sm.wd {l:List Int} (h:Sm l):Wd l:=⟨h.1,λj=>by have:=h.2 j;omega⟩
theorem monMul (a b:List Int) (ha:Wd a) (hb:Wd b):Pure prog 242 [ints a,ints b] (ints (Zj8 (zipI (·+·) a b))):=by
 have h1:=Zv9 a b 282 (·+·) ha.1 hb.1 λk _=>addF _ _ (by have:=ha.2 k;have:=hb.2 k;omega);have h2:=monTrim (zipI (·+·) a b) (by rw [zipI_len];have:=ha.1;have:=hb.1;omega);unfold ints at *;refine Zaa (tok:=0) (rs:=[.tmp 4]) func242 rfl ntmps242 results242 call242 zr zs ?_;(focus (refine wkap w_t (w_2 h1 h2) (w_r 0) ?_;(repeat' first|exact w_t|apply w_l);all_goals intros));simp (disch:=omega) only [go_sem]
def divI (a b:List Int):Bool:=(List.range a.length).all λi=>decide (gI a i≤gI b i)
theorem Zzb (b:List Int) (k:Nat):Pure prog 284 [.sl 1 (b.map λn=>AV.v (.int .i64 n)),.v (.int .i64 k)] (.v (.int .i64 (gI b k))):=by
 have:=monExp b k
 rwa [exp_of] at this
def copI (a b:List Int):Bool:=(List.range a.length).all λi=>decide (gI a i=0∨gI b i=0)
def outL (F:Nat→Int) (k:Nat):List AV:=(List.range k).map λi=>AV.v (.int .i64 (F i))
def quoI (a b:List Int):List Int:=if divI b a=true then Zj8 (zipI (· - ·) a b) else []
def quoR (a b:List Int):List Int:=if divI b a=true then Zj8 ((List.range a.length).map λi=>gI a i - gI b i) else []
section
theorem sz23:szOf prog 213=some 1:=by kernel_rfl
attribute [local go_sem] sz23
def normI (l:List Int):List Int:=if rightB (Zj8 l)=true then Zj8 l else []
def lt1 (x y:Int):Int:=if x < y then -1 else 1
def lexC (a b:List Int):Nat→Int
 | 0=>0
 | n+1=>if gI a n=gI b n then lexC a b n else lt1 (gI a n) (gI b n)
def cmpI (a b:List Int) (o:Int):Int :=
 if o=1∧sumT a a.length≠sumT b b.length then lt1 (sumT a a.length) (sumT b b.length) else lexC a b (max a.length b.length)
theorem Zzn {a b:List Int} {k:Nat} (h0:0 < k) (h:gI a (k - 1)=gI b (k - 1)):lexC a b (k - 1)=lexC a b k:=by
 cases k with
 | zero=>omega
 | succ k=>simp only [lexC];rw [ZBv (by simpa using h)];rfl
theorem Zzp {a b:List Int} {k:Nat} (h0:0 < k) (h:gI a (k - 1)≠gI b (k - 1)):lexC a b k=lt1 (gI a (k - 1)) (gI b (k - 1)):=by
 cases k with
 | zero=>omega
 | succ k=>simp only [lexC];rw [ZBu (by simpa using h)];rfl
theorem monCmp (a b:List Int) (o:Int) (ha:Sm a) (hb:Sm b):Pure prog 243 [ints a,ints b,.v (.int .i64 o)] (.v (.int .i64 (cmpI a b o))):=by
 have hal:=ha.1;have hbl:=hb.1;have d1:=Zp1 a ha;have d2:=Zp1 b hb;unfold ints at *;refine Zaa (tok:=0) (rs:=[.tmp 6]) func243 rfl ntmps243 results243 call243 zr zs ?_;obtain⟨n,hn⟩:∃n,n=max a.length b.length:=⟨_,rfl⟩;have hmx:max (a.length:Int) (b.length:Int)=(n:Int):=zo;by_cases hbig:o=1∧sumT a a.length≠sumT b b.length
 ·obtain⟨ho,hd⟩:=hbig;have hc:cmpI a b o=lt1 (sumT a a.length) (sumT b b.length):=by unfold cmpI;rw [ZBv ⟨ho,hd⟩]
  rw [hc];unfold lt1;by_cases hlt:sumT a a.length < sumT b b.length
  ·rw [ZBv hlt];(focus (refine wklp w_t (w_2 d1 d2) w_t (w_r 0) ?_;(repeat' first|exact w_t|apply w_l);all_goals intros))
  ·rw [ZBu hlt];(focus (refine wklp w_t (w_2 d1 d2) w_t (w_r 0) ?_;(repeat' first|exact w_t|apply w_l);all_goals intros))
 ·have hc:cmpI a b o=lexC a b n:=by unfold cmpI;rw [ZBu hbig,hn]
  rw [hc];have loop:∀(e:Nat→AV) (m:Mem),e 0=.sl 1 (a.map λn=>AV.v (.int .i64 n))→e 1=.sl 1 (b.map λn=>AV.v (.int .i64 n))→True:=λ_ _ _ _=>trivial;have hd0:o=1→sumT a a.length=sumT b b.length:=λho=>Decidable.byContradiction λh=>hbig ⟨ho,h⟩;by_cases ho:o=1;all_goals
   first
   | (have hd:=hd0 ho
      (focus (refine wkap (w_1 hmx) (w_2 d1 d2) (w_r 0) ?_;(repeat' first|exact w_t|apply w_l);all_goals intros)))
   | ((focus (refine wkap (w_1 hmx) w_t (w_r 0) ?_;(repeat' first|exact w_t|apply w_l);all_goals intros)))
   refine Zad (ι:=Nat) (λk e m=>k≤n∧e 0=.sl 1 (a.map λn=>AV.v (.int .i64 n))∧e 1=.sl 1 (b.map λn=>AV.v (.int .i64 n))∧e 9=.v (.int .i64 ((k:Int) - 1))∧lexC a b k=lexC a b n) (λk=>k) n zr ?_ ?_
   ·rintro k e m ⟨hk,e0,e1,e9,hl⟩
    by_cases hk0:0 < k
    ·have hp:=Zqp hk0;rw [hp] at e9;have x1:=Zzb a (k - 1);have x2:=Zzb b (k - 1);by_cases hx:gI a (k - 1)=gI b (k - 1)
     ·(focus (refine wkap (w_3 e0 e1 e9) (w_2 x1 x2) (w_r 0) ?_;(repeat' first|exact w_t|apply w_l);all_goals intros));exact⟨k - 1,⟨zo,gW e0,gW e1,gW e9,by rw [Zzn hk0 hx,hl]⟩,zo⟩
     ·rw [←hl,Zzp hk0 hx];unfold lt1;by_cases hlt:gI a (k - 1) < gI b (k - 1)
      ·rw [ZBv hlt];(focus (refine wklp (w_3 e0 e1 e9) (w_2 x1 x2) w_t (w_r 0) ?_;(repeat' first|exact w_t|apply w_l);all_goals intros))
      ·rw [ZBu hlt];(focus (refine wklp (w_3 e0 e1 e9) (w_2 x1 x2) w_t (w_r 0) ?_;(repeat' first|exact w_t|apply w_l);all_goals intros))
    ·have hk':k=0:=zo;subst hk';rw [←hl,show lexC a b 0=0 from rfl];(focus (refine wklp (w_3 e0 e1 e9) w_t w_t (w_r 0) ?_;(repeat' first|exact w_t|apply w_l);all_goals intros))
   ·exact⟨ZBw _,gC,gC,gW hmx,rfl⟩
end
attribute [go_sem] sz23
def low (x:Int):Bool:=!decide (262144 < x)
def rightL (ls:List (List Int)):Bool:=ls.all λl=>rightB l && l.all low
def gLs (ls:List (List Int)) (k:Nat):List Int:=ls.getD k []
structure RQ where
 s:Bool
 l:List Nat
 d:List Nat
def RQ.lm (r:RQ) (k:Nat):Prop:=Lm r.l∧Lm r.d∧r.l.length≤k∧r.d.length≤k
abbrev RQ.av (r:RQ):AV:=.agg [.v (.bool r.s),lim r.l,lim r.d]
def RQ.zok (s:Bool) (l:List Nat):Bool:=valL l && !(s && decide (l.length=0))
def RQ.ok (r:RQ):Bool:=RQ.zok r.s r.l && valL r.d && (Nat.gcd (nv r.l) (nv r.d) == 1) && decide (0 < r.d.length)
def RQ.q (r:RQ):Rat:=mkRat (zI r.s (nv r.l)) (nv r.d)
theorem RQ.ok_av {r:RQ} {k:Nat} (hl:r.lm k) (h:r.ok=true):r.av=ratQ r.q∧Sz r.q k:=by
 obtain⟨s,l,d⟩:=r;obtain⟨h1,h2,h3,h4⟩:=hl;simp only [RQ.ok,RQ.zok,ZCm,ZCs,ZEd,ZDw] at h;obtain⟨⟨⟨⟨v1,v2⟩,v3⟩,v4⟩,v5⟩:=h;have e1:=(Zin h1).1 v1;have e2:=(Zin h2).1 v3;simp only [RQ.av,RQ.q] at *;generalize nv l=n at *;generalize nv d=m at *;subst e1;subst e2;have hm:m≠0:=by have:=Za6.1 v5;omega
 have hs:decide (zI s n < 0)=s:=by
  rw [zI_lt];cases s
  ·rfl
  ·have:(toL n).length≠0:=by simpa using v2
   rw [ZB4 (Za6.1 zo)];rfl
 refine⟨?_,Sz.mk (by rw [Zd7];exact h3) h4 zo⟩;rw [Zro _ _ hm,Zd7,v4,ZFm,ZFm,hs]
theorem Zq0 {a b:Nat}:toL a=toL b↔a=b:=⟨λh=>by rw [←Zap a,h,Zap],λh=>by rw [h]⟩
theorem zRight (s:Bool) (l:List Nat) (hs:l.length≤100000000) (hl:Lm l):Pure prog 123 [.agg [.v (.bool s),lim l]] (.v (.bool (RQ.zok s l))):=by
 have cv:=Ztq l zo hl;unfold RQ.zok;generalize valL l=v at *;cases v
 ·refine pI func123 rfl ntmps123 results123 call123 ?_
  (refine wkvp (w_1 @ZCz) (w_1 cv) (w_s ?_);intros)
  simp (disch:=omega) only [go_sem,ZCz]
 ·cases s
  ·refine pI func123 rfl ntmps123 results123 call123 ?_
   (refine wkvp (w_1 @ZCz) (w_1 cv) (w_s ?_);intros)
   simp (disch:=omega) only [go_sem,ZCz]
  ·by_cases h0:l.length=0
   ·refine pI func123 rfl ntmps123 results123 call123 ?_
    (refine wkvp (w_2 h0 @ZDp) (w_1 cv) (w_s ?_);intros)
    simp (disch:=omega) only [go_sem,h0]
   ·refine pI func123 rfl ntmps123 results123 call123 ?_
    (refine wkvp w_t (w_1 cv) (w_s ?_);intros)
    simp (disch:=omega) only [go_sem,h0,ZB3 h0]
theorem Ztw (s:Bool) (l d:List Nat) (h1:Lm l) (h2:Lm d) (h3:l.length≤100000000) (h4:d.length≤100000000):Pure prog 71 [.agg [.v (.bool s),lim l,lim d]] (.v (.bool (RQ.ok ⟨s,l,d⟩))):=by
 have cz:=zRight s l h3 h1;have cv:=Ztq d zo h2;have cg:=refGcd l d zo zo h1 h2
 have hgl:(toL (Nat.gcd (nv l) (nv d))).length≤100000000:=by
  have l1:=Zau h1;have l2:=Zau h2;by_cases hd:nv d=0
  ·rw [hd,Nat.gcd_zero_right];omega
  ·exact ZB1 (Zd4 (Nat.gcd_le_right _ zo)) zo
 have cs:=Ztr (toL (Nat.gcd (nv l) (nv d))) (toL 1) zo (by rw [Zed];omega) (Zar _) (Zar _);rw [show decide (toL (Nat.gcd (nv l) (nv d))=toL 1)=(Nat.gcd (nv l) (nv d) == 1) from by rw [ZCk,ZCs,ZDw];exact Zq0] at cs;unfold RQ.ok;generalize RQ.zok s l=v at *;simp only;generalize Nat.gcd (nv l) (nv d)=g at *;cases v
 ·refine pI func71 rfl ntmps71 results71 call71 ?_
  (refine wkvp (w_1 @ZCz) (w_1 cz) (w_s ?_);intros)
  simp (disch:=omega) only [go_sem,ZCz]
 ·generalize valL d=v at *;cases v
  ·refine pI func71 rfl ntmps71 results71 call71 ?_
   (refine wkvp (w_1 @ZCz) (w_2 cz cv) (w_s ?_);intros)
   simp (disch:=omega) only [go_sem,ZCz]
  ·by_cases hg:g=1
   ·have hgb:(g == 1)=true:=by rw [ZDw];exact hg
    rw [hgb] at cs ⊢;by_cases hd:0 < d.length
    ·rw [ZB4 hd];refine pI func71 rfl ntmps71 results71 call71 ?_
     (refine wkvp w_t (w_5 cz cv cg (Zk7 1 zo) cs) (w_s ?_);intros)
     simp (disch:=omega) only [go_sem]
    ·rw [ZB3 hd];refine pI func71 rfl ntmps71 results71 call71 ?_
     (refine wkvp w_t (w_5 cz cv cg (Zk7 1 zo) cs) (w_s ?_);intros)
     simp (disch:=omega) only [go_sem,ZGa]
   ·have hgb:(g == 1)=false:=by rw [ZGk];exact hg
    rw [hgb] at cs ⊢;refine pI func71 rfl ntmps71 results71 call71 ?_
    (refine wkvp (w_2 @ZGa @ZCz) (w_5 cz cv cg (Zk7 1 zo) cs) (w_s ?_);intros)
    simp (disch:=omega) only [go_sem,ZGa,ZCz]
section
variable {N n:Nat} {cs:List AV}
theorem agN16:Zhb prog 161=false:=by kernel_rfl
theorem cs16:prog.cellsOf 161=1:=by kernel_rfl
theorem shNat (h:Zcc prog N n 24 cs):∃l:List Nat,cs=[lim l]∧Lm l∧l.length≤N:=by
 obtain⟨bs,rfl,hl,hq⟩:=Zcl (g:=λk:Nat=>[AV.v (.int .u16 (k:Int))]) (Q:=λk=>k < 65536) underlying24 h λm x hx=>by
  obtain⟨i,rfl,hw⟩:=Zdm underlying161 hx;have:=wf_u16 hw;exact⟨i.toNat,by rw [ZG1 this.1],zo⟩
 refine⟨bs,?_,hq,hl⟩;rw [cs16];have:(bs.map λb:Nat=>Zc4 prog 161 [AV.v (.int .u16 (b:Int))])=u16s bs:=ZEg λb _=>Zku agN16 _;rw [this]
theorem shInt (h:Zcc prog N n 26 cs):∃(s:Bool) (l:List Nat),cs=[.v (.bool s),lim l]∧Lm l∧l.length≤N:=by
 obtain⟨m,rfl,hs⟩:=Zb7 underlying26 zk h;obtain⟨x,y,rfl,h1,hs⟩:=hs.inv;obtain⟨z,y,rfl,h2,hs⟩:=hs.inv;obtain rfl:=hs.inv0;obtain⟨s,rfl⟩:=Zvq underlying4 h1;obtain⟨l,rfl,h3,h4⟩:=shNat h2;exact⟨s,l,rfl,h3,h4⟩
theorem shRat (h:Zcc prog N n 28 cs):∃r:RQ,cs=[.v (.bool r.s),lim r.l,lim r.d]∧r.lm N:=by
 obtain⟨m,rfl,hs⟩:=Zb7 underlying28 zk h;obtain⟨x,y,rfl,h1,hs⟩:=hs.inv;obtain⟨z,y,rfl,h2,hs⟩:=hs.inv;obtain rfl:=hs.inv0;obtain⟨s,l,rfl,h3,h4⟩:=shInt h1;obtain⟨d,rfl,h5,h6⟩:=shNat h2;exact⟨⟨s,l,d⟩,rfl,h3,h5,h4,h6⟩
structure RP where
 x:RQ
 y:RQ
abbrev RP.av (p:RP):AV:=.agg [.v (.bool p.x.s),lim p.x.l,lim p.x.d,.v (.bool p.y.s),lim p.y.l,lim p.y.d]
def RP.lm (p:RP) (k:Nat):Prop:=p.x.lm k∧p.y.lm k
end
theorem intOfM:Pure prog 67 [iv (-1)] (intZ (-1)):=by
 have hm:=Zji true 1 (by rw [Zed];omega);have hn:=natOf 1 zo;rw [show zI true 1=-1 from rfl] at hm;rw [show intZ (-1)=.agg [.v (.bool true),lim (toL 1)] from rfl] at hm ⊢;generalize toL 1=l at *;refine pI func67 rfl ntmps67 results67 call67 ?_;exact wklp w_t (w_2 hn hm) w_t (w_r 0) w_z
theorem ratOfM:Pure prog 27 [iv (-1)] (ratQ (-1)):=by
 have c:=intOfM;rw [show intZ (-1)=.agg [.v (.bool true),lim (toL 1)] from rfl] at c;rw [show ratQ (-1)=.agg [.v (.bool true),lim (toL 1),lim (toL 1)] from rfl];have u:=Zrn;generalize toL 1=l at *;refine pI func27 rfl ntmps27 results27 call27 ?_;exact wklp w_t (w_2 c u) w_t (w_r 0) w_z
theorem Zmh:szOf prog 143=some 1:=by kernel_rfl
theorem Zvf:Zao prog 143=some (.pointer none):=by kernel_rfl
theorem Zvn:szOf prog 198=some 1:=by kernel_rfl
theorem zFnC:Zao prog 198=some (.nilFunc):=by kernel_rfl
theorem ZA9 (x:Nat) (hx:x < 256):Pure prog 272 [.v (.int .u64 (x:Int))] (iv (len8 x:Nat)):=by
 refine Zaa (tok:=0) (rs:=[.tmp 2]) func272 rfl ntmps272 results272 call272 zr zs ?_;have b:=Zgg (i:=x) zo
 (repeat' (first|(apply Zrz (g:=len8) (n:=256) zk zk zo)|(with_reducible first|refine stp ?_|apply gx1|apply gx2|apply gx3|apply gx4|apply gx5|apply gx6|apply gx7)|(with_reducible refine Zcm ?_;intro _)|((with_reducible refine gE ?_);(try simp (disch:=omega) only [go_sem])<;>first|rfl|omega)|with_reducible refine Zak zd ?_))
 simp (disch:=omega) only [go_sem,ZB9]
theorem bitsLen (x:Nat) (hx:x < 256):Pure prog 227 [.v (.int .u64 (x:Int))] (iv (len8 x:Nat)):=by
 have c:=ZA9 x hx;generalize ((len8 x:Nat):Int)=r at *;refine pI func227 rfl ntmps227 results227 call227 ?_
 (refine wkap w_t (w_1 c) (w_r 0) (w_s ?_);intros)
 all_goals exact gL
theorem szXs:szOf prog 313=some 1:=by kernel_rfl
theorem byXs:Zem prog 313=some 8:=by kernel_rfl
theorem zXs:Zao prog 313=some (.int .u64 0):=by kernel_rfl
theorem zSum:Zao prog 227=some (.agg #[.map none,.slice none 0 0]):=by kernel_rfl
theorem zMap:Zao prog 225=some (.map none):=by kernel_rfl
theorem ratEqual (a b:Rat) {j k:Nat} (ha:Sz a j) (hb:Sz b k) (hj:j≤1000000) (hk:k≤1000000):Pure prog 111 [ratQ a,ratQ b] (.v (.bool (decide (a=b)))):=by
 have c:=ratCmp a b ha hb zo zo
 have e:(cmpQ a b == 0)=decide (a=b):=by
  rw [ZCk,ZDw,ZCs];unfold cmpQ;constructor
  ·intro h;split at h
   ·omega
   ·split at h
    ·omega
    ·rename_i h1 h2;exact Rat.le_antisymm (Rat.not_lt.1 h2) (Rat.not_lt.1 h1)
  ·rintro rfl
   simp
 rw [←e];generalize cmpQ a b=s at *;refine pI func111 rfl ntmps111 results111 call111 ?_
 (refine wkvp w_t (w_1 c) (w_s ?_);intros)
 simp (disch:=omega) only [go_sem]
theorem szOpn:szOf prog 163=some 1:=by kernel_rfl
theorem zOpn:Zao prog 163=some (.agg #[.nilFunc]):=by kernel_rfl
theorem szFnR:szOf prog 93=some 1:=by kernel_rfl
theorem zFnR:Zao prog 93=some (.nilFunc):=by kernel_rfl
theorem undFnR:prog.underlying 93=some (.func #[28,28] #[28] false):=by kernel_rfl
theorem szFr:szOf prog 47=some 2:=by kernel_rfl
theorem byFr:Zem prog 47=some 48:=by kernel_rfl
theorem zFr:Zao prog 47=some (.agg #[.slice none 0 0,.slice none 0 0]):=by kernel_rfl
theorem Zca:szOf prog 346=some 1:=by kernel_rfl
theorem Zcb:Zem prog 34=some 24:=by kernel_rfl
theorem zSQP:Zao prog 346=some (.slice none 0 0):=by kernel_rfl
section
variable {N n:Nat} {cs:List AV}
theorem shQuantP (h:Zcc prog N n 91 cs):∃k a b c:Int,cs=[iv k,iv a,iv b,iv c]:=by
 obtain⟨m,rfl,hs⟩:=Zb7 underlying91 zk h;obtain⟨x,y,rfl,h1,hs⟩:=hs.inv;obtain⟨x2,y,rfl,h2,hs⟩:=hs.inv;obtain⟨x3,y,rfl,h3,hs⟩:=hs.inv;obtain⟨x4,y,rfl,h4,hs⟩:=hs.inv;obtain rfl:=hs.inv0;obtain⟨k,rfl,_⟩:=Zdm underlying3 h1;obtain⟨a,rfl,_⟩:=Zdm underlying3 h2;obtain⟨b,rfl,_⟩:=Zdm underlying3 h3;obtain⟨c,rfl,_⟩:=Zdm underlying3 h4;exact⟨k,a,b,c,rfl⟩
theorem ZBh (cs:List AV):Zc4 prog 91 cs=.agg cs:=Zfv underlying91 cs
end
attribute [go_sem] underlying76
def RQ.tiny (r:RQ):Bool:=decide (r.l.length≤2) && decide (r.d.length≤2) && r.ok
theorem RQ.tiny_av {r:RQ} (h1:Lm r.l) (h2:Lm r.d) (h:r.tiny=true):r.av=ratQ r.q∧Sz r.q 2:=by
 unfold RQ.tiny at h;simp only [ZCm,ZCs] at h;exact RQ.ok_av ⟨h1,h2,h.1.1,h.1.2⟩ h.2
def RP.tiny (p:RP):Bool:=p.x.tiny && p.y.tiny
def RP.q (p:RP):PQ:=(p.x.q,p.y.q)
theorem RP.tiny_av {p:RP} {k:Nat} (hl:p.lm k) (h:p.tiny=true):p.av=p.q.av∧p.q.sz 2:=by
 unfold RP.tiny at h;simp only [ZCm] at h;obtain⟨ex,sx⟩:=RQ.tiny_av hl.1.1 hl.1.2.1 h.1;obtain⟨ey,sy⟩:=RQ.tiny_av hl.2.1 hl.2.2.1 h.2;refine⟨?_,sx,sy⟩;show AV.agg (p.x.av.cells++p.y.av.cells)=AV.agg ((ratQ p.x.q).cells++(ratQ p.y.q).cells);rw [ex,ey]
theorem rqTiny (r:RQ) (h:r.lm 9223372036854775807):Pure prog 44 [.agg [.v (.bool r.s),lim r.l,lim r.d]] (.v (.bool r.tiny)):=by
 obtain⟨s,l,d⟩:=r;obtain⟨h1,h2,h3,h4⟩:=h;unfold RQ.tiny;simp only at *;by_cases hl:l.length≤2
 ·by_cases hd:d.length≤2
  ·have c:=Ztw s l d h1 h2 zo zo;generalize RQ.ok ⟨s,l,d⟩=v at *;rw [ZB4 hl,ZB4 hd];refine pI func44 rfl ntmps44 results44 call44 ?_;exact wklp (w_1 @Za5) (w_1 c) (w_1 @ZDn) (w_r 0) w_z
  ·rw [ZB4 hl,ZB3 hd];refine pI func44 rfl ntmps44 results44 call44 ?_;exact wklp (w_1 @Za5) w_t (w_2 @ZDn @ZCz) (w_r 0) w_z
 ·rw [ZB3 hl];refine pI func44 rfl ntmps44 results44 call44 ?_;exact wklp (w_1 @Za5) w_t (w_1 @ZCz) (w_r 0) w_z
def mildB (ps:List RP) (rs:List RQ):Bool:=decide (ps.length≤10) && decide (rs.length≤10) && ps.all RP.tiny && rs.all RQ.tiny
theorem Zm2 (A B C:PQ):Zdy A B A C=- Zdy B A B C:=by unfold Zdy;grind
theorem Zf8 (A B C:PQ):Zdy A B A C=Zdy B C B A:=by unfold Zdy;grind
theorem dot_swap (A B C:PQ):dotP B A B C=dotP B C B A:=by unfold dotP;grind
theorem Zv5 {k a b c:Int} {ps:List PQ} {rs:List Rat} (h:Qt.chk ⟨k,a,b,c⟩ ps.length rs.length=0) (hl:ps.length≤40) :
 (Qt.norm ⟨k,a,b,c⟩=(Qt.zero,0)∧Qt.val ⟨k,a,b,c⟩ ps rs=0) ∨
 (∃(k1 a1 b1 c1 s:Int),Qt.norm ⟨k,a,b,c⟩=(⟨k1,a1,b1,c1⟩,s)∧(s=1∨s=-1)∧Qt.norm ⟨k1,a1,b1,c1⟩=(⟨k1,a1,b1,c1⟩,1)∧Qt.chk ⟨k1,a1,b1,c1⟩ ps.length rs.length=0∧Qt.val ⟨k,a,b,c⟩ ps rs=Qt.val ⟨k1,a1,b1,c1⟩ ps rs*(s:Rat)):=by
 have hh:=chk_val h
 have hok:Qt.ok ⟨k,a,b,c⟩=true:=by
  unfold Qt.chk at h;split at h
  ·assumption
  ·omega
 rcases hh with⟨rfl,h1,h2,h3⟩ | ⟨h0,h1,h2,h3,h4⟩
 ·have hn:Qt.norm ⟨3,a,b,c⟩=(⟨3,a,b,c⟩,1):=by
   unfold Qt.norm;rw [ZBv hok];rfl
  refine .inr ⟨3,a,b,c,1,hn,.inl rfl,hn,h,?_⟩;rw [show((1:Int):Rat)=1 from rfl,ZGc]
 ·have okN:∀k x y z:Int,(k=1∨k=2)→(0≤x∧x < ps.length)→(0≤y∧y < ps.length)→(0≤z∧z < ps.length)→Qt.ok ⟨k,x,y,z⟩=true:=by
   intro k x y z hk hx hy hz;unfold Qt.ok;rw [ZCs];simp only;omega
  have chN:∀k x y z:Int,(k=1∨k=2)→(0≤x∧x < ps.length)→(0≤y∧y < ps.length)→(0≤z∧z < ps.length)→Qt.chk ⟨k,x,y,z⟩ ps.length rs.length=0:=by
   intro k x y z hk hx hy hz;unfold Qt.chk;rw [ZBv (okN k x y z hk hx hy hz)];simp only;rw [ZBu zo,ZBu zo]
  rcases h1 with rfl | rfl
  ·have v1:∀x y z:Int,Qt.val ⟨1,x,y,z⟩ ps rs=Zdy (ps.getD x.toNat (0,0)) (ps.getD y.toNat (0,0)) (ps.getD x.toNat (0,0)) (ps.getD z.toNat (0,0)):=λx y z=>by unfold Qt.val;rfl
   have nN:∀x y z:Int,(0≤x∧x < ps.length)→(0≤y∧y < ps.length)→(0≤z∧z < ps.length)→Qt.norm ⟨1,x,y,z⟩=Zek x y z:=by
    intro x y z hx hy hz;unfold Qt.norm;rw [ZBv (okN 1 x y z (.inl rfl) hx hy hz)];rfl
   have nS:∀x y z:Int,x < y→y < z→Zek x y z=(⟨1,x,y,z⟩,1):=by
    intro x y z hxy hyz;unfold Zek;rw [ZBu zo,ZBv hxy,ZBv hyz]
   rw [nN a b c h2 h3 h4,v1];have one:∀x:Rat,x=x*((1:Int):Rat):=λx=>by rw [show((1:Int):Rat)=1 from rfl,ZGc]
   have neg:∀x:Rat,-x=x*((-1:Int):Rat):=λx=>by rw [show((-1:Int):Rat)=-1 from rfl];grind
   by_cases he:a=b∨b=c∨a=c
   ·refine .inl ⟨by unfold Zek;rw [ZBv he],?_⟩;rcases he with rfl | rfl | rfl
    ·unfold Zdy;grind
    ·unfold Zdy;grind
    ·unfold Zdy;grind
   ·have fin:∀(x y z:Int) (s:Int),Zek a b c=(⟨1,x,y,z⟩,s)→x < y→y < z→(0≤x∧x < ps.length)→(0≤y∧y < ps.length)→(0≤z∧z < ps.length)→(s=1∨s=-1) →
     Zdy (ps.getD a.toNat (0,0)) (ps.getD b.toNat (0,0)) (ps.getD a.toNat (0,0)) (ps.getD c.toNat (0,0))=Qt.val ⟨1,x,y,z⟩ ps rs*(s:Rat) →
     ∃(k1 a1 b1 c1 s:Int),Zek a b c=(⟨k1,a1,b1,c1⟩,s)∧(s=1∨s=-1)∧Qt.norm ⟨k1,a1,b1,c1⟩=(⟨k1,a1,b1,c1⟩,1)∧Qt.chk ⟨k1,a1,b1,c1⟩ ps.length rs.length=0∧Zdy (ps.getD a.toNat (0,0)) (ps.getD b.toNat (0,0)) (ps.getD a.toNat (0,0)) (ps.getD c.toNat (0,0))=Qt.val ⟨k1,a1,b1,c1⟩ ps rs*(s:Rat) :=
     λx y z s e hxy hyz hx hy hz hs hv=>⟨1,x,y,z,s,e,hs,by rw [nN x y z hx hy hz,nS x y z hxy hyz],chN 1 x y z (.inl rfl) hx hy hz,hv⟩
    right;by_cases h5:a < b
    ·by_cases h6:b < c
     ·exact fin a b c 1 (by unfold Zek;rw [ZBu he,ZBv h5,ZBv h6]) h5 h6 h2 h3 h4 (.inl rfl) (by rw [v1];exact one _)
     ·by_cases h7:a < c
      ·exact fin a c b (-1) (by unfold Zek;rw [ZBu he,ZBv h5,ZBu h6,ZBv h7]) h7 zo h2 h4 h3 (.inr rfl) (by rw [v1,←neg,Zf8,Zm2,Zf8 (ps.getD a.toNat (0,0))])
      ·exact fin c a b 1 (by unfold Zek;rw [ZBu he,ZBv h5,ZBu h6,ZBu h7]) zo h5 h4 h2 h3 (.inl rfl) (by rw [v1,←one,Zf8,Zf8])
    ·by_cases h6:a < c
     ·exact fin b a c (-1) (by unfold Zek;rw [ZBu he,ZBu h5,ZBv h6]) zo h6 h3 h2 h4 (.inr rfl) (by rw [v1,←neg];exact Zm2 _ _ _)
     ·by_cases h7:b < c
      ·exact fin b c a 1 (by unfold Zek;rw [ZBu he,ZBu h5,ZBu h6,ZBv h7]) h7 zo h3 h4 h2 (.inl rfl) (by rw [v1,←one];exact Zf8 _ _ _)
      ·exact fin c b a (-1) (by unfold Zek;rw [ZBu he,ZBu h5,ZBu h6,ZBu h7]) zo zo h4 h3 h2 (.inr rfl) (by rw [v1,←neg];unfold Zdy;grind)
  ·have v2:∀x y z:Int,Qt.val ⟨2,x,y,z⟩ ps rs=2*dotP (ps.getD y.toNat (0,0)) (ps.getD x.toNat (0,0)) (ps.getD y.toNat (0,0)) (ps.getD z.toNat (0,0)):=λx y z=>by unfold Qt.val;rfl
   have nN:∀x y z:Int,(0≤x∧x < ps.length)→(0≤y∧y < ps.length)→(0≤z∧z < ps.length)→Qt.norm ⟨2,x,y,z⟩=Zfp x y z:=by
    intro x y z hx hy hz;unfold Qt.norm;rw [ZBv (okN 2 x y z (.inr rfl) hx hy hz)];rfl
   have one:∀x:Rat,x=x*((1:Int):Rat):=λx=>by rw [show((1:Int):Rat)=1 from rfl,ZGc]
   rw [nN a b c h2 h3 h4,v2];by_cases he:a=b∨b=c
   ·refine .inl ⟨by unfold Zfp;rw [ZBv he],?_⟩;rcases he with rfl | rfl
    ·unfold dotP;grind
    ·unfold dotP;grind
   ·right;by_cases h5:a=c∧b < a
    ·obtain⟨rfl,h6⟩:=h5;refine⟨2,b,a,b,1,by unfold Zfp;rw [ZBu he,ZBv ⟨rfl,h6⟩],.inl rfl,?_,chN 2 b a b (.inr rfl) h3 h2 h3,?_⟩
     ·rw [nN b a b h3 h2 h3];unfold Zfp;rw [ZBu zo,ZBu zo,ZBu zo]
     ·rw [v2,←one];unfold dotP;grind
    ·by_cases h6:c < a
     ·refine⟨2,c,b,a,1,by unfold Zfp;rw [ZBu he,ZBu h5,ZBv h6],.inl rfl,?_,chN 2 c b a (.inr rfl) h4 h3 h2,?_⟩
      ·rw [nN c b a h4 h3 h2];unfold Zfp;rw [ZBu zo,ZBu zo,ZBu zo]
      ·rw [v2,←one,dot_swap]
     ·refine⟨2,a,b,c,1,by unfold Zfp;rw [ZBu he,ZBu h5,ZBu h6],.inl rfl,?_,chN 2 a b c (.inr rfl) h2 h3 h4,?_⟩
      ·rw [nN a b c h2 h3 h4];unfold Zfp;rw [ZBu he,ZBu h5,ZBu h6]
      ·rw [v2,←one]
def sumV (ps:List PQ) (l:List Qt):Rat:=l.foldl (λs q=>s+Qt.val q ps []) 0
end Go.Proofs.YtkefeinbjbeidaaGreatDoor
namespace Go.Proofs.YtkefeinbjbeidaaGreatDoor
open Go Go.RowKit Go.Pg Go.Proofs.Tryz
theorem ubSize:(prog.info? 268).map (·.size)=some 2:=by kernel_rfl
theorem ubLies:liesAt prog prog.depth 268 (2/prog.cellsOf 268) 0 268 1=true:=by kernel_rfl
theorem ubCells:prog.cellsOf 5=1:=by kernel_rfl
theorem ubUsed (b:Nat) (w:World) (h0:w.cell? ⟨b,0,none⟩=some (.pointer (some ⟨b,0,none⟩))) :
 Calls prog 285 #[.pointer (some ⟨b,0,none⟩)] w λe w'=>e=.returned (.tuple #[])∧w'=w:=by
 obtain⟨j,hj,_⟩:=Option.map_eq_some_iff.1 ubSize
 go_enter func285,ntmps285
 go_wp2
 rw [Lib.run_neq_ptr_same w _ underlying266 hj]
 go_wp2
 go_end0
 exact⟨rfl,rfl⟩
theorem ubFresh (b:Nat) (w:World) (h0:w.cell? ⟨b,0,none⟩=some (.pointer none)) (hsh:w.shape? b=some (268,2)) (hfz:w.frozen? ⟨b,0,none⟩=false) :
 Calls prog 285 #[.pointer (some ⟨b,0,none⟩)] w λe w'=>e=.returned (.tuple #[])∧w'=w.setCell ⟨b,0,none⟩ (.pointer (some ⟨b,0,none⟩)):=by
 obtain⟨j,hj,hjs⟩:=Option.map_eq_some_iff.1 ubSize
 go_enter func285,ntmps285
 go_wp2
 rw [Lib.run_to_unsafe w ⟨b,0,none⟩ underlying266 underlying319 hj (by rw [hjs];decide) hsh (Nat.zero_lt_succ 1)];simp only [Result.andThen];rw [Oper.upon_value]
 go_wp2
 rw [run_callFunc_extern func307 zk zk zk (e:=Extern.AbiNoEscape.same) zk];rw [Lib.run_noEscape];simp only [Result.andThen];rw [Oper.upon_value]
 go_wp2
 rw [Lib.run_from_unsafe w ⟨b,0,none⟩ underlying319 underlying266 hj hsh ubLies];simp only [Result.andThen];rw [Oper.upon_value]
 go_wp2
 go_end0
 exact⟨rfl,rfl⟩
theorem ubString (b g cap:Nat) (p:Value) (cur:Array Value) (l:List UInt8) (w:World) (hbk:w.heap[b]?=some (.cells #[p,.slice (some ⟨g,0,none⟩) l.length cap] 268 (0,0)))
 (hg:w.heap[g]?=some (.cells cur 5 (0,0))) (h0:l≠[]) (hnc:l.length≤cap) (hcm:cap≤maxLen) (hcs:cur.size=cap) (hc:∀j x,l[j]?=some x→w.cell? ((⟨g,0,none⟩:Addr).add j)=some (.int .u8 x.toNat)) :
 Calls prog 246 #[.pointer (some ⟨b,0,none⟩)] w λe w'=>e=.returned (.string ⟨l.toArray⟩)∧w'=w.drew.freeze ⟨g,0,none⟩ l.length:=by
 have hl0:l.length≠0:=by simpa using h0
 have c1:w.drew.cell? ⟨b,1,none⟩=some (.slice (some ⟨g,0,none⟩) l.length cap):=by
  have:w.drew.heap[b]?=some (.cells #[p,.slice (some ⟨g,0,none⟩) l.length cap] 268 (0,0)):=hbk;rw [Lib.cell_of_heap this];rfl
 have hSD:(Builtin.unsafeSliceData_ #[113] 303 #[.slice (some ⟨g,0,none⟩) l.length cap]).run prog w.drew=.ok (.pointer (some ⟨g,0,none⟩)) w.drew :=
  Lib.run_unsafeSliceData_row _ _ _ _ _ _ zo
 have hUS:(Builtin.unsafeString_ #[303,3] 9 #[.pointer (some ⟨g,0,none⟩),.int .i64 l.length]).run prog w.drew=.ok (.string ⟨l.toArray⟩) (w.drew.freeze ⟨g,0,none⟩ l.length) :=
  Lib.run_unsafeString_row w.drew 303 3 9 5 underlying303 ubCells g cur.size (by have hg':w.drew.heap[g]?=some (.cells cur 5 (0,0)):=hg;simp [World.shape?,hg']) l h0 zo (by unfold maxLen at hcm;omega) hc
 have mixed:prog.follows .mixedOrders=true:=by kernel_rfl
 go_enter func246,ntmps246
 go_wp2
 go_region_o
 all_goals (go_wp2;go_ret;exact⟨rfl,rfl⟩)
end Go.Proofs.YtkefeinbjbeidaaGreatDoor
namespace Go.Pol
structure KO {α:Type} (D:α→Prop) (lt:α→α→Prop):Prop where
 irr:∀x,¬lt x x
 tr:∀x y z,lt x y→lt y z→lt x z
 tri:∀x y,D x→D y→lt x y∨x=y∨lt y x
section
variable {α:Type} {D:α→Prop} {lt:α→α→Prop} [DecidableEq α]
def cof:List (Rat × α)→α→Rat
 | [],_=>0
 | t :: p,x=>(if t.2=x then t.1 else 0)+cof p x
end
section
variable {α:Type} {D:α→Prop} {lt:α→α→Prop}
def addP (lt:α→α→Prop) [DecidableRel lt]:List (Rat × α)→List (Rat × α)→List (Rat × α)
 | [],q=>q
 | s :: p,[]=>s :: p
 | s :: p,t :: q =>
   if lt t.2 s.2 then s :: addP lt p (t :: q)
   else if lt s.2 t.2 then t :: addP lt (s :: p) q
   else if s.1+t.1=0 then addP lt p q
   else (s.1+t.1,s.2) :: addP lt p q
termination_by p q=>p.length+q.length
def Srt (D:α→Prop) (lt:α→α→Prop) (p:List (Rat × α)):Prop:=(∀t∈p,t.1≠0∧D t.2)∧p.Pairwise (λs t=>lt t.2 s.2)
end
section
variable {α:Type} {D:α→Prop} {lt:α→α→Prop} [DecidableEq α]
end
section
variable {α:Type} {D:α→Prop} {lt:α→α→Prop} [DecidableRel lt]
theorem Zos (p:List (Rat × α)):addP lt p []=p:=by cases p<;>simp [addP]
theorem Ziv {p q:List (Rat × α)} {t:Rat × α} (h:t∈addP lt p q):∃s∈p++q,t.2=s.2:=by
 fun_induction addP lt p q with
 | case1 q=>exact⟨t,by simpa using h,rfl⟩
 | case2 s p=>exact⟨t,by simpa using h,rfl⟩
 | case3 s p u q h1 ih =>
   rcases List.mem_cons.1 h with rfl | h
   ·exact⟨t,by simp,rfl⟩
   ·obtain⟨v,hv,e⟩:=ih h;exact⟨v,by simp only [ZF1,ZFi,ZE7] at hv ⊢;rcases hv with hv | hv | hv<;>simp [hv],e⟩
 | case4 s p u q h1 h2 ih =>
   rcases List.mem_cons.1 h with rfl | h
   ·exact⟨t,by simp,rfl⟩
   ·obtain⟨v,hv,e⟩:=ih h;exact⟨v,by simp only [ZF1,ZFi,ZE7] at hv ⊢;rcases hv with hv | hv | hv<;>simp [hv],e⟩
 | case5 s p u q h1 h2 h3 ih =>
   obtain⟨v,hv,e⟩:=ih h;exact⟨v,by simp only [ZF1,ZFi,ZE7] at hv ⊢;rcases hv with hv | hv<;>simp [hv],e⟩
 | case6 s p u q h1 h2 h3 ih =>
   rcases List.mem_cons.1 h with rfl | h
   ·exact⟨s,by simp,rfl⟩
   ·obtain⟨v,hv,e⟩:=ih h;exact⟨v,by simp only [ZF1,ZFi,ZE7] at hv ⊢;rcases hv with hv | hv<;>simp [hv],e⟩
end
section
variable {α:Type} {D:α→Prop} {lt:α→α→Prop} [DecidableEq α] [DecidableRel lt]
theorem Zgj (o:KO D lt) {p q:List (Rat × α)} (x:α) (hp:∀t∈p,D t.2) (hq:∀t∈q,D t.2):cof (addP lt p q) x=cof p x+cof q x:=by
 fun_induction addP lt p q with
 | case1 q=>show cof q x=0+cof q x;rw [ZF8]
 | case2 s p=>show cof (s :: p) x=cof (s :: p) x+0;rw [ZD5]
 | case3 s p u q h1 ih =>
   have:=ih (λt h=>hp t (.tail _ h)) hq;simp only [cof] at this ⊢;rw [this];grind
 | case4 s p u q h1 h2 ih =>
   have:=ih hp (λt h=>hq t (.tail _ h));simp only [cof] at this ⊢;rw [this];grind
 | case5 s p u q h1 h2 h3 ih =>
   have e:s.2=u.2:=by rcases o.tri s.2 u.2 (hp s (.head _)) (hq u (.head _)) with h | h | h;exact absurd h h2;exact h;exact absurd h h1
   have:=ih (λt h=>hp t (.tail _ h)) (λt h=>hq t (.tail _ h));simp only [cof] at this ⊢;rw [this,e];split<;>grind
 | case6 s p u q h1 h2 h3 ih =>
   have e:s.2=u.2:=by rcases o.tri s.2 u.2 (hp s (.head _)) (hq u (.head _)) with h | h | h;exact absurd h h2;exact h;exact absurd h h1
   have:=ih (λt h=>hp t (.tail _ h)) (λt h=>hq t (.tail _ h));simp only [cof] at this ⊢;rw [this,e];split<;>grind
end
section
variable {α:Type} {D:α→Prop} {lt:α→α→Prop}
theorem Srt.nil:Srt D lt ([]:List (Rat × α)):=⟨by simp,.nil⟩
theorem Srt.tail {t:Rat × α} {p:List (Rat × α)} (h:Srt D lt (t :: p)):Srt D lt p:=⟨λu hu=>h.1 u (.tail _ hu),(List.pairwise_cons.1 h.2).2⟩
theorem Srt.cons {t:Rat × α} {p:List (Rat × α)} (h:Srt D lt p) (h1:t.1≠0) (h2:D t.2) (h3:∀u∈p,lt u.2 t.2):Srt D lt (t :: p) :=
 ⟨λu hu=>by rcases List.mem_cons.1 hu with rfl | hu;exact⟨h1,h2⟩;exact h.1 u hu,List.pairwise_cons.2 ⟨h3,h.2⟩⟩
theorem Srt.dom {p:List (Rat × α)} (h:Srt D lt p):∀t∈p,D t.2:=λt ht=>(h.1 t ht).2
theorem Srt.head_lt {t:Rat × α} {p:List (Rat × α)} (h:Srt D lt (t :: p)):∀u∈p,lt u.2 t.2:=(List.pairwise_cons.1 h.2).1
end
section
variable {α:Type} {D:α→Prop} {lt:α→α→Prop} [DecidableRel lt]
theorem Zc3 (o:KO D lt) {p q:List (Rat × α)} (hp:Srt D lt p) (hq:Srt D lt q):Srt D lt (addP lt p q):=by
 fun_induction addP lt p q with
 | case1 q=>exact hq
 | case2 s p=>exact hp
 | case3 s p u q h1 ih =>
   refine(ih hp.tail hq).cons (hp.1 s (.head _)).1 (hp.1 s (.head _)).2 λv hv=>?_;obtain⟨w,hw,e⟩:=Ziv hv;rw [e];rcases List.mem_append.1 hw with hw | hw
   ·exact hp.head_lt w hw
   ·rcases List.mem_cons.1 hw with rfl | hw
    ·exact h1
    ·exact o.tr _ _ _ (hq.head_lt w hw) h1
 | case4 s p u q h1 h2 ih =>
   refine(ih hp hq.tail).cons (hq.1 u (.head _)).1 (hq.1 u (.head _)).2 λv hv=>?_;obtain⟨w,hw,e⟩:=Ziv hv;rw [e];rcases List.mem_append.1 hw with hw | hw
   ·rcases List.mem_cons.1 hw with rfl | hw
    ·exact h2
    ·exact o.tr _ _ _ (hp.head_lt w hw) h2
   ·exact hq.head_lt w hw
 | case5 s p u q h1 h2 h3 ih=>exact ih hp.tail hq.tail
 | case6 s p u q h1 h2 h3 ih =>
   have es:s.2=u.2:=by rcases o.tri s.2 u.2 (hp.dom s (.head _)) (hq.dom u (.head _)) with h | h | h;exact absurd h h2;exact h;exact absurd h h1
   refine(ih hp.tail hq.tail).cons h3 (hp.1 s (.head _)).2 λv hv=>?_;obtain⟨w,hw,e⟩:=Ziv hv;rw [e];rcases List.mem_append.1 hw with hw | hw
   ·exact hp.head_lt w hw
   ·show lt w.2 s.2;rw [es];exact hq.head_lt w hw
end
section
variable {α:Type} {D:α→Prop} {lt:α→α→Prop} [DecidableEq α]
theorem Zly (o:KO D lt) {p:List (Rat × α)} {x:α} (h:∀t∈p,lt t.2 x):cof p x=0:=by
 induction p with
 | nil=>rfl
 | cons t p ih =>
   show(if t.2=x then t.1 else 0)+cof p x=0;rw [ZBu (by rintro rfl;exact o.irr _ (h t (.head _))),ih λu hu=>h u (.tail _ hu),ZD5]
theorem Zhs (o:KO D lt) {t:Rat × α} {p:List (Rat × α)} (h:Srt D lt (t :: p)):cof (t :: p) t.2=t.1:=by
 show(if t.2=t.2 then t.1 else 0)+cof p t.2=t.1;rw [ZBv rfl,Zly o h.head_lt,ZD5]
theorem Zjc (o:KO D lt):∀{p q:List (Rat × α)},Srt D lt p→Srt D lt q→(∀x,cof p x=cof q x)→p=q
 | [],[],_,_,_=>rfl
 | [],t :: q,_,hq,h=>absurd ((Zhs o hq).symm.trans (h t.2).symm) (hq.1 t (.head _)).1
 | s :: p,[],hp,_,h=>absurd ((Zhs o hp).symm.trans (h s.2)) (hp.1 s (.head _)).1
 | s :: p,t :: q,hp,hq,h=>by
   have ks:s.2=t.2:=by
    rcases o.tri s.2 t.2 (hp.dom s (.head _)) (hq.dom t (.head _)) with hl | hl | hl
    ·have h1:cof (s :: p) t.2=0:=Zly o λu hu=>by
      rcases List.mem_cons.1 hu with rfl | hu
      ·exact hl
      ·exact o.tr _ _ _ (hp.head_lt u hu) hl
     exact absurd (((h t.2).symm.trans h1).symm.trans (Zhs o hq)).symm (hq.1 t (.head _)).1
    ·exact hl
    ·have h1:cof (t :: q) s.2=0:=Zly o λu hu=>by
      rcases List.mem_cons.1 hu with rfl | hu
      ·exact hl
      ·exact o.tr _ _ _ (hq.head_lt u hu) hl
     exact absurd (((h s.2).trans h1).symm.trans (Zhs o hp)).symm (hp.1 s (.head _)).1
   have kc:s.1=t.1:=by
    have h1:=h s.2;rw [Zhs o hp,ks,Zhs o hq] at h1;exact h1
   have e:s=t:=Prod.ext kc ks;subst e;congr 1;refine Zjc o hp.tail hq.tail λx=>?_;have h1:=h x;simp only [cof] at h1
   grind
end
section
variable {α:Type} {D:α→Prop} {lt:α→α→Prop}
def Zc9 (m:α→α→α) (p:List (Rat × α)) (t:Rat × α):List (Rat × α):=p.map λs=>(s.1*t.1,m s.2 t.2)
structure KM (D:α→Prop) (lt:α→α→Prop) (m:α→α→α):Prop where
 comm:∀x y,m x y=m y x
 dom:∀x y,D x→D y→D (m x y)
 mono:∀x y z,D x→D y→D z→lt x y→lt (m x z) (m y z)
theorem Zw6 {m:α→α→α} (k:KM D lt m) {p:List (Rat × α)} {t:Rat × α} (hp:Srt D lt p) (h1:t.1≠0) (h2:D t.2):Srt D lt (Zc9 m p t):=by
 refine⟨λu hu=>?_,?_⟩
 ·obtain⟨s,hs,rfl⟩:=List.mem_map.1 hu;have:=hp.1 s hs;exact⟨by show s.1*t.1≠0;intro h0;rcases Rat.mul_eq_zero.1 h0 with h | h;exact this.1 h;exact h1 h,k.dom _ _ this.2 h2⟩
 ·refine List.pairwise_map.2 (hp.2.imp_of_mem λ{a b} ha hb hl=>k.mono _ _ _ (hp.dom b hb) (hp.dom a ha) h2 hl)
end
section
variable {α:Type} {D:α→Prop} {lt:α→α→Prop} [DecidableEq α]
def cofM (m:α→α→α) (p:List (Rat × α)):List (Rat × α)→α→Rat
 | [],_=>0
 | t :: q,x=>cof (Zc9 m p t) x+cofM m p q x
end
section
variable {α:Type} {D:α→Prop} {lt:α→α→Prop}
def mulR (lt:α→α→Prop) [DecidableRel lt] (m:α→α→α) (p q:List (Rat × α)):List (Rat × α):=q.foldl (λout t=>addP lt out (Zc9 m p t)) []
end
section
variable {α:Type} {D:α→Prop} {lt:α→α→Prop} [DecidableRel lt]
theorem Zqf (o:KO D lt) {m:α→α→α} (k:KM D lt m) {p:List (Rat × α)} (hp:Srt D lt p):∀(q out:List (Rat × α)),Srt D lt q→Srt D lt out→Srt D lt (q.foldl (λout t=>addP lt out (Zc9 m p t)) out)
 | [],_,_,ho=>ho
 | t :: q,_,hq,ho=>Zqf o k hp q _ hq.tail (Zc3 o ho (Zw6 k hp (hq.1 t (.head _)).1 (hq.1 t (.head _)).2))
end
section
variable {α:Type} {D:α→Prop} {lt:α→α→Prop} [DecidableEq α] [DecidableRel lt]
end
section
variable {α:Type} {D:α→Prop} {lt:α→α→Prop} [DecidableRel lt]
theorem mulR_srt (o:KO D lt) {m:α→α→α} (k:KM D lt m) {p q:List (Rat × α)} (hp:Srt D lt p) (hq:Srt D lt q):Srt D lt (mulR lt m p q):=Zqf o k hp q [] hq .nil
end
section
variable {α:Type} {D:α→Prop} {lt:α→α→Prop} [DecidableEq α] [DecidableRel lt]
end
section
variable {α:Type} {D:α→Prop} {lt:α→α→Prop}
def sumH (lt:α→α→Prop) [DecidableRel lt]:List (List (Rat × α))→List (Rat × α)
 | []=>[]
 | [p]=>p
 | p :: q :: l=>addP lt (sumH lt ((p :: q :: l).take ((p :: q :: l).length/2))) (sumH lt ((p :: q :: l).drop ((p :: q :: l).length/2)))
termination_by l=>l.length
decreasing_by all_goals (simp only [ZCh,ZD7,ZCd];omega)
end
section
variable {α:Type} {D:α→Prop} {lt:α→α→Prop} [DecidableEq α]
def cofL:List (List (Rat × α))→α→Rat
 | [],_=>0
 | p :: l,x=>cof p x+cofL l x
theorem cofL_app (l k:List (List (Rat × α))) (x:α):cofL (l++k) x=cofL l x+cofL k x:=by
 induction l with
 | nil=>show cofL k x=0+cofL k x;rw [ZF8]
 | cons p l ih=>show _+cofL (l++k) x=(_+cofL l x)+cofL k x;rw [ih,Rat.add_assoc]
end
section
variable {α:Type} {D:α→Prop} {lt:α→α→Prop} [DecidableRel lt]
theorem Zhe (o:KO D lt) (l:List (List (Rat × α))) (h:∀p∈l,Srt D lt p):Srt D lt (sumH lt l):=by
 fun_induction sumH lt l with
 | case1=>exact .nil
 | case2 p=>exact h p (.head _)
 | case3 p q l ih1 ih2=>exact Zc3 o (ih1 λu hu=>h u (ZDc hu)) (ih2 λu hu=>h u (ZEc hu))
end
section
variable {α:Type} {D:α→Prop} {lt:α→α→Prop} [DecidableEq α] [DecidableRel lt]
theorem sumH_cof (o:KO D lt) (x:α) (l:List (List (Rat × α))) (h:∀p∈l,Srt D lt p):cof (sumH lt l) x=cofL l x:=by
 fun_induction sumH lt l with
 | case1=>rfl
 | case2 p=>show cof p x=cof p x+0;rw [ZD5]
 | case3 p q l ih1 ih2 =>
   have h1:∀u∈(p :: q :: l).take ((p :: q :: l).length/2),Srt D lt u:=λu hu=>h u (ZDc hu);have h2:∀u∈(p :: q :: l).drop ((p :: q :: l).length/2),Srt D lt u:=λu hu=>h u (ZEc hu);rw [Zgj o x (Zhe o _ h1).dom (Zhe o _ h2).dom,ih1 h1,ih2 h2,←cofL_app,ZD2]
end
section
variable {α:Type} {D:α→Prop} {lt:α→α→Prop}
def mulH (lt:α→α→Prop) [DecidableRel lt] (m:α→α→α) (p q:List (Rat × α)):List (Rat × α):=sumH lt (p.map λt=>Zc9 m q t)
end
section
variable {α:Type} {D:α→Prop} {lt:α→α→Prop} [DecidableEq α] [DecidableRel lt]
theorem ZBj (o:KO D lt) {p q:List (Rat × α)} (hp:Srt D lt p) (hq:Srt D lt q):addP lt p q=addP lt q p :=
 Zjc o (Zc3 o hp hq) (Zc3 o hq hp) λx=>by rw [Zgj o x hp.dom hq.dom,Zgj o x hq.dom hp.dom,Rat.add_comm]
theorem Zwr (o:KO D lt) {p q r:List (Rat × α)} (hp:Srt D lt p) (hq:Srt D lt q) (hr:Srt D lt r):addP lt (addP lt p q) r=addP lt p (addP lt q r) :=
 Zjc o (Zc3 o (Zc3 o hp hq) hr) (Zc3 o hp (Zc3 o hq hr)) λx=>by
  rw [Zgj o x (Zc3 o hp hq).dom hr.dom,Zgj o x hp.dom hq.dom,Zgj o x hp.dom (Zc3 o hq hr).dom,Zgj o x hq.dom hr.dom,Rat.add_assoc]
end
section
variable {α:Type} {D:α→Prop} {lt:α→α→Prop} [DecidableRel lt]
theorem Ze0 (p q:List (Rat × α)):(addP lt p q).length≤p.length+q.length:=by
 fun_induction addP lt p q<;>simp_all only [ZCd,ZCq]<;>omega
end
def evl {α:Type} (φ:α→Rat):List (Rat × α)→Rat
 | []=>0
 | t :: p=>t.1*φ t.2+evl φ p
theorem ZAl {α:Type} (φ:α→Rat) (p q:List (Rat × α)):evl φ (p++q)=evl φ p+evl φ q:=by
 induction p with
 | nil=>show evl φ q=0+evl φ q;rw [ZF8]
 | cons t p ih=>show _+evl φ (p++q)=(_+evl φ p)+evl φ q;rw [ih,Rat.add_assoc]
section
variable {α:Type} {D:α→Prop} {lt:α→α→Prop} [DecidableRel lt]
theorem Zuy (o:KO D lt) (φ:α→Rat) {p q:List (Rat × α)} (hp:∀t∈p,D t.2) (hq:∀t∈q,D t.2):evl φ (addP lt p q)=evl φ p+evl φ q:=by
 fun_induction addP lt p q with
 | case1 q=>show evl φ q=0+evl φ q;rw [ZF8]
 | case2 s p=>show evl φ (s :: p)=evl φ (s :: p)+0;rw [ZD5]
 | case3 s p u q h1 ih =>
   have:=ih (λt h=>hp t (.tail _ h)) hq;simp only [evl] at this ⊢;rw [this];grind
 | case4 s p u q h1 h2 ih =>
   have:=ih hp (λt h=>hq t (.tail _ h));simp only [evl] at this ⊢;rw [this];grind
 | case5 s p u q h1 h2 h3 ih =>
   have e:s.2=u.2:=by rcases o.tri s.2 u.2 (hp s (.head _)) (hq u (.head _)) with h | h | h;exact absurd h h2;exact h;exact absurd h h1
   have:=ih (λt h=>hp t (.tail _ h)) (λt h=>hq t (.tail _ h));simp only [evl] at this ⊢;have e2:s.1*φ s.2+u.1*φ u.2=0:=by rw [e,←Rat.add_mul,h3,Rat.zero_mul]
   rw [this];grind
 | case6 s p u q h1 h2 h3 ih =>
   have e:s.2=u.2:=by rcases o.tri s.2 u.2 (hp s (.head _)) (hq u (.head _)) with h | h | h;exact absurd h h2;exact h;exact absurd h h1
   have:=ih (λt h=>hp t (.tail _ h)) (λt h=>hq t (.tail _ h));simp only [evl] at this ⊢;rw [this,e];grind
end
section
variable {α:Type} {D:α→Prop} {lt:α→α→Prop}
def Zdf (a:Rat) (p:List (Rat × α)):List (Rat × α):=p.map λs=>(s.1*a,s.2)
theorem Zgu {a:Rat} {p:List (Rat × α)} (hp:Srt D lt p) (h:a≠0):Srt D lt (Zdf a p):=by
 refine⟨λu hu=>?_,List.pairwise_map.2 hp.2⟩;obtain⟨s,hs,rfl⟩:=List.mem_map.1 hu;have:=hp.1 s hs;exact⟨by show s.1*a≠0;intro h0;rcases Rat.mul_eq_zero.1 h0 with h1 | h1;exact this.1 h1;exact h h1,this.2⟩
end
section
variable {α:Type} [DecidableEq α]
end
section
variable {α:Type} {D:α→Prop} {lt:α→α→Prop} [DecidableEq α] [DecidableRel lt]
end
section
variable {α:Type} {lt:α→α→Prop} [DecidableRel lt]
end
section
variable {α:Type} {D:α→Prop} {lt:α→α→Prop} [DecidableRel lt]
def subP (lt:α→α→Prop) [DecidableRel lt] (p q:List (Rat × α)):List (Rat × α):=addP lt p (Zdf (-1) q)
theorem neg1:(-1:Rat)≠0:=by decide
theorem Zxg (o:KO D lt) {p q:List (Rat × α)} (hp:Srt D lt p) (hq:Srt D lt q):Srt D lt (subP lt p q):=Zc3 o hp (Zgu hq neg1)
end
section
variable {α:Type} {D:α→Prop} {lt:α→α→Prop} [DecidableEq α] [DecidableRel lt]
end
section
variable {α:Type} {lt:α→α→Prop} [DecidableRel lt]
theorem Zg1 {p q:List (Rat × α)} {t:Rat × α} (h:t∈addP lt p q):t∈p∨t∈q∨∃s∈p,∃u∈q,t=(s.1+u.1,s.2):=by
 fun_induction addP lt p q with
 | case1 q=>exact .inr (.inl h)
 | case2 s p=>exact .inl h
 | case3 s p u q h1 ih =>
   rcases List.mem_cons.1 h with rfl | h
   ·exact .inl (.head _)
   ·rcases ih h with h | h | ⟨a,ha,b,hb,e⟩
    ·exact .inl (.tail _ h)
    ·exact .inr (.inl h)
    ·exact .inr (.inr ⟨a,.tail _ ha,b,hb,e⟩)
 | case4 s p u q h1 h2 ih =>
   rcases List.mem_cons.1 h with rfl | h
   ·exact .inr (.inl (.head _))
   ·rcases ih h with h | h | ⟨a,ha,b,hb,e⟩
    ·exact .inl h
    ·exact .inr (.inl (.tail _ h))
    ·exact .inr (.inr ⟨a,ha,b,.tail _ hb,e⟩)
 | case5 s p u q h1 h2 h3 ih =>
   rcases ih h with h | h | ⟨a,ha,b,hb,e⟩
   ·exact .inl (.tail _ h)
   ·exact .inr (.inl (.tail _ h))
   ·exact .inr (.inr ⟨a,.tail _ ha,b,.tail _ hb,e⟩)
 | case6 s p u q h1 h2 h3 ih =>
   rcases List.mem_cons.1 h with rfl | h
   ·exact .inr (.inr ⟨s,.head _,u,.head _,rfl⟩)
   ·rcases ih h with h | h | ⟨a,ha,b,hb,e⟩
    ·exact .inl (.tail _ h)
    ·exact .inr (.inl (.tail _ h))
    ·exact .inr (.inr ⟨a,.tail _ ha,b,.tail _ hb,e⟩)
end
def BQ (D B:Nat) (q:Rat):Prop:=q.den ∣ D∧q.num.natAbs≤B*q.den
theorem Zud {z:Int} {m:Nat} (hm:m≠0) {D B:Nat} (hd:m ∣ D*Nat.gcd z.natAbs m) (hb:z.natAbs≤B*m):BQ D B (mkRat z m):=by
 have h0:0 < Nat.gcd z.natAbs m:=ZHj _ (ZDl hm);obtain⟨c,hc⟩:=Nat.gcd_dvd_right z.natAbs m;obtain⟨a,ha⟩:=Nat.gcd_dvd_left z.natAbs m;unfold BQ;rw [Rat.num_mkRat,Rat.den_mkRat,ZBu hm,ZF7 m z.natAbs];generalize Nat.gcd z.natAbs m=g at *;have e1:m/g=c:=by rw [hc];exact Nat.mul_div_cancel_left _ h0
 have e2:(z/(g:Int)).natAbs=a:=by
  rcases Int.natAbs_eq z with h | h
  ·rw [h,ha,show((g*a:Nat):Int)=(g:Int)*(a:Int) from by simp,ZHk _ zo];simp
  ·rw [h,ha,show -((g*a:Nat):Int)=(g:Int)*(-(a:Int)) from by simp [Int.mul_neg],ZHk _ zo];simp
 rw [e1,ZBu hm,e2];constructor
 ·rw [hc,ZCy D] at hd;exact Nat.dvd_of_mul_dvd_mul_left h0 hd
 ·rw [ha,hc,show B*(g*c)=g*(B*c) from by simp only [ZFp]] at hb;exact Nat.le_of_mul_le_mul_left hb h0
theorem BQ.mono {D B E C:Nat} {q:Rat} (h:BQ D B q) (hd:D ∣ E) (hb:B≤C):BQ E C q:=⟨Nat.dvd_trans h.1 hd,ZB1 h.2 (ZCf _ hb)⟩
theorem BQ.mul {D B E C:Nat} {a b:Rat} (h:BQ D B a) (k:BQ E C b):BQ (D*E) (B*C) (a*b):=by
 rw [Rat.mul_def'];refine Zud (ZE3 a.den_nz b.den_nz) (Nat.dvd_trans (Nat.mul_dvd_mul h.1 k.1) (ZFv _ _)) ?_;rw [ZEq]
 calc _≤(B*a.den)*(C*b.den):=ZC7 h.2 k.2
  _=B*C*(a.den*b.den):=by simp only [ZC6,ZFp]
theorem BQ.add {D B C:Nat} {a b:Rat} (h:BQ D B a) (k:BQ D C b):BQ D (B+C) (a+b):=by
 obtain⟨x,hx⟩:=h.1;obtain⟨y,hy⟩:=k.1;have e:a+b=mkRat (a.num*b.den+b.num*a.den) (a.den*b.den):=Rat.add_def' a b;rw [e];refine Zud (ZE3 a.den_nz b.den_nz) ?_ ?_
 ·
  rw [←Nat.gcd_mul_left];refine Nat.dvd_gcd ?_ (ZHl _ _)
  have e2:((D*(a.num*b.den+b.num*a.den).natAbs:Nat):Int)=((D:Int)*(a.num*b.den+b.num*a.den)).natAbs:=by
   rw [ZEq];simp
  have e3:D*(a.num*b.den+b.num*a.den).natAbs=((D:Int)*(a.num*b.den+b.num*a.den)).natAbs:=zo;rw [e3]
  have e4:(D:Int)*(a.num*b.den+b.num*a.den)=((a.den*b.den:Nat):Int)*(x*a.num+y*b.num):=by
   have h1:(D:Int)=a.den*x:=by rw [hx];simp
   have h2:(D:Int)=b.den*y:=by rw [hy];simp
   rw [Int.mul_add,Int.mul_add,show((a.den*b.den:Nat):Int)=(a.den:Int)*b.den from by simp];congr 1
   ·rw [h1];simp only [Int.mul_assoc,Int.mul_left_comm,Int.mul_comm]
   ·rw [h2];simp only [Int.mul_assoc,Int.mul_left_comm,Int.mul_comm]
  rw [e4,ZEq,ZEy];exact ZFv _ _
 ·have h1:=h.2;have h2:=k.2
  calc _≤(a.num*b.den).natAbs+(b.num*a.den).natAbs:=zo
   _=a.num.natAbs*b.den+b.num.natAbs*a.den:=by rw [ZEq,ZEq,ZEy,ZEy]
   _≤(B*a.den)*b.den+(C*b.den)*a.den:=ZC8 (ZCf _ h1) (ZCf _ h2)
   _=(B+C)*(a.den*b.den):=by rw [ZCo];simp only [ZC6,ZCy b.den]
theorem BQ.neg {D B:Nat} {a:Rat} (h:BQ D B a):BQ D B (-a):=by
 refine⟨h.1,?_⟩;show(-a.num).natAbs≤B*a.den;rw [ZG0];exact h.2
theorem BQ.int (z:Int) {D B:Nat} (h:z.natAbs≤B):BQ D B (z:Rat):=⟨⟨D,(ZD1 D).symm⟩,by show z.natAbs≤B*1;omega⟩
end Go.Pol
