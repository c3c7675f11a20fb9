/- Contracts of the functions that the law reaches, and the rules by which they are walked. They say what a call hands back for every input within the bounds that each names; no other condition. -/
import Derived.Test.YtjbjejmmnbdbiaaGreatBe5
import Derived.Laws.RangeString
import Derived.Lib.OthersKept
import Derived.Laws.Strings
set_option linter.unusedSimpArgs false
set_option linter.unusedVariables false
set_option maxRecDepth 20000
set_option maxHeartbeats 16000000
namespace Go.Proofs.YtjbjejmmnbdbiaaGreat
open Go Go.RowKit Go.Pg Go.Proofs.Tryz
attribute [-bool_to_prop] Bool.and_eq_decide Bool.or_eq_decide Bool.decide_beq_decide decide_eq_decide
inductive Vk:AV→AV→Prop
 | refl (a:AV):Vk a a
 | nil (m:Nat):Vk (.v (.slice none 0 0)) (.sl m [])
 | agg (xs ys:List AV) (hl:xs.length=ys.length) (h:∀(j:Nat) (a b:AV),xs[j]?=some a→ys[j]?=some b→Vk a b):Vk (.agg xs) (.agg ys)
 | tup (xs ys:List AV) (hl:xs.length=ys.length) (h:∀(j:Nat) (a b:AV),xs[j]?=some a→ys[j]?=some b→Vk a b):Vk (.tup xs) (.tup ys)
 | sl (m:Nat) (es es':List AV) (hl:es.length=es'.length) (hm:∀e∈es',e.cells.length=m) (hok:∀e∈es',e.ok=true) (hf:(flat es).length=(flat es').length) (h:∀(j:Nat) (a b:AV),(flat es)[j]?=some a→(flat es')[j]?=some b→Vk a b):Vk (.sl m es) (.sl m es')
theorem Vk.rd {w:World} {imm:Imm} {a b:AV} (h:Vk a b):∀{x:Value},Rd w imm a x→Rd w imm b x:=by
 induction h with
 | refl a=>exact λh=>h
 | nil m =>
   intro x h;cases h;exact .sl m [] none 0 (λ_=>undef) zs zs (Zyp _) zs zs (by simp [flat])
 | agg xs ys hl _ ih =>
   intro x h
   cases h with
   | agg _ vs hl2 hr =>
     refine .agg ys vs zo λj b x h1 h2=>?_;have hj:j < xs.length:=by rw [hl];exact(List.getElem?_eq_some_iff.1 h1).1
     exact ih j xs[j] b (Zym hj) h1 (hr j xs[j] x (Zym hj) h2)
 | tup xs ys hl _ ih =>
   intro x h
   cases h with
   | tup _ vs hl2 hr =>
     refine .tup ys vs zo λj b x h1 h2=>?_;have hj:j < xs.length:=by rw [hl];exact(List.getElem?_eq_some_iff.1 h1).1
     exact ih j xs[j] b (Zym hj) h1 (hr j xs[j] x (Zym hj) h2)
 | sl m es es' hl hm hok hf _ ih =>
   intro x h;obtain⟨A,cap,f,rfl,hcap,_,_,hn,hA,hr⟩:=(Rs.pure h).sl_inv;rw [hl];refine .sl m es' A cap f hm hok zo (λh=>hn zo) (λj hj=>hA j (by rw [hl];exact hj)) λj b hb=>?_;have hj:j < (flat es).length:=by rw [hf];exact(List.getElem?_eq_some_iff.1 hb).1
   exact ih j _ b (Zym hj) hb (hr j _ (Zym hj))
def VkL (xs ys:List AV):Prop:=xs.length=ys.length∧∀(j:Nat) (a b:AV),xs[j]?=some a→ys[j]?=some b→Vk a b
theorem VkL.nil:VkL [] []:=⟨rfl,λj a b h=>by simp at h⟩
theorem VkL.cons {a b:AV} {xs ys:List AV} (h:Vk a b) (t:VkL xs ys):VkL (a :: xs) (b :: ys):=by
 refine⟨by simp [t.1],λj x y h1 h2=>?_⟩
 cases j with
 | zero=>simp at h1 h2;subst h1;subst h2;exact h
 | succ j=>exact t.2 j x y (by simpa using h1) (by simpa using h2)
theorem VkL.refl (xs:List AV):VkL xs xs:=⟨rfl,λj a b h1 h2=>by rw [h1] at h2;cases h2;exact .refl _⟩
theorem Vk.aggL {xs ys:List AV} (h:VkL xs ys):Vk (.agg xs) (.agg ys):=.agg xs ys h.1 h.2
theorem Vk.tupL {xs ys:List AV} (h:VkL xs ys):Vk (.tup xs) (.tup ys):=.tup xs ys h.1 h.2
theorem Vk.slL {m:Nat} {es es':List AV} (hl:es.length=es'.length) (hm:∀e∈es',e.cells.length=m) (hok:∀e∈es',e.ok=true) (h:VkL (flat es) (flat es')):Vk (.sl m es) (.sl m es'):=.sl m es es' hl hm hok h.1 h.2
theorem Zwb {P:Program} {f:FuncId} {args args':List AV} {r r':AV} (h:Pure P f args' r) (ha:VkL args args') (hw:Vk r r'):Pure P f args r':=by
 refine⟨h.1,λw imm vs h1 h2 h3=>(h.2 w imm vs h1 (by rw [←ha.1];exact h2) λj b x e1 e2=>?_).mono λe w' he=>?_⟩
 ·have hj:j < args.length:=by rw [ha.1];exact(List.getElem?_eq_some_iff.1 e1).1
  exact(ha.2 j args[j] b (Zym hj) e1).rd (h3 j args[j] x (Zym hj) e2)
 ·obtain⟨x,imm',e1,e2,e3⟩:=he;exact⟨x,imm',e1,hw.rd e2,e3⟩
theorem Zry {P:Program} {f:FuncId} {args args':List AV} {r:AV} (h:Pure P f args' r) (ha:VkL args args'):Pure P f args r:=Zwb h ha (.refl _)
theorem Zcj {P:Program} {f:FuncId} {args:List AV} {r r':AV} (h:Pure P f args r) (hw:Vk r r'):Pure P f args r':=Zwb h (.refl _) hw
theorem Zft (n m:Nat):(toL (n*m)).length≤(toL n).length+(toL m).length:=by
 rw [Zaf,ZAp];exact Nat.mul_lt_mul'' (Zaf.1 (Zyp _)) (Zaf.1 (Zyp _))
theorem Zo2 (n m:Nat):(toL (n+m)).length≤max ((toL n).length) ((toL m).length)+1:=by
 rw [Zaf,ZAh];have h1:=Zaf.1 (Nat.le_max_left ((toL n).length) ((toL m).length));have h2:=Zaf.1 (Nat.le_max_right ((toL n).length) ((toL m).length));generalize 65536 ^ max ((toL n).length) ((toL m).length)=p at *;omega
theorem Zdz {n m:Nat} (h:n≤m):(toL n).length≤(toL m).length:=Zat h
theorem Zhl:(toL 1).length=1:=by rw [Zeu zo];simp [Zau]
theorem toL_one:toL 1=[1]:=by rw [Zeu zo];simp [Zau]
abbrev ratQ (q:Rat):AV:=.agg [.v (.bool (decide (q.num < 0))),lim (toL q.num.natAbs),lim (toL q.den)]
abbrev ratA (s:Bool) (n d:Nat):AV:=.agg [.v (.bool s),lim (toL n),lim (toL d)]
def Sz (q:Rat) (k:Nat):Prop:=(toL q.num.natAbs).length≤k∧(toL q.den).length≤k
theorem Sz.mono {q:Rat} {k j:Nat} (h:Sz q k) (hk:k≤j):Sz q j:=⟨Zyz h.1 hk,Zyz h.2 hk⟩
theorem Zp9 (z:Int) (m:Nat) (hm:m≠0):ratQ (mkRat z m)=.agg [.v (.bool (decide (z < 0))),lim (toL (z.natAbs/Nat.gcd z.natAbs m)),lim (toL (m/Nat.gcd z.natAbs m))]:=by
 unfold ratQ;rw [Rat.num_mkRat,Rat.den_mkRat,Zyj hm,Zyj hm,ZB7 m z.natAbs];have hg:0 < Nat.gcd z.natAbs m:=ZDf _ zo;have hd:((Nat.gcd z.natAbs m:Nat):Int) ∣ z:=Int.ofNat_dvd_left.2 (Nat.gcd_dvd_left _ _);generalize Nat.gcd z.natAbs m=g at *;obtain⟨k,hk⟩:=hd;have hgz:(g:Int)≠0:=zo;have e1:z/(g:Int)=k:=by rw [hk,ZC4 _ hgz]
 have e2:z.natAbs/g=k.natAbs:=by rw [hk,ZA4,ZA8,Nat.mul_div_cancel_left _ hg]
 have e3:(z < 0)↔(k < 0):=by
  rw [hk];constructor
  ·intro h;rcases (by omega:k < 0∨0≤k) with h1 | h1
   ·exact h1
   ·have:=Int.mul_nonneg (show(0:Int)≤g by omega) h1;omega
  ·intro h;exact Int.mul_neg_of_pos_of_neg zo h
 rw [e1,e2];simp only [e3]
theorem Sz.mk {z:Int} {m k:Nat} (hz:(toL z.natAbs).length≤k) (hm:(toL m).length≤k) (hk:1≤k):Sz (mkRat z m) k:=by
 unfold Sz;rw [Rat.num_mkRat,Rat.den_mkRat];by_cases h:m=0
 ·rw [Zyk h,Zyk h];refine⟨?_,by rw [Zhl];exact hk⟩;show(toL 0).length≤k;rw [Zau];simp
 ·rw [Zyj h,Zyj h];refine⟨Zyz (Zdz ?_) hz,Zyz (Zdz (ZCu _ _)) hm⟩;have hd:((Nat.gcd m z.natAbs:Nat):Int) ∣ z:=Int.ofNat_dvd_left.2 (Nat.gcd_dvd_right _ _);have hg:0 < Nat.gcd m z.natAbs:=Nat.gcd_pos_of_pos_left _ zo;generalize Nat.gcd m z.natAbs=g at *;obtain⟨c,hc⟩:=hd;rw [hc,ZC4 _ zo,ZA4,ZA8];exact Nat.le_mul_of_pos_left _ hg
theorem Zep (a b:Int):(a+b).natAbs≤a.natAbs+b.natAbs:=zo
theorem Sz.pos {q:Rat} {k:Nat} (h:Sz q k):1≤k:=by
 have h1:=Zbj.2 q.den_pos;have h2:=h.2;omega
theorem Zd4 (a b:Rat) {j k:Nat} (ha:Sz a j) (hb:Sz b k):(toL (a.num*b.den).natAbs).length≤j+k:=by
 rw [ZA4,ZA8];exact Zyz (Zft _ _) (ZC5 ha.1 hb.2)
theorem Sz.mul {a b:Rat} {j k:Nat} (ha:Sz a j) (hb:Sz b k):Sz (a*b) (j+k):=by
 rw [Rat.mul_def'];refine Sz.mk ?_ (Zyz (Zft _ _) (ZC5 ha.2 hb.2)) (by have:=ha.pos;omega);rw [ZA4];exact Zyz (Zft _ _) (ZC5 ha.1 hb.1)
theorem Sz.add {a b:Rat} {j k:Nat} (ha:Sz a j) (hb:Sz b k):Sz (a+b) (j+k+1):=by
 rw [Rat.add_def'];refine Sz.mk ?_ (Zyz (Zft _ _) (by have:=ha.2;have:=hb.2;omega)) zo;have h1:=Zd4 a b ha hb;have h2:=Zd4 b a hb ha;have h3:=Zdz (Zep (a.num*b.den) (b.num*a.den));have h4:=Zo2 (a.num*b.den).natAbs (b.num*a.den).natAbs;omega
theorem Sz.neg {a:Rat} {j:Nat} (ha:Sz a j):Sz (-a) j:=by
 unfold Sz;rw [Rat.neg_num,Rat.neg_den,Int.natAbs_neg];exact ha
theorem Sz.sub {a b:Rat} {j k:Nat} (ha:Sz a j) (hb:Sz b k):Sz (a - b) (j+k+1):=by
 rw [Rat.sub_eq_add_neg];exact ha.add hb.neg
theorem Sz.inv {a:Rat} {j:Nat} (ha:Sz a j):Sz (a⁻¹) j:=by
 unfold Sz;rw [Rat.num_inv,Rat.den_inv];by_cases h:a.num=0
 ·rw [Zyk h,h];refine⟨?_,by rw [Zhl];exact ha.pos⟩;have:(Int.sign 0*(a.den:Int)).natAbs=0:=by simp
  rw [this];show(toL 0).length≤j;rw [Zau];simp
 ·rw [Zyj h];refine⟨?_,ha.1⟩;rw [ZA4,ZA8,Int.natAbs_sign_of_ne_zero h,ZAj];exact ha.2
theorem Sz.div {a b:Rat} {j k:Nat} (ha:Sz a j) (hb:Sz b k):Sz (a/b) (j+k):=ha.mul hb.inv
theorem Sz.int {z:Int} {k:Nat} (h:(toL z.natAbs).length≤k) (hk:1≤k):Sz (z:Rat) k:=⟨h,by show(toL 1).length≤k;rw [Zhl];exact hk⟩
def cmpQ (a b:Rat):Int:=if a < b then -1 else if b < a then 1 else 0
theorem cmpQ_z (a b:Rat):cmpQ a b=cmpZ (a.num*b.den) (b.num*a.den):=by
 unfold cmpQ cmpZ;simp only [Rat.lt_iff]
theorem iMul (z w:Int) (hz:(toL z.natAbs).length≤1000000000000) (hw:(toL w.natAbs).length≤1000000000000):Pure prog 63 [intZ z,intZ w] (intZ (z*w)):=by
 have:=Zsi (decide (z < 0)) (decide (w < 0)) z.natAbs w.natAbs hz hw
 rwa [Zb5,Zb5] at this
theorem Zt5 (z:Int) (d:Nat) (hz:(toL z.natAbs).length≤1000000000000) (hw:(toL d).length≤1000000000000):Pure prog 63 [intZ z,intA false d] (intZ (z*d)):=by
 have:=Zsi (decide (z < 0)) false z.natAbs d hz hw;rw [Zb5] at this;exact this
theorem iAddA (z:Int) (t:Bool) (m:Nat) (hz:(toL z.natAbs).length≤1000000000000) (hm:(toL m).length≤1000000000000):Pure prog 108 [intZ z,intA t m] (intZ (z+zI t m)):=by
 have:=intAdd (decide (z < 0)) t z.natAbs m hz hm
 rwa [Zb5] at this
theorem iAdd0 (t:Bool) (m:Nat) (hm:(toL m).length≤1000000000000):Pure prog 108 [.agg [.v (.bool false),.v (.slice none 0 0)],intA t m] (intZ (zI t m)):=by
 have h:=iAddA 0 t m (by show(toL 0).length≤_;rw [Zau];simp) hm;rw [Zyw] at h;refine Zry h (.cons (.aggL (.cons (.refl _) (.cons ?_ .nil))) (.cons (.refl _) .nil));show Vk _ (.sl 1 (u16s (toL 0)));rw [Zau];exact .nil 1
theorem iCmp (z w:Int) (hz:(toL z.natAbs).length≤1000000000000) (hw:(toL w.natAbs).length≤1000000000000):Pure prog 99 [intZ z,intZ w] (.v (.int .i64 (cmpZ z w))):=by
 have:=intCmp (decide (z < 0)) (decide (w < 0)) z.natAbs w.natAbs hz hw
 rwa [Zb5,Zb5] at this
theorem iSign (z:Int) (hz:(toL z.natAbs).length≤1000000000000):Pure prog 100 [intZ z] (.v (.int .i64 z.sign)):=by
 have:=Zqz (decide (z < 0)) z.natAbs hz
 rwa [Zb5] at this
theorem iDivMod (z:Int) (m:Nat) (hz:(toL z.natAbs).length≤100000000000) (hm:(toL m).length≤100000000000) (h0:m≠0):Pure prog 110 [intZ z,intA false m] (.tup [intZ (z/m),intZ (z%m),.v (.int .i64 0)]):=by
 have:=Zxg (decide (z < 0)) z.natAbs m hz hm h0
 rwa [Zb5] at this
def sumC (z w:Int):Nat→List AV
 | 0=>[.v (.bool false),.v (.slice none 0 0)]
 | 1=>[.v (.bool (decide (z < 0))),lim (toL z.natAbs)]
 | _=>[.v (.bool (decide (z+w < 0))),lim (toL (z+w).natAbs)]
theorem Zux (x:Nat) (l:List Nat):u16s (x :: l)=AV.v (.int .u16 (x:Int)) :: u16s l:=rfl
theorem szShape:szOf prog 169=some 2:=by kernel_rfl
theorem zShape:Zaq prog 169=some (.agg #[.int .i64 0,.int .u16 0]):=by kernel_rfl
theorem eqShape:eqTy prog 169=true:=by kernel_rfl
theorem Zkm (n:Nat) (h:n < 65536):Sz (n:Rat) 1:=⟨Zaf.2 (by show((n:Int)).natAbs < _;simpa using h),Zaf.2 (by show 1 < 65536 ^ 1;decide)⟩
attribute [go_sem] szShape zShape underlying170
attribute [local go_sem] Za9 Zba Za8 eqShape
theorem intOf (n:Nat) (hn:n < 9223372036854775808):Pure prog 58 [.v (.int .i64 (n:Int))] (intA false n):=by
 have l4:(toL n).length≤4:=Zaf.2 zo;have hm:=Ze5 false n zo;rw [Zf7,Zzc] at hm;refine pI func58 rfl ntmps58 results58 call58 ?_
 (refine wkvp w_t (w_2 (natOf n zo) hm) (w_s ?_);intros)
 simp (disch:=omega) only [go_sem]
theorem Zvw:Pure prog 66 [] (lim (toL 1)):=by
 rw [toL_one];refine pI func66 rfl ntmps66 results66 call66 ?_
 (refine wkvp w_t w_t (w_s ?_);intros)
 exact gC
theorem Zd3 (n:Nat):Pure prog 64 [lim (toL n)] (intA false n):=by
 refine pI func64 rfl ntmps64 results64 call64 ?_
 (refine wkvp w_t w_t (w_s ?_);intros)
 simp (disch:=omega) only [go_sem]
theorem Zlu (n:Nat) (hn:(toL n).length≤1000000000000):Pure prog 60 [lim (toL n)] (.v (.bool (decide (n=1)))):=by
 by_cases h0:n=0
 ·subst h0;rw [Zau];refine pI func60 rfl ntmps60 results60 call60 ?_
  (refine wkvp w_t w_t (w_s ?_);intros)
  simp (disch:=omega) only [go_sem,Bool.and_self]
 ·have hd:decide (n=1)=(((((toL (n/65536)).length+1:Nat):Int) == 1) && (((n%65536:Nat):Int) == 1)):=by
   have hp:=@Zbj (n/65536);rw [Zzg];simp only [Zzi,Zy7,ZAn];omega
  rw [Zeu zo,hd];refine pI func60 rfl ntmps60 results60 call60 ?_
  (refine wkvp (w_1 @Zux) w_t (w_s ?_);intros)
  simp (disch:=omega) only [go_sem]
theorem Zkf (s:Bool) (n d:Nat) (h2:(toL d).length≤100000000000) (h0:d≠0):Pure prog 59 [ratA s n d] (.tup [intA s n,lim (toL d)]):=by
 have hb:Znn d≠0:=λe=>h0 (Zg9.1 e);refine pI func59 rfl ntmps59 results59 call59 ?_;(focus (refine wkad w_t (w_1 (nBits d zo)) (w_1 (w_d 3 [] [] [2])) ?_;(repeat' first|exact w_t|apply w_l);all_goals intros));simp (disch:=omega) only [go_sem]
theorem Zdm (q:Rat) {k:Nat} (h:Sz q k) (hk:k≤100000000000):Pure prog 59 [ratQ q] (.tup [intZ q.num,lim (toL q.den)]) :=
 Zkf _ _ _ (Zyz h.2 hk) q.den_nz
theorem Zg0 (s:Bool) (n m:Nat) (hn:(toL n).length≤100000000000) (hm:(toL m).length≤100000000000) (h0:m≠0):Pure prog 61 [intA s n,lim (toL m)] (ratQ (mkRat (zI s n) m)):=by
 have cn:=intNorm s n zo;have hz:=Zd5 s n;rw [Zp9 _ _ h0];generalize zI s n=z at *;subst hz;have hmp:=Zbj.2 (ZAz h0);have g0:Nat.gcd z.natAbs m≠0:=Nat.ne_of_gt (ZDf _ zo);have hg:(toL (Nat.gcd z.natAbs m)).length≤100000000000:=Zyz (Zdz (Nat.le_of_dvd zo (Nat.gcd_dvd_right _ _))) hm;have cg:=nGcd z.natAbs m zo zo;have c1:=Zlu m zo;have c2:=Zlu (Nat.gcd z.natAbs m) zo;by_cases hz0:z.natAbs=0
 ·have hzz:z=0:=zo;subst hzz;have l0:(toL 0).length=0:=by rw [Zau];rfl
  have n0:Int.natAbs 0=0:=rfl;have hd:decide ((0:Int) < 0)=false:=rfl;have cn:Pure prog 105 [intA s 0] (.agg [.v (.bool false),lim (toL 0)]):=cn;rw [n0] at hn ⊢;rw [Nat.gcd_zero_left,Nat.zero_div,Nat.div_self zo,hd];refine Zcj (r:=.agg [.v (.bool false),.v (.slice none 0 0),lim (toL 1)]) ?_ (.aggL (.cons (.refl _) (.cons ?_ (VkL.refl _))))
  ·refine pI func61 rfl ntmps61 results61 call61 ?_
   (refine wkvp (w_1 l0) (w_3 (Zqm m zo) cn Zvw) (w_s ?_);intros)
   simp (disch:=omega) only [go_sem]
  ·show Vk _ (.sl 1 (u16s (toL 0)));rw [Zau];exact .nil 1
 ·have hzp:=Zbj.2 (ZAz hz0);by_cases hm1:m=1
  ·subst hm1;rw [Nat.gcd_one_right,ZCd,ZCd];refine pI func61 rfl ntmps61 results61 call61 ?_
   (refine wkvp w_t (w_3 (Zqm 1 zo) cn c1) (w_s ?_);intros)
   simp (disch:=omega) only [go_sem]
  ·have d1:decide (m=1)=false:=Zyl hm1;rw [d1] at c1;by_cases hg1:Nat.gcd z.natAbs m=1
   ·have d2:decide (Nat.gcd z.natAbs m=1)=true:=Zyo hg1;rw [d2] at c2;rw [hg1,ZCd,ZCd];refine pI func61 rfl ntmps61 results61 call61 ?_
    (refine wkvp w_t (w_5 (Zqm m zo) cn c1 cg c2) (w_s ?_);intros)
    simp (disch:=omega) only [go_sem]
   ·have d2:decide (Nat.gcd z.natAbs m=1)=false:=Zyl hg1;rw [d2] at c2;refine pI func61 rfl ntmps61 results61 call61 ?_
    (refine wkad w_t (w_7 (Zqm m zo) cn c1 cg c2 (Zqn z.natAbs (Nat.gcd z.natAbs m) zo zo g0) (Zqn m (Nat.gcd z.natAbs m) zo zo g0)) w_t (w_s ?_);intros)
    simp (disch:=omega) only [go_sem]
theorem Zv1 (z w:Int) (hz:(toL z.natAbs).length≤100000000000) (hw:(toL w.natAbs).length≤100000000000) (h0:w≠0):Pure prog 57 [intZ z,intZ w] (.tup [ratQ (Rat.divInt z w),.v (.int .i64 0)]):=by
 have e:Rat.divInt z w=mkRat (zI (decide (z < 0) != decide (w < 0)) z.natAbs) w.natAbs:=by
  have ez:=Zb5 z;unfold zI at ez ⊢;rcases (by omega:w < 0∨0 < w) with h | h
  ·rw [Zyo h];have hw1:w=-((w.natAbs:Nat):Int):=zo;rw [show Rat.divInt z w=Rat.divInt z (-((w.natAbs:Nat):Int)) by rw [←hw1],Rat.divInt_neg',Rat.divInt_ofNat];congr 1;by_cases h1:z < 0
   ·simp only [Zyo h1,bne_self_eq_false,Zyy,Zy8];omega
   ·simp only [Zyl h1,Bool.false_bne,Zzb];omega
  ·rw [Zyl (by omega:¬w < 0)];have hw1:w=((w.natAbs:Nat):Int):=zo;rw [show Rat.divInt z w=Rat.divInt z ((w.natAbs:Nat):Int) by rw [←hw1],Rat.divInt_ofNat];congr 1;by_cases h1:z < 0
   ·simp only [Zyo h1,Bool.bne_false,Zzb];omega
   ·simp only [Zyl h1,bne_self_eq_false,Zyy,Zy8];omega
 have c:=Zg0 (decide (z < 0) != decide (w < 0)) z.natAbs w.natAbs hz hw zo;rw [←e] at c;have cs:=iSign w zo;have hs:w.sign≠0:=λh=>h0 (Int.sign_eq_zero_iff_zero.1 h);refine pI func57 rfl ntmps57 results57 call57 ?_;have hne (a b:Bool):(!(a == b))=(a != b):=rfl
 (refine wkvp (w_1 hne) (w_2 cs c) (w_s ?_);intros)
 simp (disch:=omega) only [go_sem]
theorem ratMake0 (z w:Int) (hw:w=0):Pure prog 57 [intZ z,intZ w] (.tup [.agg [.v (.bool false),.v (.slice none 0 0),.v (.slice none 0 0)],.v (.int .i64 3)]):=by
 subst hw;have cs:=iSign 0 (by show(toL 0).length≤_;rw [Zau];simp);have hs:Int.sign 0=0:=rfl;rw [hs] at cs;have cs:Pure prog 100 [.agg [.v (.bool false),lim (toL (Int.natAbs 0))]] (.v (.int .i64 0)):=cs;refine pI func57 rfl ntmps57 results57 call57 ?_
 (refine wkvp w_t (w_1 cs) (w_s ?_);intros)
 simp (disch:=omega) only [go_sem]
theorem Zvy (q:Rat) {k:Nat} (h:Sz q k) (hk:k≤100000000000):Pure prog 98 [ratQ q] (.v (.int .i64 q.num.sign)):=by
 have h1:=h.1;refine pI func98 rfl ntmps98 results98 call98 ?_
 (refine wkvp w_t (w_2 (Zdm q h hk) (iSign q.num zo)) (w_s ?_);intros)
 simp (disch:=omega) only [go_sem]
theorem ratFloor (q:Rat) {k:Nat} (h:Sz q k) (hk:k≤100000000000):Pure prog 67 [ratQ q] (intZ q.floor):=by
 have h1:=h.1;have h2:=h.2;have cd:=iDivMod q.num q.den zo zo q.den_nz;rw [Rat.floor_def];generalize q.num/(q.den:Int)=fz at *;generalize q.num%(q.den:Int)=fr at *;refine pI func67 rfl ntmps67 results67 call67 ?_
 (repeat' (first|(with_reducible first|refine stp ?_|apply gx1|apply gx2|apply gx3|apply gx4|apply gx5|apply gx6|apply gx7|apply gy8|apply gz2|apply gz3|refine gw0 (Zdm q h hk) ?_ ?_|refine gw3 (Zdm q h hk) ?_ ?_ ?_|refine gw0 (Zd3 q.den) ?_ ?_|refine gw3 (Zd3 q.den) ?_ ?_ ?_|refine gw0 (cd) ?_ ?_|refine gw3 (cd) ?_ ?_ ?_)|(with_reducible refine Zcg ?_;intro _)|((with_reducible refine gE ?_);(try simp (disch:=omega) only [go_sem])<;>first|rfl|omega)|with_reducible refine Zai zd ?_|((with_reducible apply gy1);iterate 3 focus rfl)|((with_reducible apply gy2);iterate 3 focus rfl)|((with_reducible apply gy3);iterate 2 focus rfl)|((with_reducible apply gy4);iterate 1 focus rfl)|((with_reducible apply gy5);iterate 4 focus rfl)|((with_reducible apply gy5c);iterate 4 focus rfl)|((with_reducible apply gy6);iterate 4 focus rfl)|((with_reducible apply Zfy);iterate 3 focus rfl)|((with_reducible apply Zfr);iterate 1 focus rfl)|((with_reducible apply gy7);iterate 1 focus rfl)|((with_reducible apply gy9);(focus ((with_reducible refine gE ?_);(try simp (disch:=omega) only [go_sem])<;>rfl)))|((with_reducible apply gz1);(focus first|rfl|(simp (disch:=omega) only [go_sem];done)))|((with_reducible apply Zas (Zbr [(2,intA false q.den),(3,.tup [intZ fz,intZ fr,.v (.int .i64 0)])]) [] [5,6]);(focus kernel_rfl);(focus rfl);(focus kernel_rfl);(focus (simp only [Zyx,Zy0,Nat.reduceAdd];rfl)))))
 simp (disch:=omega) only [go_sem]
theorem Zvx (s t:Bool) (n m:Nat) (hn:(toL n).length≤1000000000000) (hm:(toL m).length≤1000000000000):Pure prog 62 [.sl 2 [intA s n,intA t m]] (intZ (zI s n+zI t m)):=by
 have cz:=iAdd0 s n hn;have ca:=iAddA (zI s n) t m (by rw [Zd5];exact hn) hm;generalize zI s n=z at *;generalize zI t m=w at *;refine pI func62 rfl ntmps62 results62 call62 ?_
 (refine wkvp w_t w_t (w_s ?_);intros)
 refine Zab (ι:=Nat) (λk e mm=>k≤2∧e 6=.sl 2 [intA s n,intA t m]∧e 7=.v (.int .i64 2)∧e 8=.v (.int .i64 (k:Int))∧∃g2 g,e 2=.pbox 2 g2 0∧mm 2=some (.box g2 26 [.v (.bool false),.v (.slice none 0 0)] false)∧e 3=.pbox 3 g 0∧mm 3=some (.box g 26 (sumC z w k) false)) (λk=>2 - k) 0 zr ?_ ?_
 ·rintro k e mm ⟨hk,e6,e7,e8,g2,g,e2,m2,e3,m3⟩
  match k,hk with
  | 0,_ =>
    simp only [sumC] at m3
    (refine wkvp (w_8 e6 e7 e8 e2 m2 e3 m3 @ZA7) (w_1 cz) (w_s ?_);intros)
    exact⟨1,⟨zo,gW e6,gW e7,gW e8,g2,g,gW e2,gW m2,gW e3,by(simp (disch:=omega) only [go_sem,m3,sumC]<;>repeat' first|rfl|refine⟨?_,?_⟩)⟩,zo⟩
  | 1,_ =>
    simp only [sumC] at m3
    (refine wkvp (w_8 e6 e7 e8 e2 m2 e3 m3 @Int.natCast_one) (w_1 ca) (w_s ?_);intros)
    exact⟨2,⟨zo,gW e6,gW e7,gW e8,g2,g,gW e2,gW m2,gW e3,by(simp (disch:=omega) only [go_sem,m3,sumC]<;>repeat' first|rfl|refine⟨?_,?_⟩)⟩,zo⟩
  | 2,_ =>
    simp only [sumC] at m3
    (refine wkvp (w_7 e6 e7 e8 e2 m2 e3 m3) w_t (w_s ?_);intros)
    simp (disch:=omega) only [go_sem,e2]
 ·exact⟨zo,gC,gC,gC,_,_,gC,gC,gC,by(simp (disch:=omega) only [go_sem,sumC]<;>repeat' first|rfl|refine⟨?_,?_⟩)⟩
theorem ratSum (z w:Int) (hz:(toL z.natAbs).length≤1000000000000) (hw:(toL w.natAbs).length≤1000000000000):Pure prog 62 [.sl 2 [intZ z,intZ w]] (intZ (z+w)):=by
 have:=Zvx (decide (z < 0)) (decide (w < 0)) z.natAbs w.natAbs hz hw
 rwa [Zb5,Zb5] at this
theorem Zvz (n:Nat) (hn:n < 9223372036854775808):Pure prog 29 [.v (.int .i64 (n:Int))] (ratQ (n:Rat)):=by
 refine pI func29 rfl ntmps29 results29 call29 ?_;have hd:decide ((n:Rat).num < 0)=false:=Zyl (by show ¬((n:Int) < 0);omega);have hn':(n:Rat).num.natAbs=n:=ZA8 n;unfold ratQ;rw [hd,hn',Rat.den_natCast]
 (refine wkvp w_t (w_2 (intOf n hn) Zvw) (w_s ?_);intros)
 simp (disch:=omega) only [go_sem]
theorem Zv0 (a b:Rat) {j k:Nat} (ha:Sz a j) (hb:Sz b k) (hj:j≤20000000000) (hk:k≤20000000000):Pure prog 30 [ratQ a,ratQ b] (ratQ (a*b)):=by
 obtain⟨a1,a2⟩:=id ha;obtain⟨b1,b2⟩:=id hb;have l1:(toL (a.num*b.num).natAbs).length≤j+k:=by rw [ZA4];exact Zyz (Zft _ _) zo
 have l2:(toL (a.den*b.den)).length≤j+k:=Zyz (Zft _ _) zo;have c:=Zg0 (decide (a.num*b.num < 0)) (a.num*b.num).natAbs (a.den*b.den) zo zo (ZCh a.den_nz b.den_nz);rw [Zb5,←Rat.mul_def'] at c;refine pI func30 rfl ntmps30 results30 call30 ?_
 (refine wkvp w_t (w_5 (Zdm a ha zo) (Zdm b hb zo) (iMul a.num b.num zo zo) (nMul a.den b.den zo zo) c) (w_s ?_);intros)
 simp (disch:=omega) only [go_sem]
theorem Zv5 (s t:Bool) (n d m c:Nat) {j k:Nat} (a1:(toL n).length≤j) (a2:(toL d).length≤j) (b1:(toL m).length≤k) (b2:(toL c).length≤k) (hd0:d≠0) (hc0:c≠0) (hj:j≤20000000000) (hk:k≤20000000000) :
 Pure prog 28 [ratA s n d,ratA t m c] (ratQ (mkRat (zI s n) d+mkRat (zI t m) c)):=by
 have oa:=Zlu d zo;have ob:=Zlu c zo;have l2:(toL (d*c)).length≤j+k:=Zyz (Zft _ _) zo;have z1:=Zd5 s n;have w1:=Zd5 t m;have pa:=Zkf s n d zo hd0;have pb:=Zkf t m c zo hc0;have eq:mkRat (zI s n) d+mkRat (zI t m) c=mkRat (zI s n*c+zI t m*d) (d*c):=Rat.mkRat_add_mkRat _ _ hd0 hc0;have cs0:=Zvx s t n m zo zo;have cm1:Pure prog 63 [intA s n,intA false c] (intZ (zI s n*c)):=Zsi s false n c zo zo;have cm2:Pure prog 63 [intA t m,intA false d] (intZ (zI t m*d)):=Zsi t false m d zo zo;rw [eq]
 have x1:(toL (zI s n*c).natAbs).length≤j+k:=by
  rw [ZA4,ZA8,z1];exact Zyz (Zft _ _) zo
 have x2:(toL (zI t m*d).natAbs).length≤j+k:=by
  rw [ZA4,ZA8,w1];exact Zyz (Zft _ _) zo
 by_cases h1:d=1∧c=1
 ·obtain⟨h1,h2⟩:=h1
  have l1:(toL (zI s n+zI t m).natAbs).length≤j+k+1:=by
   have h3:=Zdz (Zep (zI s n) (zI t m));have h4:=Zo2 (zI s n).natAbs (zI t m).natAbs;rw [z1,w1] at h3 h4;omega
  have c:=Zg0 (decide (zI s n+zI t m < 0)) (zI s n+zI t m).natAbs 1 zo (by rw [Zhl];omega) zo;rw [Zb5] at c;subst h1;subst h2;rw [Zyo rfl] at oa ob;have e1:zI s n*((1:Nat):Int)+zI t m*((1:Nat):Int)=zI s n+zI t m:=zo;rw [e1,ZBt];refine pI func28 rfl ntmps28 results28 call28 ?_
  (refine wkax w_t (w_5 pa pb oa ob c) w_t (w_1 cs0) w_t w_t w_y (w_r 0) (w_s ?_);intros)
  simp (disch:=omega) only [go_sem]
 ·have l1:(toL (zI s n*c+zI t m*d).natAbs).length≤j+k+1:=by
   have h3:=Zdz (Zep (zI s n*c) (zI t m*d));have h4:=Zo2 (zI s n*c).natAbs (zI t m*d).natAbs;omega
  have cr:=Zg0 (decide (zI s n*c+zI t m*d < 0)) (zI s n*c+zI t m*d).natAbs (d*c) zo zo (ZCh hd0 hc0);rw [Zb5] at cr;have cs:=ratSum (zI s n*c) (zI t m*d) zo zo;have cw1:=Zd3 c;have cw2:=Zd3 d;have cm:=nMul d c zo zo;generalize zI s n*(c:Int)=y1 at *;generalize zI t m*(d:Int)=y2 at *;by_cases h2:d=1
  ·have h3:c≠1:=λh=>h1 ⟨h2,h⟩;rw [Zyo h2] at oa;rw [Zyl h3] at ob;refine pI func28 rfl ntmps28 results28 call28 ?_
   (refine wkax w_t (w_11 pa pb oa ob cw1 cm1 cw2 cm2 cs cm cr) (w_1 (w_d 5 [(2,intA false c),(3,intZ y1),(6,intA false d),(7,intZ y2),(8,.sl 2 [intZ y1,intZ y2]),(9,intZ (y1+y2)),(12,lim (toL (d*c))),(13,ratQ (mkRat (y1+y2) (d*c)))] [] [4])) w_t w_t w_t w_y (w_r 0) (w_s ?_);intros)
   simp (disch:=omega) only [go_sem]
  ·rw [Zyl h2] at oa;refine pI func28 rfl ntmps28 results28 call28 ?_
   (refine wkax w_t (w_10 pa pb oa cw1 cm1 cw2 cm2 cs cm cr) (w_1 (w_d 5 [(2,intA false c),(3,intZ y1),(6,intA false d),(7,intZ y2),(8,.sl 2 [intZ y1,intZ y2]),(9,intZ (y1+y2)),(12,lim (toL (d*c))),(13,ratQ (mkRat (y1+y2) (d*c)))] [] [4])) w_t w_t w_t w_y (w_r 0) (w_s ?_);intros)
   simp (disch:=omega) only [go_sem]
theorem Zrv (a b:Rat) {j k:Nat} (ha:Sz a j) (hb:Sz b k) (hj:j≤20000000000) (hk:k≤20000000000):Pure prog 28 [ratQ a,ratQ b] (ratQ (a+b)):=by
 have:=Zv5 (decide (a.num < 0)) (decide (b.num < 0)) a.num.natAbs a.den b.num.natAbs b.den ha.1 ha.2 hb.1 hb.2 a.den_nz b.den_nz hj hk
 rwa [Zb5,Zb5,ZCv,ZCv] at this
theorem Zoa (a b:Rat) {j k:Nat} (ha:Sz a j) (hb:Sz b k) (hj:j≤20000000000) (hk:k≤20000000000):Pure prog 26 [ratQ a,ratQ b] (ratQ (a - b)):=by
 have c:=Zv5 (decide (a.num < 0)) (!decide (b.num < 0)) a.num.natAbs a.den b.num.natAbs b.den ha.1 ha.2 hb.1 hb.2 a.den_nz b.den_nz hj hk
 have e:zI (!decide (b.num < 0)) b.num.natAbs=-b.num:=by
  have:=Zb5 b.num;unfold zI at *;by_cases h:b.num < 0
  ·simp only [Zyo h,ZB4,Zyy,Zy8];omega
  ·simp only [Zyl h,ZCe,Zzb];omega
 have e2:mkRat (-b.num) b.den=-b:=by rw [←Rat.neg_mkRat,ZCv]
 rw [Zb5,e,ZCv,e2,←Rat.sub_eq_add_neg] at c;refine pI func26 rfl ntmps26 results26 call26 ?_
 (refine wkvp w_t (w_1 c) (w_s ?_);intros)
 simp (disch:=omega) only [go_sem]
theorem Zv4 (a b:Rat) {j k:Nat} (ha:Sz a j) (hb:Sz b k) (hj:j≤20000000000) (hk:k≤20000000000):Pure prog 55 [ratQ a,ratQ b] (.v (.int .i64 (cmpQ a b))):=by
 obtain⟨a1,a2⟩:=id ha;obtain⟨b1,b2⟩:=id hb;have sa:=Zvy a ha zo;have sb:=Zvy b hb zo;have pa:=Zdm a ha zo;have pb:=Zdm b hb zo;have cm1:=Zt5 a.num b.den zo zo;have cm2:=Zt5 b.num a.den zo zo;have x1:(toL (a.num*b.den).natAbs).length≤j+k:=Zd4 a b ha hb;have x2:(toL (b.num*a.den).natAbs).length≤k+j:=Zd4 b a hb ha;have cc:=iCmp (a.num*b.den) (b.num*a.den) zo zo;have cw1:=Zd3 b.den;have cw2:=Zd3 a.den;have dp:(0:Int) < a.den:=by have:=a.den_pos;omega
 have ep:(0:Int) < b.den:=by have:=b.den_pos;omega
 rw [cmpQ_z]
 have sg:∀z:Int,(z.sign=1∧0 < z)∨(z.sign=0∧z=0)∨(z.sign=-1∧z < 0):=by
  intro z;rcases ZBp z 0 with h | h | h
  ·exact .inr (.inr ⟨ZB0 h,h⟩)
  ·exact .inr (.inl ⟨by rw [h];rfl,h⟩)
  ·exact .inl ⟨ZC3 h,h⟩
 have mp:∀z w:Int,0 < z→0 < w→0 < z*w:=λz w=>Int.mul_pos;have mz:∀w:Int,0*w=0:=λw=>Int.zero_mul w;have mn:∀z w:Int,z < 0→0 < w→z*w < 0:=λz w=>Int.mul_neg_of_neg_of_pos
 have sA:(a.num.sign=1→0 < a.num*b.den)∧(a.num.sign=0→a.num*b.den=0)∧(a.num.sign=-1→a.num*b.den < 0):=by
  rcases sg a.num with⟨h,h'⟩ | ⟨h,h'⟩ | ⟨h,h'⟩
  ·exact⟨λ_=>mp _ _ h' ep,λh2=>zo,λh2=>zo⟩
  ·exact⟨λh2=>zo,λ_=>(by rw [h'];exact mz _),λh2=>zo⟩
  ·exact⟨λh2=>zo,λh2=>zo,λ_=>mn _ _ h' ep⟩
 have sB:(b.num.sign=1→0 < b.num*a.den)∧(b.num.sign=0→b.num*a.den=0)∧(b.num.sign=-1→b.num*a.den < 0):=by
  rcases sg b.num with⟨h,h'⟩ | ⟨h,h'⟩ | ⟨h,h'⟩
  ·exact⟨λ_=>mp _ _ h' dp,λh2=>zo,λh2=>zo⟩
  ·exact⟨λh2=>zo,λ_=>(by rw [h'];exact mz _),λh2=>zo⟩
  ·exact⟨λh2=>zo,λh2=>zo,λ_=>mn _ _ h' dp⟩
 have ga:=sg a.num;have gb:=sg b.num;generalize a.num*(b.den:Int)=y1 at *;generalize b.num*(a.den:Int)=y2 at *;rcases ZBp a.num.sign b.num.sign with h | h | h
 ·have hc:cmpZ y1 y2=-1:=by
   unfold cmpZ;rw [Zyk zo]
  rw [hc];clear ga gb sA sB;refine pI func55 rfl ntmps55 results55 call55 ?_
  (refine wkad w_t (w_2 sa sb) (w_1 (w_d 1 [(1,.v (.int .i64 a.num.sign)),(3,.v (.int .i64 b.num.sign))] [] [])) (w_s ?_);intros)
  simp (disch:=omega) only [go_sem]
 ·refine pI func55 rfl ntmps55 results55 call55 ?_
  (refine wkvp w_t (w_2 sa sb) (w_s ?_);intros)
  apply Zas (Zbr [(1,.v (.int .i64 a.num.sign)),(3,.v (.int .i64 b.num.sign))]) [] [] zk zr zk;(focus (simp only [Zyx,Zy0,Nat.reduceAdd];rfl))
  (refine wkax w_t (w_4 sa sb pa pb) w_t w_t w_t w_t w_t (w_r 0) (w_s ?_);intros)
  apply Zas (Zbr [(2,intA false b.den),(3,intZ y1),(6,intA false a.den),(7,intZ y2),(8,.v (.int .i64 (cmpZ y1 y2)))]) [] [] zk zr zk;(focus (simp only [Zyx,Zy0,Nat.reduceAdd];rfl))
  (refine wkax w_t (w_5 cw1 cm1 cw2 cm2 cc) w_t w_t w_t w_t w_t (w_r 0) (w_s ?_);intros)
  simp (disch:=omega) only [go_sem]
 ·have hc:cmpZ y1 y2=1:=by
   unfold cmpZ;rw [Zyj zo,Zyk zo]
  rw [hc];clear ga gb sA sB;refine pI func55 rfl ntmps55 results55 call55 ?_
  (refine wkad w_t (w_2 sa sb) (w_1 (w_d 1 [(1,.v (.int .i64 a.num.sign)),(3,.v (.int .i64 b.num.sign))] [] [])) (w_s ?_);intros)
  simp (disch:=omega) only [go_sem]
theorem Zv3 (a b:Rat) {j k:Nat} (ha:Sz a j) (hb:Sz b k) (hj:j≤20000000000) (hk:k≤20000000000) (h0:b≠0):Pure prog 56 [ratQ a,ratQ b] (.tup [ratQ (a/b),.v (.int .i64 0)]):=by
 obtain⟨a1,a2⟩:=id ha;obtain⟨b1,b2⟩:=id hb;have pa:=Zdm a ha zo;have pb:=Zdm b hb zo;have cm1:=Zt5 a.num b.den zo zo;have cm2:=Zt5 b.num a.den zo zo;have x1:(toL (a.num*b.den).natAbs).length≤j+k:=Zd4 a b ha hb;have x2:(toL (b.num*a.den).natAbs).length≤k+j:=Zd4 b a hb ha;have hb0:b.num≠0:=λe=>h0 (Rat.num_eq_zero.1 e);have hd0:(a.den:Int)≠0:=by have:=a.den_nz;omega
 have hw0:b.num*(a.den:Int)≠0:=Int.mul_ne_zero hb0 hd0;have cM:=Zv1 (a.num*b.den) (b.num*a.den) zo zo hw0
 have e:Rat.divInt (a.num*b.den) (b.num*a.den)=a/b:=by
  rw [Rat.div_def,Rat.inv_def];have h1:a=Rat.divInt a.num a.den:=(Rat.num_divInt_den a).symm;rw [show a*Rat.divInt (b.den:Int) b.num=Rat.divInt a.num a.den*Rat.divInt (b.den:Int) b.num by rw [←h1],Rat.divInt_mul_divInt,Int.mul_comm b.num]
 rw [e] at cM;have cw1:=Zd3 b.den;have cw2:=Zd3 a.den;generalize a/b=q at *;generalize a.num*(b.den:Int)=y1 at *;generalize b.num*(a.den:Int)=y2 at *;refine pI func56 rfl ntmps56 results56 call56 ?_
 (repeat' (first|(with_reducible first|refine stp ?_|apply gx1|apply gx2|apply gx3|apply gx4|apply gx5|apply gx6|apply gx7|apply gy8|apply gz2|apply gz3|refine gw0 (pa) ?_ ?_|refine gw3 (pa) ?_ ?_ ?_|refine gw0 (pb) ?_ ?_|refine gw3 (pb) ?_ ?_ ?_|refine gw0 (cw1) ?_ ?_|refine gw3 (cw1) ?_ ?_ ?_|refine gw0 (cm1) ?_ ?_|refine gw3 (cm1) ?_ ?_ ?_|refine gw0 (cw2) ?_ ?_|refine gw3 (cw2) ?_ ?_ ?_|refine gw0 (cm2) ?_ ?_|refine gw3 (cm2) ?_ ?_ ?_|refine gw0 (cM) ?_ ?_|refine gw3 (cM) ?_ ?_ ?_)|(with_reducible refine Zcg ?_;intro _)|((with_reducible refine gE ?_);(try simp (disch:=omega) only [go_sem])<;>first|rfl|omega)|with_reducible refine Zai zd ?_|((with_reducible apply gy1);iterate 3 focus rfl)|((with_reducible apply gy2);iterate 3 focus rfl)|((with_reducible apply gy3);iterate 2 focus rfl)|((with_reducible apply gy4);iterate 1 focus rfl)|((with_reducible apply gy5);iterate 4 focus rfl)|((with_reducible apply gy5c);iterate 4 focus rfl)|((with_reducible apply gy6);iterate 4 focus rfl)|((with_reducible apply Zfy);iterate 3 focus rfl)|((with_reducible apply Zfr);iterate 1 focus rfl)|((with_reducible apply gy7);iterate 1 focus rfl)|((with_reducible apply gy9);(focus ((with_reducible refine gE ?_);(try simp (disch:=omega) only [go_sem])<;>rfl)))|((with_reducible apply gz1);(focus first|rfl|(simp (disch:=omega) only [go_sem];done)))|((with_reducible apply Zas (Zbr [(2,intA false b.den),(3,intZ y1),(6,intA false a.den),(7,intZ y2),(8,.tup [ratQ q,.v (.int .i64 0)])]) [] [4]);(focus kernel_rfl);(focus rfl);(focus kernel_rfl);(focus (simp only [Zyx,Zy0,Nat.reduceAdd];rfl)))))
 simp (disch:=omega) only [go_sem]
theorem Zqa (a b:Rat) {j k:Nat} (ha:Sz a j) (hb:Sz b k) (hj:j≤20000000000) (hk:k≤20000000000) (h0:b=0):Pure prog 56 [ratQ a,ratQ b] (.tup [.agg [.v (.bool false),.v (.slice none 0 0),.v (.slice none 0 0)],.v (.int .i64 3)]):=by
 obtain⟨a1,a2⟩:=id ha;obtain⟨b1,b2⟩:=id hb;have pa:=Zdm a ha zo;have pb:=Zdm b hb zo;have cm1:=Zt5 a.num b.den zo zo;have cm2:=Zt5 b.num a.den zo zo;have e0:b.num*(a.den:Int)=0:=by rw [h0,Rat.zero_num,Int.zero_mul]
 have cM:=ratMake0 (a.num*b.den) (b.num*a.den) e0;have cw1:=Zd3 b.den;have cw2:=Zd3 a.den;clear h0 e0;generalize a.num*(b.den:Int)=y1 at *;generalize b.num*(a.den:Int)=y2 at *;refine pI func56 rfl ntmps56 results56 call56 ?_
 (repeat' (first|(with_reducible first|refine stp ?_|apply gx1|apply gx2|apply gx3|apply gx4|apply gx5|apply gx6|apply gx7|apply gy8|apply gz2|apply gz3|refine gw0 (pa) ?_ ?_|refine gw3 (pa) ?_ ?_ ?_|refine gw0 (pb) ?_ ?_|refine gw3 (pb) ?_ ?_ ?_|refine gw0 (cw1) ?_ ?_|refine gw3 (cw1) ?_ ?_ ?_|refine gw0 (cm1) ?_ ?_|refine gw3 (cm1) ?_ ?_ ?_|refine gw0 (cw2) ?_ ?_|refine gw3 (cw2) ?_ ?_ ?_|refine gw0 (cm2) ?_ ?_|refine gw3 (cm2) ?_ ?_ ?_|refine gw0 (cM) ?_ ?_|refine gw3 (cM) ?_ ?_ ?_)|(with_reducible refine Zcg ?_;intro _)|((with_reducible refine gE ?_);(try simp (disch:=omega) only [go_sem])<;>first|rfl|omega)|with_reducible refine Zai zd ?_|((with_reducible apply gy1);iterate 3 focus rfl)|((with_reducible apply gy2);iterate 3 focus rfl)|((with_reducible apply gy3);iterate 2 focus rfl)|((with_reducible apply gy4);iterate 1 focus rfl)|((with_reducible apply gy5);iterate 4 focus rfl)|((with_reducible apply gy5c);iterate 4 focus rfl)|((with_reducible apply gy6);iterate 4 focus rfl)|((with_reducible apply Zfy);iterate 3 focus rfl)|((with_reducible apply Zfr);iterate 1 focus rfl)|((with_reducible apply gy7);iterate 1 focus rfl)|((with_reducible apply gy9);(focus ((with_reducible refine gE ?_);(try simp (disch:=omega) only [go_sem])<;>rfl)))|((with_reducible apply gz1);(focus first|rfl|(simp (disch:=omega) only [go_sem];done)))|((with_reducible apply Zas (Zbr [(2,intA false b.den),(3,intZ y1),(6,intA false a.den),(7,intZ y2),(8,.tup [.agg [.v (.bool false),.v (.slice none 0 0),.v (.slice none 0 0)],.v (.int .i64 3)])]) [] [4]);(focus kernel_rfl);(focus rfl);(focus kernel_rfl);(focus (simp only [Zyx,Zy0,Nat.reduceAdd];rfl)))))
 simp (disch:=omega) only [go_sem]
theorem Zij {z:Int} (h:z < 0):intZ z=intA true z.natAbs:=by unfold intZ;rw [Zyo h]
theorem Zg4 {z:Int} (h:¬z < 0):intZ z=intA false z.natAbs:=by unfold intZ;rw [Zyl h]
theorem zOf' (s:Bool) (n:Nat) (hn:(toL n).length≤1000000000000):Pure prog 84 [.v (.bool s),lim (toL n)] (intZ (zI s n)):=by
 rw [Zf7];have hp:=@Zbj n;cases s
 ·refine pI func84 rfl ntmps84 results84 call84 ?_
  (refine wkvp w_t (w_1 (rNorm n hn)) (w_s ?_);intros)
  simp (disch:=omega) only [go_sem,Zzc]
 ·by_cases h:0 < n
  ·have h2:=hp.2 h;refine pI func84 rfl ntmps84 results84 call84 ?_
   (refine wkvp w_t (w_1 (rNorm n hn)) (w_s ?_);intros)
   simp (disch:=omega) only [go_sem,Zyo h]
  ·have h2:¬0 < (toL n).length:=λh3=>h (hp.1 h3);refine pI func84 rfl ntmps84 results84 call84 ?_
   (refine wkvp w_t (w_1 (rNorm n hn)) (w_s ?_);intros)
   simp (disch:=omega) only [go_sem,Zyl h]
theorem zNorm (s:Bool) (n:Nat) (hn:(toL n).length≤1000000000000):Pure prog 45 [intA s n] (intZ (zI s n)):=by
 refine pI func45 rfl ntmps45 results45 call45 ?_
 (refine wkvp w_t (w_1 (zOf' s n hn)) (w_s ?_);intros)
 simp (disch:=omega) only [go_sem]
theorem Zun (z:Int) (hz:(toL z.natAbs).length≤1000000000000):Pure prog 45 [intZ z] (intZ z):=by
 have:=zNorm (decide (z < 0)) z.natAbs hz
 rwa [Zb5] at this
theorem zOf (n:Nat) (hn:n < 9223372036854775808):Pure prog 85 [.v (.int .i64 (n:Int))] (intA false n):=by
 have l4:(toL n).length≤4:=Zaf.2 zo;have hm:=zOf' false n zo;rw [Zf7,Zzc] at hm;refine pI func85 rfl ntmps85 results85 call85 ?_
 (refine wkvp w_t (w_2 (Zjk n zo) hm) (w_s ?_);intros)
 simp (disch:=omega) only [go_sem]
theorem zSign (z:Int) (hz:(toL z.natAbs).length≤1000000000000):Pure prog 17 [intZ z] (.v (.int .i64 z.sign)):=by
 have cn:=Zun z hz;have hp:=@Zbj z.natAbs;rcases ZBp z 0 with h | h | h
 ·rw [ZB0 h];have h2:=hp.2 zo;rw [Zij h] at cn ⊢;refine pI func17 rfl ntmps17 results17 call17 ?_
  (refine wkvp w_t (w_1 cn) (w_s ?_);intros)
  simp (disch:=omega) only [go_sem]
 ·have h2:¬0 < (toL z.natAbs).length:=λh3=>by have:=hp.1 h3;omega
  have hs:z.sign=0:=by rw [h];rfl
  rw [hs];rw [Zg4 zo] at cn ⊢;refine pI func17 rfl ntmps17 results17 call17 ?_
  (refine wkvp w_t (w_1 cn) (w_s ?_);intros)
  simp (disch:=omega) only [go_sem]
 ·rw [ZC3 h];have h2:=hp.2 zo;rw [Zg4 zo] at cn ⊢;refine pI func17 rfl ntmps17 results17 call17 ?_
  (refine wkvp w_t (w_1 cn) (w_s ?_);intros)
  simp (disch:=omega) only [go_sem]
theorem zCmp (z w:Int) (hz:(toL z.natAbs).length≤1000000000000) (hw:(toL w.natAbs).length≤1000000000000):Pure prog 126 [intZ z,intZ w] (.v (.int .i64 (cmpZ z w))):=by
 have c1:=Zun z hz;have c2:=Zun w hw;have ca:=rCmp z.natAbs w.natAbs hz hw;have cb:=rCmp w.natAbs z.natAbs hw hz;by_cases h1:z < 0
 ·by_cases h2:w < 0
  ·have hc:cmpZ z w=cmpN w.natAbs z.natAbs:=by
    unfold cmpZ cmpN;have e1:(z < w)↔(w.natAbs < z.natAbs):=zo;have e2:(w < z)↔(z.natAbs < w.natAbs):=zo;simp only [e1,e2]
   rw [hc];rw [Zij h1] at c1 ⊢;rw [Zij h2] at c2 ⊢;refine pI func126 rfl ntmps126 results126 call126 ?_
   (refine wkad w_t (w_3 c1 c2 cb) (w_1 (w_d 1 [(1,.agg [.v (.bool true),lim (toL z.natAbs)]),(3,.agg [.v (.bool true),lim (toL w.natAbs)])] [4,5] [])) (w_s ?_);intros)
   simp (disch:=omega) only [go_sem]
  ·have hc:cmpZ z w=-1:=Zyk zo;rw [hc];rw [Zij h1] at c1 ⊢;rw [Zg4 h2] at c2 ⊢;refine pI func126 rfl ntmps126 results126 call126 ?_
   (refine wkad w_t (w_2 c1 c2) (w_1 (w_d 1 [(1,.agg [.v (.bool true),lim (toL z.natAbs)]),(3,.agg [.v (.bool false),lim (toL w.natAbs)])] [4,5] [])) (w_s ?_);intros)
   simp (disch:=omega) only [go_sem]
 ·by_cases h2:w < 0
  ·have hc:cmpZ z w=1:=by unfold cmpZ;rw [Zyj zo,Zyk zo]
   rw [hc];rw [Zg4 h1] at c1 ⊢;rw [Zij h2] at c2 ⊢;refine pI func126 rfl ntmps126 results126 call126 ?_
   (refine wkad w_t (w_2 c1 c2) (w_1 (w_d 1 [(1,.agg [.v (.bool false),lim (toL z.natAbs)]),(3,.agg [.v (.bool true),lim (toL w.natAbs)])] [4,5] [])) (w_s ?_);intros)
   simp (disch:=omega) only [go_sem]
  ·have hc:cmpZ z w=cmpN z.natAbs w.natAbs:=by
    unfold cmpZ cmpN;have e1:(z < w)↔(z.natAbs < w.natAbs):=zo;have e2:(w < z)↔(w.natAbs < z.natAbs):=zo;simp only [e1,e2]
   rw [hc];rw [Zg4 h1] at c1 ⊢;rw [Zg4 h2] at c2 ⊢;refine pI func126 rfl ntmps126 results126 call126 ?_
   (refine wkad w_t (w_3 c1 c2 ca) (w_1 (w_d 1 [(1,.agg [.v (.bool false),lim (toL z.natAbs)]),(3,.agg [.v (.bool false),lim (toL w.natAbs)])] [4,5] [])) (w_s ?_);intros)
   simp (disch:=omega) only [go_sem]
theorem zMul (s t:Bool) (n m:Nat) (hn:(toL n).length≤400000000000) (hm:(toL m).length≤400000000000):Pure prog 52 [intA s n,intA t m] (intZ (zI s n*zI t m)):=by
 have e:zI s n*zI t m=zI (s != t) (n*m):=by cases s<;>cases t<;>simp [zI,Int.mul_neg,Int.neg_mul]
 have lm:=Zft n m;have hne:(!(s == t))=(s != t):=rfl;rw [e];refine pI func52 rfl ntmps52 results52 call52 ?_
 (refine wkad (w_1 hne) (w_2 (rMul n m zo zo) (zOf' (s != t) (n*m) zo)) (w_1 (w_d 1 [(9,lim (toL (n*m))),(10,intZ (zI (s != t) (n*m)))] [11] [])) (w_s ?_);intros)
 simp (disch:=omega) only [go_sem]
theorem zAdd (s t:Bool) (n m:Nat) (hn:(toL n).length≤400000000000) (hm:(toL m).length≤400000000000):Pure prog 51 [intA s n,intA t m] (intZ (zI s n+zI t m)):=by
 by_cases hst:s=t
 ·subst hst;have e:zI s n+zI s m=zI s (n+m):=by cases s<;>simp [zI]<;>omega
  have la:=Zo2 n m;rw [e];have hb:(s == s)=true:=by cases s<;>rfl
  refine pI func51 rfl ntmps51 results51 call51 ?_
  (refine wkad (w_1 hb) (w_2 (rAdd n m zo zo) (zOf' s (n+m) zo)) (w_1 (w_d 2 [(6,lim (toL (n+m))),(7,intZ (zI s (n+m)))] [8] [])) (w_s ?_);intros)
  simp (disch:=omega) only [go_sem]
 ·have hb:(s == t)=false:=by cases s<;>cases t<;>first|rfl|exact absurd rfl hst
  have ht:t=!s:=by cases s<;>cases t<;>first|rfl|exact absurd rfl hst
  have c1:=rSub n m zo zo;have c2:=rSub m n zo zo;by_cases hlt:n < m
  ·have e:zI s n+zI t m=zI t (m - n):=by rw [ht];cases s<;>simp [zI]<;>omega
   have ls:(toL (m - n)).length≤1000000000000:=Zyz (Zdz (Nat.sub_le _ _)) zo;rw [Zyk hlt,Zyk hlt] at c1;rw [Zyj zo,Zyj zo] at c2;rw [e];refine pI func51 rfl ntmps51 results51 call51 ?_
   (refine wkad (w_1 hb) (w_3 c1 c2 (zOf' t (m - n) ls)) w_t (w_s ?_);intros)
   simp (disch:=omega) only [go_sem]
  ·have e:zI s n+zI t m=zI s (n - m):=by rw [ht];cases s<;>simp [zI]<;>omega
   have ls:(toL (n - m)).length≤1000000000000:=Zyz (Zdz (Nat.sub_le _ _)) zo;rw [Zyj hlt,Zyj hlt] at c1;rw [e];refine pI func51 rfl ntmps51 results51 call51 ?_
   (refine wkad (w_1 hb) (w_2 c1 (zOf' s (n - m) ls)) w_t (w_s ?_);intros)
   simp (disch:=omega) only [go_sem]
theorem gcd_le_l (n m:Nat) (h:m≠0):Nat.gcd n m≠0:=Nat.ne_of_gt (ZDf _ (ZAz h))
theorem intZ_div (s:Bool) (n g:Nat) (hg:g ∣ n) (h0:g≠0):intZ (zI s (n/g))=.agg [.v (.bool (decide (zI s n < 0))),lim (toL (n/g))]:=by
 rw [Zf7,zI_lt]
 have:(0 < n/g)↔(0 < n):=by
  obtain⟨k,rfl⟩:=hg;rw [Nat.mul_div_cancel_left _ (ZAz h0)];constructor
  ·intro h;exact Nat.mul_pos (ZAz h0) h
  ·intro h;exact ZAz λe=>by rw [e] at h;simp at h
 simp only [this]
theorem Zv9 (s:Bool) (n m:Nat) (hn:(toL n).length≤100000000000) (hm:(toL m).length≤100000000000) (h0:m≠0):Pure prog 46 [intA s n,lim (toL m)] (ratQ (mkRat (zI s n) m)):=by
 rw [Zp9 _ _ h0,Zd5];have g0:=gcd_le_l n m h0;have hgd:=Nat.gcd_dvd_left n m;have hmp:=Zbj.2 (ZAz h0);have hg:(toL (Nat.gcd n m)).length≤100000000000:=Zyz (Zdz (Nat.le_of_dvd zo (Nat.gcd_dvd_right _ _))) hm;have hq:(toL (n/Nat.gcd n m)).length≤100000000000:=Zyz (Zdz (ZCu _ _)) hn;have cg:=rGcd n m zo zo;have c1:=Zv7 n (Nat.gcd n m) zo zo g0;have c2:=Zv7 m (Nat.gcd n m) zo zo g0;have cn:=zNorm s (n/Nat.gcd n m) zo;rw [intZ_div s n _ hgd g0] at cn;refine pI func46 rfl ntmps46 results46 call46 ?_
 (refine wkvp w_t (w_5 (rNorm m zo) cg c1 c2 cn) (w_s ?_);intros)
 simp (disch:=omega) only [go_sem]
theorem Ztn (q:Rat) {k:Nat} (h:Sz q k) (hk:k≤100000000000):Pure prog 18 [ratQ q] (ratQ q):=by
 have c:=Zv9 (decide (q.num < 0)) q.num.natAbs q.den (Zyz h.1 hk) (Zyz h.2 hk) q.den_nz;rw [Zb5,ZCv] at c;refine pI func18 rfl ntmps18 results18 call18 ?_
 (refine wkvp w_t (w_1 c) (w_s ?_);intros)
 simp (disch:=omega) only [go_sem]
theorem Zrw (n:Nat):Pure prog 53 [lim (toL n)] (intA false n):=by
 refine pI func53 rfl ntmps53 results53 call53 ?_
 (refine wkvp w_t w_t (w_s ?_);intros)
 simp (disch:=omega) only [go_sem]
theorem qOf (n:Nat) (hn:n < 9223372036854775808):Pure prog 47 [.v (.int .i64 (n:Int))] (ratQ (n:Rat)):=by
 have l4:(toL n).length≤4:=Zaf.2 zo;have c:=Zv9 false n 1 zo (by rw [Zhl];omega) zo
 have e:mkRat (zI false n) 1=(n:Rat):=by
  have:=ZCv (n:Rat);exact this
 rw [e] at c;refine pI func47 rfl ntmps47 results47 call47 ?_
 (refine wkvp w_t (w_3 (zOf n hn) (Zjk 1 zo) c) (w_s ?_);intros)
 simp (disch:=omega) only [go_sem]
theorem qMul (a b:Rat) {j k:Nat} (ha:Sz a j) (hb:Sz b k) (hj:j≤20000000000) (hk:k≤20000000000):Pure prog 22 [ratQ a,ratQ b] (ratQ (a*b)):=by
 obtain⟨a1,a2⟩:=id ha;obtain⟨b1,b2⟩:=id hb;have l1:(toL (a.num*b.num).natAbs).length≤j+k:=by rw [ZA4];exact Zyz (Zft _ _) zo
 have l2:(toL (a.den*b.den)).length≤j+k:=Zyz (Zft _ _) zo;have c:=Zv9 (decide (a.num*b.num < 0)) (a.num*b.num).natAbs (a.den*b.den) zo zo (ZCh a.den_nz b.den_nz);rw [Zb5,←Rat.mul_def'] at c;have cz:=zMul (decide (a.num < 0)) (decide (b.num < 0)) a.num.natAbs b.num.natAbs zo zo;rw [Zb5,Zb5] at cz;have cd:=rMul a.den b.den zo zo;generalize a*b=q at *;generalize a.num*b.num=y at *;refine pI func22 rfl ntmps22 results22 call22 ?_
 (refine wkad w_t (w_3 cz cd c) (w_1 (w_d 1 [(4,intZ y),(9,lim (toL (a.den*b.den))),(10,ratQ q)] [11] [])) (w_s ?_);intros)
 simp (disch:=omega) only [go_sem]
theorem qAdd (a b:Rat) {j k:Nat} (ha:Sz a j) (hb:Sz b k) (hj:j≤20000000000) (hk:k≤20000000000):Pure prog 21 [ratQ a,ratQ b] (ratQ (a+b)):=by
 obtain⟨a1,a2⟩:=id ha;obtain⟨b1,b2⟩:=id hb;have na:=Ztn a ha zo;have nb:=Ztn b hb zo;have cm1:=zMul (decide (a.num < 0)) false a.num.natAbs b.den zo zo;have cm2:=zMul (decide (b.num < 0)) false b.num.natAbs a.den zo zo;rw [Zb5] at cm1 cm2;have cm1:Pure prog 52 [intZ a.num,intA false b.den] (intZ (a.num*b.den)):=cm1;have cm2:Pure prog 52 [intZ b.num,intA false a.den] (intZ (b.num*a.den)):=cm2;have x1:(toL (a.num*b.den).natAbs).length≤j+k:=Zd4 a b ha hb;have x2:(toL (b.num*a.den).natAbs).length≤k+j:=Zd4 b a hb ha
 have l1:(toL (a.num*b.den+b.num*a.den).natAbs).length≤j+k+1:=by
  have h3:=Zdz (Zep (a.num*b.den) (b.num*a.den));have h4:=Zo2 (a.num*b.den).natAbs (b.num*a.den).natAbs;omega
 have l2:(toL (a.den*b.den)).length≤j+k:=Zyz (Zft _ _) zo;have ca:=zAdd (decide (a.num*b.den < 0)) (decide (b.num*a.den < 0)) (a.num*b.den).natAbs (b.num*a.den).natAbs zo zo;rw [Zb5,Zb5] at ca;have c:=Zv9 (decide (a.num*b.den+b.num*a.den < 0)) (a.num*b.den+b.num*a.den).natAbs (a.den*b.den) zo zo (ZCh a.den_nz b.den_nz);rw [Zb5,←Rat.add_def'] at c;have cw1:=Zrw b.den;have cw2:=Zrw a.den;have cd:=rMul a.den b.den zo zo;generalize a+b=q at *;generalize a.num*(b.den:Int)=y1 at *;generalize b.num*(a.den:Int)=y2 at *;refine pI func21 rfl ntmps21 results21 call21 ?_
 (refine wkvp w_t w_t (w_s ?_);intros)
 apply Zas (Zbr [(1,ratQ a),(3,ratQ b)]) [4,5] [] zk zr zk;(focus (simp only [Zyx,Zy0,Nat.reduceAdd];rfl))
 (refine wkax w_t (w_2 na nb) w_t w_t w_t w_t w_t (w_r 0) (w_s ?_);intros)
 apply Zas (Zbr [(4,intA false b.den),(5,intZ y1),(10,intA false a.den),(11,intZ y2),(12,intZ (y1+y2)),(17,lim (toL (a.den*b.den))),(18,ratQ q)]) [19] [] zk zr zk;(focus (simp only [Zyx,Zy0,Nat.reduceAdd];rfl))
 (refine wkax w_t (w_7 cw1 cm1 cw2 cm2 ca cd c) w_t w_t w_t w_t w_t (w_r 0) (w_s ?_);intros)
 simp (disch:=omega) only [go_sem]
theorem qCmp (a b:Rat) {j k:Nat} (ha:Sz a j) (hb:Sz b k) (hj:j≤20000000000) (hk:k≤20000000000):Pure prog 81 [ratQ a,ratQ b] (.v (.int .i64 (cmpQ a b))):=by
 obtain⟨a1,a2⟩:=id ha;obtain⟨b1,b2⟩:=id hb;have na:=Ztn a ha zo;have nb:=Ztn b hb zo;have cm1:=zMul (decide (a.num < 0)) false a.num.natAbs b.den zo zo;have cm2:=zMul (decide (b.num < 0)) false b.num.natAbs a.den zo zo;rw [Zb5] at cm1 cm2;have cm1:Pure prog 52 [intZ a.num,intA false b.den] (intZ (a.num*b.den)):=cm1;have cm2:Pure prog 52 [intZ b.num,intA false a.den] (intZ (b.num*a.den)):=cm2;have x1:(toL (a.num*b.den).natAbs).length≤j+k:=Zd4 a b ha hb;have x2:(toL (b.num*a.den).natAbs).length≤k+j:=Zd4 b a hb ha;have cc:=zCmp (a.num*b.den) (b.num*a.den) zo zo;rw [cmpQ_z]
 have cw1:=Zrw b.den;have cw2:=Zrw a.den;generalize a.num*(b.den:Int)=y1 at *;generalize b.num*(a.den:Int)=y2 at *;refine pI func81 rfl ntmps81 results81 call81 ?_
 (refine wkvp w_t w_t (w_s ?_);intros)
 apply Zas (Zbr [(1,ratQ a),(3,ratQ b)]) [4,5] [] zk zr zk;(focus (simp only [Zyx,Zy0,Nat.reduceAdd];rfl))
 (refine wkax w_t (w_2 na nb) w_t w_t w_t w_t w_t (w_r 0) (w_s ?_);intros)
 apply Zas (Zbr [(4,intA false b.den),(5,intZ y1),(10,intA false a.den),(11,intZ y2),(12,.v (.int .i64 (cmpZ y1 y2)))]) [] [] zk zr zk;(focus (simp only [Zyx,Zy0,Nat.reduceAdd];rfl))
 (refine wkax w_t (w_5 cw1 cm1 cw2 cm2 cc) w_t w_t w_t w_t w_t (w_r 0) (w_s ?_);intros)
 simp (disch:=omega) only [go_sem]
theorem Zv2 (n m:Nat) (hn:n < 9223372036854775808) (hm:m < 9223372036854775808) (h0:m≠0):Pure prog 27 [.v (.int .i64 (n:Int)),.v (.int .i64 (m:Int))] (ratQ (mkRat n m)):=by
 have l4:(toL n).length≤4:=Zaf.2 zo;have m4:(toL m).length≤4:=Zaf.2 zo;have c:=Zv1 (n:Int) (m:Int) (by rw [ZA8];omega) (by rw [ZA8];omega) zo;rw [Rat.divInt_ofNat] at c
 have e1:intZ (n:Int)=intA false n:=by
  have:=Zf7 false n
  rwa [Zzc] at this
 have e2:intZ (m:Int)=intA false m:=by
  have:=Zf7 false m
  rwa [Zzc] at this
 rw [e1,e2] at c;generalize mkRat (n:Int) m=q at *;refine pI func27 rfl ntmps27 results27 call27 ?_
 (refine wkvp w_t (w_3 (intOf n hn) (intOf m hm) c) (w_s ?_);intros)
 simp (disch:=omega) only [go_sem]
theorem szIv:szOf prog 36=some 6:=by kernel_rfl
theorem zIv:Zaq prog 36=some (.agg #[.bool false,.slice none 0 0,.slice none 0 0,.bool false,.slice none 0 0,.slice none 0 0]):=by kernel_rfl
theorem Zny:szOf prog 38=some 12:=by kernel_rfl
theorem zBox:Zaq prog 38=some (.agg #[.bool false,.slice none 0 0,.slice none 0 0,.bool false,.slice none 0 0,.slice none 0 0,.bool false,.slice none 0 0,.slice none 0 0,.bool false,.slice none 0 0,.slice none 0 0]):=by kernel_rfl
attribute [go_sem] underlying36
structure RQ where
 s:Bool
 l:List Nat
 d:List Nat
def RQ.lm (r:RQ) (k:Nat):Prop:=Lm r.l∧Lm r.d∧r.l.length≤k∧r.d.length≤k
abbrev RQ.av (r:RQ):AV:=.agg [.v (.bool r.s),lim r.l,lim r.d]
def RQ.zok (s:Bool) (l:List Nat):Bool:=valL l && !(s && decide (l.length=0))
def RQ.ok (r:RQ):Bool:=RQ.zok r.s r.l && valL r.d && (Nat.gcd (nv r.l) (nv r.d) == 1) && decide (0 < r.d.length)
def RQ.q (r:RQ):Rat:=mkRat (zI r.s (nv r.l)) (nv r.d)
theorem RQ.ok_av {r:RQ} {k:Nat} (hl:r.lm k) (h:r.ok=true):r.av=ratQ r.q∧Sz r.q k:=by
 obtain⟨s,l,d⟩:=r;obtain⟨h1,h2,h3,h4⟩:=hl;simp only [RQ.ok,RQ.zok,Zy7,Zzi,ZAs,ZAn] at h;obtain⟨⟨⟨⟨v1,v2⟩,v3⟩,v4⟩,v5⟩:=h;have e1:=(Zmh h1).1 v1;have e2:=(Zmh h2).1 v3;simp only [RQ.av,RQ.q] at *;generalize nv l=n at *;generalize nv d=m at *;subst e1;subst e2;have hm:m≠0:=by have:=Zbj.1 v5;omega
 have hs:decide (zI s n < 0)=s:=by
  rw [zI_lt];cases s
  ·rfl
  ·have:(toL n).length≠0:=by simpa using v2
   rw [Zyo (Zbj.1 zo)];rfl
 refine⟨?_,Sz.mk (by rw [Zd5];exact h3) h4 zo⟩;rw [Zp9 _ _ hm,Zd5,v4,ZCd,ZCd,hs]
theorem Zpo {a b:Nat}:toL a=toL b↔a=b:=⟨λh=>by rw [←Zam a,h,Zam],λh=>by rw [h]⟩
theorem zRight (s:Bool) (l:List Nat) (hs:l.length≤1000000000000) (hl:Lm l):Pure prog 40 [.agg [.v (.bool s),lim l]] (.v (.bool (RQ.zok s l))):=by
 have cv:=Zrs l zo hl;unfold RQ.zok;generalize valL l=v at *;cases v
 ·refine pI func40 rfl ntmps40 results40 call40 ?_
  (refine wkvp (w_1 @Zzc) (w_1 cv) (w_s ?_);intros)
  simp (disch:=omega) only [go_sem,Zzc]
 ·cases s
  ·refine pI func40 rfl ntmps40 results40 call40 ?_
   (refine wkvp (w_1 @Zzc) (w_1 cv) (w_s ?_);intros)
   simp (disch:=omega) only [go_sem,Zzc]
  ·by_cases h0:l.length=0
   ·refine pI func40 rfl ntmps40 results40 call40 ?_
    (refine wkvp (w_2 h0 @ZA7) (w_1 cv) (w_s ?_);intros)
    simp (disch:=omega) only [go_sem,h0]
   ·refine pI func40 rfl ntmps40 results40 call40 ?_
    (refine wkvp w_t (w_1 cv) (w_s ?_);intros)
    simp (disch:=omega) only [go_sem,h0,Zyl h0]
theorem Zob (s:Bool) (l d:List Nat) (h1:Lm l) (h2:Lm d) (h3:l.length≤1000000000000) (h4:d.length≤1000000000000):Pure prog 16 [.agg [.v (.bool s),lim l,lim d]] (.v (.bool (RQ.ok ⟨s,l,d⟩))):=by
 have cz:=zRight s l h3 h1;have cv:=Zrs d zo h2;have cg:=refGcd l d zo zo h1 h2
 have hgl:(toL (Nat.gcd (nv l) (nv d))).length≤1000000000000:=by
  have l1:=Zap h1;have l2:=Zap h2;by_cases hd:nv d=0
  ·rw [hd,Nat.gcd_zero_right];omega
  ·exact Zyz (Zdz (Nat.gcd_le_right _ zo)) zo
 have cs:=refSameN (toL (Nat.gcd (nv l) (nv d))) (toL 1) zo (by rw [Zhl];omega) (Zan _) (Zan _);rw [show decide (toL (Nat.gcd (nv l) (nv d))=toL 1)=(Nat.gcd (nv l) (nv d) == 1) from by rw [Zzg,Zzi,ZAn];exact Zpo] at cs;unfold RQ.ok;generalize RQ.zok s l=v at *;simp only;generalize Nat.gcd (nv l) (nv d)=g at *;cases v
 ·refine pI func16 rfl ntmps16 results16 call16 ?_
  (refine wkvp (w_1 @Zzc) (w_1 cz) (w_s ?_);intros)
  simp (disch:=omega) only [go_sem,Zzc]
 ·generalize valL d=v at *;cases v
  ·refine pI func16 rfl ntmps16 results16 call16 ?_
   (refine wkvp (w_1 @Zzc) (w_2 cz cv) (w_s ?_);intros)
   simp (disch:=omega) only [go_sem,Zzc]
  ·by_cases hg:g=1
   ·have hgb:(g == 1)=true:=by rw [ZAn];exact hg
    rw [hgb] at cs ⊢;by_cases hd:0 < d.length
    ·rw [Zyo hd];refine pI func16 rfl ntmps16 results16 call16 ?_
     (refine wkvp w_t (w_5 cz cv cg (Zjk 1 zo) cs) (w_s ?_);intros)
     simp (disch:=omega) only [go_sem]
    ·rw [Zyl hd];refine pI func16 rfl ntmps16 results16 call16 ?_
     (refine wkvp w_t (w_5 cz cv cg (Zjk 1 zo) cs) (w_s ?_);intros)
     simp (disch:=omega) only [go_sem,ZA9]
   ·have hgb:(g == 1)=false:=by rw [ZDj];exact hg
    rw [hgb] at cs ⊢;refine pI func16 rfl ntmps16 results16 call16 ?_
    (refine wkvp (w_2 @ZA9 @Zzc) (w_5 cz cv cg (Zjk 1 zo) cs) (w_s ?_);intros)
    simp (disch:=omega) only [go_sem,ZA9,Zzc]
attribute [go_sem] underlying38 underlying70 szIv zIv zBox
attribute [local go_sem] Zny
abbrev Zqf (a b:Rat):AV:=.agg [.v (.bool (decide (a.num < 0))),lim (toL a.num.natAbs),lim (toL a.den),.v (.bool (decide (b.num < 0))),lim (toL b.num.natAbs),lim (toL b.den)]
abbrev boxQ (a b c d:Rat):AV:=.agg [.v (.bool (decide (a.num < 0))),lim (toL a.num.natAbs),lim (toL a.den),.v (.bool (decide (b.num < 0))),lim (toL b.num.natAbs),lim (toL b.den),
 .v (.bool (decide (c.num < 0))),lim (toL c.num.natAbs),lim (toL c.den),.v (.bool (decide (d.num < 0))),lim (toL d.num.natAbs),lim (toL d.den)]
def hlf:Rat:=mkRat 1 2
theorem Zkt:Sz hlf 1:=Sz.mk (Zaf.2 zd) (Zaf.2 zd) (Zyp _)
theorem Zsq {a b:Rat}:cmpQ a b < 0↔a < b:=by
 unfold cmpQ;by_cases h:a < b
 ·simp [h]
 ·rw [Zyj h];by_cases h2:b < a
  ·simp [h,h2]
  ·simp [h,h2]
theorem cmpQ_pos {a b:Rat}:0 < cmpQ a b↔b < a:=by
 unfold cmpQ;by_cases h:a < b
 ·rw [Zyk h];constructor
  ·intro h2;omega
  ·intro h2;exact absurd (Rat.le_of_lt h) (Rat.not_le.2 h2)
 ·rw [Zyj h];by_cases h2:b < a
  ·simp [h2]
  ·simp [h2]
theorem Zgl (n:Nat) (h:n < 65536):Sz (n:Rat) 1:=Sz.int (z:=(n:Int)) (by rw [ZA8];exact Zaf.2 zo) (Zyp _)
abbrev zeroR:AV:=.agg [.v (.bool false),.v (.slice none 0 0),.v (.slice none 0 0)]
theorem Zxy (a b:Rat) {j k:Nat} (ha:Sz a j) (hb:Sz b k) (hj:j≤100000) (hk:k≤100000):Pure prog 23 [Zqf a b] (ratQ ((a+b)*hlf)):=by
 have ca:=Zrv a b ha hb zo zo;have cf:Pure prog 27 [.v (.int .i64 1),.v (.int .i64 2)] (ratQ hlf):=Zv2 1 2 zo zo zo;have cm:=Zv0 (a+b) hlf (ha.add hb) Zkt zo zo;generalize (a+b)*hlf=q at *;generalize a+b=y at *;generalize hlf=hf at *;refine pI func23 rfl ntmps23 results23 call23 ?_;(focus (refine wkad w_t (w_3 ca cf cm) w_t ?_;(repeat' first|exact w_t|apply w_l);all_goals intros));simp (disch:=omega) only [go_sem]
def fac (w h:Nat) (x y:Rat):Rat :=
 if x=0 then (if y=0 then 1 else ((h - 40:Nat):Rat)/y) else if y=0 then ((w - 40:Nat):Rat)/x
 else if ((h - 40:Nat):Rat)/y < ((w - 40:Nat):Rat)/x then ((h - 40:Nat):Rat)/y else ((w - 40:Nat):Rat)/x
theorem dFactor (x y:Rat) (w h:Nat) {j:Nat} (hx:Sz x j) (hy:Sz y j) (hj:j≤10000) (hw:w≤4000) (hh:h≤4000) (hw1:100≤w) (hh1:100≤h):Pure prog 25 [ratQ x,ratQ y,.v (.int .i64 (w:Int)),.v (.int .i64 (h:Int))] (ratQ (fac w h x y)):=by
 have ew:(w:Int) - 40=((w - 40:Nat):Int):=zo;have eh:(h:Int) - 40=((h - 40:Nat):Int):=zo;have kw:=Zgl (w - 40) zo;have kh:=Zgl (h - 40) zo;have sw:=kw.div hx;have sh:=kh.div hy;have c1:Pure prog 29 [.v (.int .i64 1)] (ratQ 1):=Zvz 1 zo;have cw:=Zvz (w - 40) zo;have ch:=Zvz (h - 40) zo;unfold fac;by_cases h0:x=0
 ·have qx:=Zqa ((w - 40:Nat):Rat) x kw hx zo zo h0;rw [Zyk h0];by_cases h1:y=0
  ·have qy:=Zqa ((h - 40:Nat):Rat) y kh hy zo zo h1;rw [Zyk h1];clear h0 h1;generalize ((w - 40:Nat):Rat)=q1 at *;generalize ((h - 40:Nat):Rat)=q2 at *;refine pI func25 rfl ntmps25 results25 call25 ?_;(focus (refine wkvp w_t w_t ?_;(repeat' first|exact w_t|apply w_l);all_goals intros));apply Zas (Zbr [(2,ratQ q1),(4,.tup [zeroR,.v (.int .i64 3)])]) [] [9] zk zr zk;(focus (simp only [Zyx,Zy0,Nat.reduceAdd];rfl));(focus (refine wkax (w_1 ew) (w_2 cw qx) w_t w_t w_t w_t w_t (w_r 0) ?_;(repeat' first|exact w_t|apply w_l);all_goals intros));apply Zas (Zbr [(2,ratQ q2),(4,.tup [zeroR,.v (.int .i64 3)])]) [] [11] zk zr zk;(focus (simp only [Zyx,Zy0,Nat.reduceAdd];rfl))
   (focus (refine wkax (w_1 eh) (w_3 ch qy c1) w_t w_t w_t w_t w_t (w_r 0) ?_;(repeat' first|exact w_t|apply w_l);all_goals intros));simp (disch:=omega) only [go_sem]
  ·have qy:=Zv3 ((h - 40:Nat):Rat) y kh hy zo zo h1;rw [Zyj h1];clear h0 h1;generalize ((h - 40:Nat):Rat)/y=q at *;generalize ((w - 40:Nat):Rat)=q1 at *;generalize ((h - 40:Nat):Rat)=q2 at *;refine pI func25 rfl ntmps25 results25 call25 ?_;(focus (refine wkvp w_t w_t ?_;(repeat' first|exact w_t|apply w_l);all_goals intros));apply Zas (Zbr [(2,ratQ q1),(4,.tup [zeroR,.v (.int .i64 3)])]) [] [9] zk zr zk;(focus (simp only [Zyx,Zy0,Nat.reduceAdd];rfl));(focus (refine wkax (w_1 ew) (w_2 cw qx) w_t w_t w_t w_t w_t (w_r 0) ?_;(repeat' first|exact w_t|apply w_l);all_goals intros))
   apply Zas (Zbr [(2,ratQ q2),(4,.tup [ratQ q,.v (.int .i64 0)])]) [] [11] zk zr zk;(focus (simp only [Zyx,Zy0,Nat.reduceAdd];rfl));(focus (refine wkax (w_1 eh) (w_3 ch qy c1) w_t w_t w_t w_t w_t (w_r 0) ?_;(repeat' first|exact w_t|apply w_l);all_goals intros));simp (disch:=omega) only [go_sem]
 ·have qx:=Zv3 ((w - 40:Nat):Rat) x kw hx zo zo h0;rw [Zyj h0];by_cases h1:y=0
  ·have qy:=Zqa ((h - 40:Nat):Rat) y kh hy zo zo h1;rw [Zyk h1];clear h0 h1;generalize ((w - 40:Nat):Rat)/x=q at *;generalize ((w - 40:Nat):Rat)=q1 at *;generalize ((h - 40:Nat):Rat)=q2 at *;refine pI func25 rfl ntmps25 results25 call25 ?_;(focus (refine wkvp w_t w_t ?_;(repeat' first|exact w_t|apply w_l);all_goals intros));apply Zas (Zbr [(2,ratQ q1),(4,.tup [ratQ q,.v (.int .i64 0)])]) [] [9] zk zr zk;(focus (simp only [Zyx,Zy0,Nat.reduceAdd];rfl));(focus (refine wkax (w_1 ew) (w_2 cw qx) w_t w_t w_t w_t w_t (w_r 0) ?_;(repeat' first|exact w_t|apply w_l);all_goals intros))
   apply Zas (Zbr [(2,ratQ q2),(4,.tup [zeroR,.v (.int .i64 3)])]) [] [11] zk zr zk;(focus (simp only [Zyx,Zy0,Nat.reduceAdd];rfl));(focus (refine wkax (w_1 eh) (w_3 ch qy c1) w_t w_t w_t w_t w_t (w_r 0) ?_;(repeat' first|exact w_t|apply w_l);all_goals intros));simp (disch:=omega) only [go_sem]
  ·have qy:=Zv3 ((h - 40:Nat):Rat) y kh hy zo zo h1;rw [Zyj h1];have cc:=Zv4 (((h - 40:Nat):Rat)/y) (((w - 40:Nat):Rat)/x) sh sw zo zo;have hc:=@Zsq (((h - 40:Nat):Rat)/y) (((w - 40:Nat):Rat)/x);clear h0 h1;generalize cmpQ (((h - 40:Nat):Rat)/y) (((w - 40:Nat):Rat)/x)=s at *;by_cases hlt:((h - 40:Nat):Rat)/y < ((w - 40:Nat):Rat)/x
   ·rw [Zyk hlt];have hs:=hc.2 hlt;clear hc hlt;generalize ((w - 40:Nat):Rat)/x=q3 at *;generalize ((h - 40:Nat):Rat)/y=q4 at *;generalize ((w - 40:Nat):Rat)=q1 at *;generalize ((h - 40:Nat):Rat)=q2 at *;refine pI func25 rfl ntmps25 results25 call25 ?_;(focus (refine wkvp w_t w_t ?_;(repeat' first|exact w_t|apply w_l);all_goals intros));apply Zas (Zbr [(2,ratQ q1),(4,.tup [ratQ q3,.v (.int .i64 0)])]) [] [9] zk zr zk;(focus (simp only [Zyx,Zy0,Nat.reduceAdd];rfl));(focus (refine wkax (w_1 ew) (w_2 cw qx) w_t w_t w_t w_t w_t (w_r 0) ?_;(repeat' first|exact w_t|apply w_l);all_goals intros))
    apply Zas (Zbr [(2,ratQ q2),(4,.tup [ratQ q4,.v (.int .i64 0)])]) [] [11] zk zr zk;(focus (simp only [Zyx,Zy0,Nat.reduceAdd];rfl));(focus (refine wkax (w_1 eh) (w_3 ch qy cc) w_t w_t w_t w_t w_t (w_r 0) ?_;(repeat' first|exact w_t|apply w_l);all_goals intros));simp (disch:=omega) only [go_sem]
   ·rw [Zyj hlt];have hs:¬s < 0:=λh5=>hlt (hc.1 h5);clear hc hlt;generalize ((w - 40:Nat):Rat)/x=q3 at *;generalize ((h - 40:Nat):Rat)/y=q4 at *;generalize ((w - 40:Nat):Rat)=q1 at *;generalize ((h - 40:Nat):Rat)=q2 at *;refine pI func25 rfl ntmps25 results25 call25 ?_;(focus (refine wkvp w_t w_t ?_;(repeat' first|exact w_t|apply w_l);all_goals intros));apply Zas (Zbr [(2,ratQ q1),(4,.tup [ratQ q3,.v (.int .i64 0)])]) [] [9] zk zr zk;(focus (simp only [Zyx,Zy0,Nat.reduceAdd];rfl));(focus (refine wkax (w_1 ew) (w_2 cw qx) w_t w_t w_t w_t w_t (w_r 0) ?_;(repeat' first|exact w_t|apply w_l);all_goals intros))
    apply Zas (Zbr [(2,ratQ q2),(4,.tup [ratQ q4,.v (.int .i64 0)])]) [] [11] zk zr zk;(focus (simp only [Zyx,Zy0,Nat.reduceAdd];rfl));(focus (refine wkax (w_1 eh) (w_3 ch qy cc) w_t w_t w_t w_t w_t (w_r 0) ?_;(repeat' first|exact w_t|apply w_l);all_goals intros));simp (disch:=omega) only [go_sem]
theorem dWhole (q:Rat) {j:Nat} (hq:Sz q j) (hj:j≤100000) (n:Nat) (hn:n < 65536) (hf:q.floor=(n:Int)):Pure prog 31 [ratQ q] (.v (.int .i64 (n:Int))):=by
 have cf:=ratFloor q hq zo
 have e:intZ q.floor=intA false n:=by
  rw [hf];have:=Zf7 false n
  rwa [Zzc] at this
 rw [e] at cf;have l4:(toL n).length≤4:=Zaf.2 zo;have cu:=Zwx (toL n) zo (Zan _);rw [Zam,Zyk zo,Zyo (by omega:n < 18446744073709551616)] at cu;refine pI func31 rfl ntmps31 results31 call31 ?_;(focus (refine wkad w_t (w_2 cf cu) w_t ?_;(repeat' first|exact w_t|apply w_l);all_goals intros));simp (disch:=omega) only [go_sem]
attribute [go_sem] underlying22 underlying40 underlying54
def minF (m:Rat) (l:List Rat):Rat:=l.foldl (λm a=>if a < m then a else m) m
def maxF (m:Rat) (l:List Rat):Rat:=l.foldl (λm a=>if m < a then a else m) m
theorem Zw3 (m:Rat) (l:List Rat) (a:Rat):minF m (l++[a])=if a < minF m l then a else minF m l:=by unfold minF;rw [List.foldl_append];rfl
theorem Zw4 (m:Rat) (l:List Rat) (a:Rat):maxF m (l++[a])=if maxF m l < a then a else maxF m l:=by unfold maxF;rw [List.foldl_append];rfl
theorem Zm6 {k:Nat}:∀(l:List Rat) (m:Rat),Sz m k→(∀a∈l,Sz a k)→Sz (minF m l) k
 | [],m,h,_=>h
 | a :: l,m,h,h2=>by
   show Sz (minF (if a < m then a else m) l) k;refine Zm6 l _ ?_ λb hb=>h2 b (ZAd _ hb);split
   ·exact h2 a Zzw
   ·exact h
theorem Zm8 {k:Nat}:∀(l:List Rat) (m:Rat),Sz m k→(∀a∈l,Sz a k)→Sz (maxF m l) k
 | [],m,h,_=>h
 | a :: l,m,h,h2=>by
   show Sz (maxF (if m < a then a else m) l) k;refine Zm8 l _ ?_ λb hb=>h2 b (ZAd _ hb);split
   ·exact h2 a Zzw
   ·exact h
theorem Zev {α:Type} {l:List α} {k:Nat} (h:k < l.length):l.take (k+1)=l.take k++[l[k]]:=by rw [ZB8,Zym h];rfl
theorem Zkp {α:Type} {l:List α} (f:α→AV) {k:Nat} (h:k < l.length):(l.map f).getD k .u=f l[k]:=by rw [Zyu,Zym (by simpa using h)];simp
abbrev Zc0 (a:Rat):List AV:=[.v (.bool (decide (a.num < 0))),lim (toL a.num.natAbs),lim (toL a.den)]
theorem minF_nil (m:Rat):minF m []=m:=rfl
theorem maxF_nil (m:Rat):maxF m []=m:=rfl
theorem dEnds (q0:Rat) (rest:List Rat) {j:Nat} (h0:Sz q0 j) (hr:∀a∈rest,Sz a j) (hj:j≤100000) (hl:rest.length≤1000):Pure prog 24 [.sl 3 ((q0 :: rest).map ratQ)] (.tup [ratQ (minF q0 rest),ratQ (maxF q0 rest)]):=by
 refine pI func24 rfl ntmps24 results24 call24 ?_;(focus (refine wkad w_t w_t (w_1 (w_d 1 [] [] [2,3])) ?_;(repeat' first|exact w_t|apply w_l);all_goals intros));have htk:List.take rest.length (rest.map ratQ)=rest.map ratQ:=ZAl (by rw [Zyn];omega);refine Zab (ι:=Nat) (λk e m=>k≤rest.length∧e 13=.sl 3 (rest.map ratQ)∧e 14=.v (.int .i64 rest.length)∧e 15=.v (.int .i64 (k:Int)) ∧
  ∃g2 g3,e 2=.pbox 2 g2 0∧e 3=.pbox 3 g3 0∧m 2=some (.box g2 28 (Zc0 (minF q0 (rest.take k))) false)∧m 3=some (.box g3 28 (Zc0 (maxF q0 (rest.take k))) false)) (λk=>rest.length - k) 0 zr ?_ ?_
 ·rintro k e m ⟨hk,e13,e14,e15,g2,g3,e2,e3,m2,m3⟩
  by_cases hlt:k < rest.length
  ·have hget:(rest.map ratQ).getD k .u=ratQ rest[k]:=Zkp ratQ hlt;have sm:=Zm6 (rest.take k) q0 h0 λa ha=>hr a (Zzy ha);have sM:=Zm8 (rest.take k) q0 h0 λa ha=>hr a (Zzy ha);have sa:=hr rest[k] (Zy6 hlt);have c1:=Zv4 rest[k] (minF q0 (rest.take k)) sa sm zo zo;have c2:=Zv4 rest[k] (maxF q0 (rest.take k)) sa sM zo zo;have n1:=@Zsq rest[k] (minF q0 (rest.take k));have n2:=@cmpQ_pos rest[k] (maxF q0 (rest.take k));have t1:minF q0 (rest.take (k+1))=if rest[k] < minF q0 (rest.take k) then rest[k] else minF q0 (rest.take k):=by rw [Zev hlt];exact Zw3 _ _ _
   have t2:maxF q0 (rest.take (k+1))=if maxF q0 (rest.take k) < rest[k] then rest[k] else maxF q0 (rest.take k):=by rw [Zev hlt];exact Zw4 _ _ _
   generalize cmpQ rest[k] (minF q0 (rest.take k))=s1 at *;generalize cmpQ rest[k] (maxF q0 (rest.take k))=s2 at *;generalize minF q0 (rest.take k)=p at *;generalize maxF q0 (rest.take k)=q at *;generalize rest[k]=a at *;simp only [Zc0] at m2 m3;by_cases ha:a < p
   ·have ha':=n1.2 ha;rw [Zyk ha] at t1;by_cases hb:q < a
    ·have hb':=n2.2 hb;rw [Zyk hb] at t2;(focus (refine wkad (w_8 e13 e14 e15 e2 e3 m2 m3 hget) (w_2 c1 c2) w_t ?_;(repeat' first|exact w_t|apply w_l);all_goals intros));exact⟨k+1,⟨zo,gW e13,gW e14,gS,g2,g3,gW e2,gW e3,by(simp (disch:=omega) only [go_sem,t1,Zc0]<;>repeat' first|rfl|refine⟨?_,?_⟩),by(simp (disch:=omega) only [go_sem,t2,Zc0]<;>repeat' first|rfl|refine⟨?_,?_⟩)⟩,zo⟩
    ·have hb':¬0 < s2:=λh5=>hb (n2.1 h5);rw [Zyj hb] at t2;(focus (refine wkad (w_8 e13 e14 e15 e2 e3 m2 m3 hget) (w_2 c1 c2) w_t ?_;(repeat' first|exact w_t|apply w_l);all_goals intros));exact⟨k+1,⟨zo,gW e13,gW e14,gS,g2,g3,gW e2,gW e3,by(simp (disch:=omega) only [go_sem,t1,Zc0]<;>repeat' first|rfl|refine⟨?_,?_⟩),by(simp (disch:=omega) only [go_sem,m3,t2,Zc0]<;>repeat' first|rfl|refine⟨?_,?_⟩)⟩,zo⟩
   ·have ha':¬s1 < 0:=λh5=>ha (n1.1 h5);rw [Zyj ha] at t1;by_cases hb:q < a
    ·have hb':=n2.2 hb;rw [Zyk hb] at t2;(focus (refine wkad (w_8 e13 e14 e15 e2 e3 m2 m3 hget) (w_2 c1 c2) w_t ?_;(repeat' first|exact w_t|apply w_l);all_goals intros));exact⟨k+1,⟨zo,gW e13,gW e14,gS,g2,g3,gW e2,gW e3,by(simp (disch:=omega) only [go_sem,m2,t1,Zc0]<;>repeat' first|rfl|refine⟨?_,?_⟩),by(simp (disch:=omega) only [go_sem,t2,Zc0]<;>repeat' first|rfl|refine⟨?_,?_⟩)⟩,zo⟩
    ·have hb':¬0 < s2:=λh5=>hb (n2.1 h5);rw [Zyj hb] at t2;(focus (refine wkad (w_8 e13 e14 e15 e2 e3 m2 m3 hget) (w_2 c1 c2) w_t ?_;(repeat' first|exact w_t|apply w_l);all_goals intros));exact⟨k+1,⟨zo,gW e13,gW e14,gS,g2,g3,gW e2,gW e3,by(simp (disch:=omega) only [go_sem,m2,t1,Zc0]<;>repeat' first|rfl|refine⟨?_,?_⟩),by(simp (disch:=omega) only [go_sem,m3,t2,Zc0]<;>repeat' first|rfl|refine⟨?_,?_⟩)⟩,zo⟩
  ·rw [ZAl zo] at m2 m3;simp only [Zc0] at m2 m3;(focus (refine wkad (w_7 e13 e14 e15 e2 e3 m2 m3) w_t w_t ?_;(repeat' first|exact w_t|apply w_l);all_goals intros));simp (disch:=omega) only [go_sem,e2,e3,m2,m3]
 ·exact⟨zo,by(simp (disch:=omega) only [go_sem,Zz2,Zyn,htk]<;>repeat' first|rfl|refine⟨?_,?_⟩),by(simp (disch:=omega) only [go_sem,Zz2,Zyn,Nat.min_self]<;>repeat' first|rfl|refine⟨?_,?_⟩),gC,_,_,gC,gC,by(simp (disch:=omega) only [go_sem,Zc0,ZBd,minF_nil]<;>repeat' first|rfl|refine⟨?_,?_⟩),by(simp (disch:=omega) only [go_sem,Zc0,ZBd,maxF_nil]<;>repeat' first|rfl|refine⟨?_,?_⟩)⟩
theorem byRat:Zea prog 28=some 56:=by kernel_rfl
theorem szP2:szOf prog 54=some 2:=by kernel_rfl
theorem byP2:Zea prog 54=some 16:=by kernel_rfl
theorem zP2:Zaq prog 54=some (.agg #[.int .i64 0,.int .i64 0]):=by kernel_rfl
theorem eqP2:eqTy prog 54=true:=by kernel_rfl
attribute [go_sem] byRat szP2 byP2 zP2
attribute [local go_sem] eqP2 List.not_mem_nil false_imp_iff
structure BxQ where
 a:Rat
 b:Rat
 c:Rat
 d:Rat
abbrev BxQ.av (x:BxQ):AV:=boxQ x.a x.b x.c x.d
def BxQ.cx (x:BxQ):Rat:=(x.a+x.b)*hlf
def BxQ.cy (x:BxQ):Rat:=(x.c+x.d)*hlf
def BxQ.sz (x:BxQ) (k:Nat):Prop:=Sz x.a k∧Sz x.b k∧Sz x.c k∧Sz x.d k
def pxR (f x0:Rat) (b:BxQ):Rat:=((20:Nat):Rat)+f*(b.cx - x0)
def pyR (f y0:Rat) (h:Nat) (b:BxQ):Rat:=((h - 20:Nat):Rat) - f*(b.cy - y0)
def rnd (q:Rat):Nat:=(q+hlf).floor.toNat
def Zp4 (q:Rat):Prop:=0≤(q+hlf).floor∧(q+hlf).floor < 65536
abbrev pixA (f x0 y0:Rat) (h:Nat) (b:BxQ):AV:=.agg [.v (.int .i64 (rnd (pxR f x0 b):Int)),.v (.int .i64 (rnd (pyR f y0 h b):Int))]
theorem Zq5 {b:BxQ} {K:Nat} (h:b.sz K):Sz b.cx (K+K+1+1):=(h.1.add h.2.1).mul Zkt
theorem Zq4 {b:BxQ} {K:Nat} (h:b.sz K):Sz b.cy (K+K+1+1):=(h.2.2.1.add h.2.2.2).mul Zkt
theorem rnd_eq {q:Rat} (h:Zp4 q):(q+hlf).floor=(rnd q:Int)∧rnd q < 65536:=by
 unfold rnd Zp4 at *;omega
theorem one_sz:Sz 1 1:=Zgl 1 zo
theorem fac_sz {w h J:Nat} {x y:Rat} (hw:w≤4000) (hh:h≤4000) (hx:Sz x J) (hy:Sz y J):Sz (fac w h x y) (1+J):=by
 have sw:=(Zgl (w - 40) zo).div hx;have sh:=(Zgl (h - 40) zo).div hy;unfold fac;split
 ·split
  ·exact one_sz.mono zo
  ·exact sh
 ·split
  ·exact sw
  ·split
   ·exact sh
   ·exact sw
theorem Zxw (w h:Int) (h1:100≤w) (h2:w≤4000) (h3:100≤h) (h4:h≤4000):Pure prog 10 [.sl 12 [],.v (.int .i64 w),.v (.int .i64 h)] (.tup [.v (.slice none 0 0),.v (.int .i64 0)]):=by
 refine pI func10 rfl ntmps10 results10 call10 ?_;(focus (refine wkad (w_1 @ZA7) w_t w_t ?_;(repeat' first|exact w_t|apply w_l);all_goals intros));simp (disch:=omega) only [go_sem]
theorem Zxx (b0:BxQ) (rest:List BxQ) (w h:Nat) {K:Nat} (hs:∀b∈b0 :: rest,b.sz K) (hl:rest.length≤100) (h1:100≤w) (h2:w≤4000) (h3:100≤h) (h4:h≤4000)
 {x0 x1 y0 y1 f:Rat} (ex0:minF b0.cx (rest.map BxQ.cx)=x0) (ex1:maxF b0.cx (rest.map BxQ.cx)=x1) (ey0:minF b0.cy (rest.map BxQ.cy)=y0) (ey1:maxF b0.cy (rest.map BxQ.cy)=y1)
 (ef:fac w h (x1 - x0) (y1 - y0)=f) (hok:∀b∈b0 :: rest,Zp4 (pxR f x0 b)∧Zp4 (pyR f y0 h b)) (hK:K≤1000) :
 Pure prog 10 [.sl 12 ((b0 :: rest).map BxQ.av),.v (.int .i64 (w:Int)),.v (.int .i64 (h:Int))] (.tup [.sl 2 ((b0 :: rest).map (pixA f x0 y0 h)),.v (.int .i64 0)]):=by
 have sx0:Sz x0 (K+K+1+1):=by rw [←ex0];exact Zm6 _ _ (Zq5 (hs b0 Zzw)) λa ha=>by obtain⟨b,hb,rfl⟩:=List.mem_map.1 ha;exact Zq5 (hs b (ZAd _ hb))
 have sx1:Sz x1 (K+K+1+1):=by rw [←ex1];exact Zm8 _ _ (Zq5 (hs b0 Zzw)) λa ha=>by obtain⟨b,hb,rfl⟩:=List.mem_map.1 ha;exact Zq5 (hs b (ZAd _ hb))
 have sy0:Sz y0 (K+K+1+1):=by rw [←ey0];exact Zm6 _ _ (Zq4 (hs b0 Zzw)) λa ha=>by obtain⟨b,hb,rfl⟩:=List.mem_map.1 ha;exact Zq4 (hs b (ZAd _ hb))
 have sy1:Sz y1 (K+K+1+1):=by rw [←ey1];exact Zm8 _ _ (Zq4 (hs b0 Zzw)) λa ha=>by obtain⟨b,hb,rfl⟩:=List.mem_map.1 ha;exact Zq4 (hs b (ZAd _ hb))
 have sf:Sz f (1+(K+K+1+1+(K+K+1+1)+1)):=by rw [←ef];exact fac_sz h2 h4 (sx1.sub sx0) (sy1.sub sy0)
 have cE1:=dEnds b0.cx (rest.map BxQ.cx) (Zq5 (hs b0 Zzw)) (λa ha=>by obtain⟨b,hb,rfl⟩:=List.mem_map.1 ha;exact Zq5 (hs b (ZAd _ hb))) zo (by rw [Zyn];omega);have cE2:=dEnds b0.cy (rest.map BxQ.cy) (Zq4 (hs b0 Zzw)) (λa ha=>by obtain⟨b,hb,rfl⟩:=List.mem_map.1 ha;exact Zq4 (hs b (ZAd _ hb))) zo (by rw [Zyn];omega);rw [ex0,ex1] at cE1;rw [ey0,ey1] at cE2;have hxs:b0.cx :: rest.map BxQ.cx=(b0 :: rest).map BxQ.cx:=rfl;have hys:b0.cy :: rest.map BxQ.cy=(b0 :: rest).map BxQ.cy:=rfl;rw [hxs,List.map_map] at cE1
 rw [hys,List.map_map] at cE2;have cS1:=Zoa x1 x0 sx1 sx0 zo zo;have cS2:=Zoa y1 y0 sy1 sy0 zo zo;have cF:=dFactor (x1 - x0) (y1 - y0) w h (sx1.sub sx0) (sy1.sub sy0) zo h2 h4 h1 h3;rw [ef] at cF;have cH:Pure prog 27 [.v (.int .i64 1),.v (.int .i64 2)] (ratQ hlf):=Zv2 1 2 zo zo zo;have c20:Pure prog 29 [.v (.int .i64 20)] (ratQ ((20:Nat):Rat)):=Zvz 20 zo;have ch20:=Zvz (h - 20) zo;have eh:(h:Int) - 20=((h - 20:Nat):Int):=zo;have s20:=Zgl 20 zo;have sh20:=Zgl (h - 20) zo;have hlen:(b0 :: rest).length=rest.length+1:=rfl;have hn0:(b0 :: rest).length≤101:=zo;have hn1:0 < (b0 :: rest).length:=zo
 generalize hd1:x1 - x0=dx at *;generalize hd2:y1 - y0=dy at *;generalize b0 :: rest=bs at *;clear ex0 ex1 ey0 ey1 ef hxs hys hlen hl;refine pI func10 rfl ntmps10 results10 call10 ?_;(focus (refine wkad w_t w_t w_t ?_;(repeat' first|exact w_t|apply w_l);all_goals intros));refine Zc4 (Frz.nilOwn (d:=8) 50 3 28 (gC)) ?_;refine Zc4 (Frz.nilOwn (d:=9) 56 3 28 (gC)) ?_;refine Zab (ι:=Nat) (λk e m=>k≤bs.length∧e 0=.sl 12 (bs.map BxQ.av)∧e 1=.v (.int .i64 (w:Int))∧e 2=.v (.int .i64 (h:Int))∧e 39=.sl 12 (bs.map BxQ.av)∧e 40=.v (.int .i64 bs.length)∧e 41=.v (.int .i64 (k:Int)) ∧
  ∃sv8 sv9,e 8=.own 50 sv8∧m 50=some (.row sv8 28 3 ((bs.take k).map (ratQ ∘ BxQ.cx)) 0)∧e 9=.own 56 sv9∧m 56=some (.row sv9 28 3 ((bs.take k).map (ratQ ∘ BxQ.cy)) 0)) (λk=>bs.length - k) 0 zr ?_ ?_
 ·rintro k e m ⟨hk,e0,e1,e2,e39,e40,e41,sv8,sv9,e8,m50,e9,m56⟩
  by_cases hlt:k < bs.length
  ·have hget:(bs.map BxQ.av).getD k .u=boxQ bs[k].a bs[k].b bs[k].c bs[k].d:=Zkp BxQ.av hlt;have hb:=hs bs[k] (Zy6 hlt);have c1:Pure prog 23 [Zqf bs[k].a bs[k].b] (ratQ bs[k].cx):=Zxy _ _ hb.1 hb.2.1 zo zo;have c2:Pure prog 23 [Zqf bs[k].c bs[k].d] (ratQ bs[k].cy):=Zxy _ _ hb.2.2.1 hb.2.2.2 zo zo;have t1:(bs.take (k+1)).map (ratQ ∘ BxQ.cx)=(bs.take k).map (ratQ ∘ BxQ.cx)++[ratQ bs[k].cx]:=by rw [Zev hlt,Zzh];rfl
   have t2:(bs.take (k+1)).map (ratQ ∘ BxQ.cy)=(bs.take k).map (ratQ ∘ BxQ.cy)++[ratQ bs[k].cy]:=by rw [Zev hlt,Zzh];rfl
   clear hb;generalize bs[k].cx=q1 at *;generalize bs[k].cy=q2 at *;generalize bs[k].a=va at *;generalize bs[k].b=vb at *;generalize bs[k].c=vc at *;generalize bs[k].d=vd at *;(focus (refine wkax (w_5 e39 e40 e41 hget @Zbm) w_t w_t w_t w_t w_t w_t (w_r 0) ?_;(repeat' first|exact w_t|apply w_l);all_goals intros));apply Zas (Zbr [(3,ratQ q1),(4,.sl 3 [ratQ q1]),(9,ratQ q2),(10,.sl 3 [ratQ q2])]) [5,1005,11,1011] [50,56] zk zr zk;(focus (simp only [Zyx,Zy0,Nat.reduceAdd];rfl));(focus (refine wkax (w_5 e8 e9 e41 m50 m56) (w_2 c1 c2) w_t w_t w_t w_t w_t (w_r 0) ?_;(repeat' first|exact w_t|apply w_l);all_goals intros))
   exact⟨k+1,⟨zo,gW e0,gW e1,gW e2,gW e39,gW e40,gS,_,_,gC,gW t1,gC,gW t2⟩,zo⟩
  ·rw [ZAl zo] at m50 m56;(focus (refine wkax (w_7 e39 e40 e41 e8 e9 m50 m56) w_t w_t w_t (w_2 cE1 cE2) w_t w_t (w_r 0) ?_;(repeat' first|exact w_t|apply w_l);all_goals intros));apply Zas (Zbr [(2,ratQ dx),(5,ratQ dy),(8,ratQ f)]) [] [16] zk zr zk;(focus (simp only [Zyx,Zy0,Nat.reduceAdd];rfl));(focus (refine wkax (w_4 e0 e1 e2 @Zbm) (w_4 cS1 cS2 cF cH) w_t w_t w_t w_t w_t (w_r 0) ?_;(repeat' first|exact w_t|apply w_l);all_goals intros));refine Zc4 (Frz.own (d:=8) (k:=50) (sv:=sv8) (mm:=3) (ty:=28) (es:=bs.map (ratQ ∘ BxQ.cx)) (pub:=(bs.map (ratQ ∘ BxQ.cx)).length) (gW e8) (gW m50)) ?_
   refine Zc4 (Frz.own (d:=9) (k:=56) (sv:=sv9) (mm:=3) (ty:=28) (es:=bs.map (ratQ ∘ BxQ.cy)) (pub:=(bs.map (ratQ ∘ BxQ.cy)).length) (gW e9) (gW m56)) ?_;refine Zc4 (Frz.nilOwn (d:=18) 116 2 54 (gC)) ?_;clear hk hlt e0 e1 e39 e40 e41 e8 e9 m50 m56;refine Zab (ι:=Nat) (λk e m=>k≤bs.length∧e 2=.v (.int .i64 (h:Int))∧e 8=.sl 3 (bs.map (ratQ ∘ BxQ.cx))∧e 9=.sl 3 (bs.map (ratQ ∘ BxQ.cy))∧e 79=.v (.int .i64 bs.length)∧e 80=.v (.int .i64 (k:Int)) ∧
    ∃g12 g14 g16 g17 sv,e 12=.pbox 12 g12 0∧m 12=some (.box g12 28 (Zc0 x0) false)∧e 14=.pbox 14 g14 0∧m 14=some (.box g14 28 (Zc0 y0) false)∧e 16=.pbox 16 g16 0∧m 16=some (.box g16 28 (Zc0 f) false)∧e 17=.pbox 17 g17 0∧m 17=some (.box g17 28 (Zc0 hlf) false) ∧
     e 18=.own 116 sv∧m 116=some (.row sv 54 2 ((bs.take k).map (pixA f x0 y0 h)) 0)) (λk=>bs.length - k) 0 zr ?_ ?_
   ·clear e2
    rintro k e m ⟨hk,e2,e8,e9,e79,e80,g12,g14,g16,g17,sv,e12,m12,e14,m14,e16,m16,e17,m17,e18,m116⟩
    by_cases hlt:k < bs.length
    ·have hb:=hs bs[k] (Zy6 hlt);have hr:=hok bs[k] (Zy6 hlt);have sx:=Zq5 hb;have sy:=Zq4 hb;have hgx:(bs.map (ratQ ∘ BxQ.cx)).getD k .u=ratQ bs[k].cx:=Zkp (ratQ ∘ BxQ.cx) hlt;have hgy:(bs.map (ratQ ∘ BxQ.cy)).getD k .u=ratQ bs[k].cy:=Zkp (ratQ ∘ BxQ.cy) hlt;have tk:(bs.take (k+1)).map (pixA f x0 y0 h)=(bs.take k).map (pixA f x0 y0 h)++[pixA f x0 y0 h bs[k]]:=by rw [Zev hlt,Zzh];rfl
     have cD1:=Zoa bs[k].cx x0 sx sx0 zo zo;have cM1:=Zv0 f (bs[k].cx - x0) sf (sx.sub sx0) zo zo;have sX:=s20.add (sf.mul (sx.sub sx0));have cA1:Pure prog 28 [ratQ ((20:Nat):Rat),ratQ (f*(bs[k].cx - x0))] (ratQ (pxR f x0 bs[k])):=Zrv ((20:Nat):Rat) (f*(bs[k].cx - x0)) s20 (sf.mul (sx.sub sx0)) zo zo;have sX:Sz (pxR f x0 bs[k]) _:=sX;have cA2:=Zrv (pxR f x0 bs[k]) hlf sX Zkt zo zo;have rX:=rnd_eq hr.1;have cW1:=dWhole (pxR f x0 bs[k]+hlf) (sX.add Zkt) zo (rnd (pxR f x0 bs[k])) rX.2 rX.1;have cD2:=Zoa bs[k].cy y0 sy sy0 zo zo;have cM2:=Zv0 f (bs[k].cy - y0) sf (sy.sub sy0) zo zo
     have sY:=sh20.sub (sf.mul (sy.sub sy0));have cA3:Pure prog 26 [ratQ ((h - 20:Nat):Rat),ratQ (f*(bs[k].cy - y0))] (ratQ (pyR f y0 h bs[k])):=Zoa ((h - 20:Nat):Rat) (f*(bs[k].cy - y0)) sh20 (sf.mul (sy.sub sy0)) zo zo;have sY:Sz (pyR f y0 h bs[k]) _:=sY;have cA4:=Zrv (pyR f y0 h bs[k]) hlf sY Zkt zo zo;have rY:=rnd_eq hr.2;have cW2:=dWhole (pyR f y0 h bs[k]+hlf) (sY.add Zkt) zo (rnd (pyR f y0 h bs[k])) rY.2 rY.1;clear hb hr sx sy sX sY rX rY;simp only [pixA] at tk;generalize rnd (pxR f x0 bs[k])=px at *;generalize rnd (pyR f y0 h bs[k])=py at *;generalize pxR f x0 bs[k]+hlf=Xh at *
     generalize pyR f y0 h bs[k]+hlf=Yh at *;generalize pxR f x0 bs[k]=X at *;generalize pyR f y0 h bs[k]=Y at *;generalize f*(bs[k].cx - x0)=m1 at *;generalize f*(bs[k].cy - y0)=mm2 at *;generalize bs[k].cx - x0=r1 at *;generalize bs[k].cy - y0=r2 at *;generalize bs[k].cx=q1 at *;generalize bs[k].cy=q2 at *;generalize ((20:Nat):Rat)=z20 at *;generalize ((h - 20:Nat):Rat)=zh at *;simp only [Zc0] at m12 m14 m16 m17;(focus (refine wkax (w_2 e79 e80) w_t w_t w_t w_t w_t w_t (w_r 0) ?_;(repeat' first|exact w_t|apply w_l);all_goals intros));apply Zas (Zbr [(0,ratQ z20),(7,ratQ r1),(8,ratQ m1),(9,ratQ X)]) [] [20] zk zr zk;(focus (simp only [Zyx,Zy0,Nat.reduceAdd];rfl))
     (focus (refine wkax (w_8 e80 e8 e12 m12 e16 m16 hgx @Zbm) (w_4 c20 cD1 cM1 cA1) w_t w_t w_t w_t w_t (w_r 0) ?_;(repeat' first|exact w_t|apply w_l);all_goals intros));apply Zas (Zbr [(2,ratQ zh),(9,ratQ r2),(10,ratQ mm2),(11,ratQ Y)]) [] [21] zk zr zk;(focus (simp only [Zyx,Zy0,Nat.reduceAdd];rfl));(focus (refine wkax (w_10 e80 eh e2 e9 e14 m14 e16 m16 hgy @Zbm) (w_4 ch20 cD2 cM2 cA3) w_t w_t w_t w_t w_t (w_r 0) ?_;(repeat' first|exact w_t|apply w_l);all_goals intros));apply Zas (Zbr [(3,ratQ Xh),(4,.v (.int .i64 (px:Int))),(7,ratQ Yh),(8,.v (.int .i64 (py:Int))),(10,.sl 2 [.agg [.v (.int .i64 (px:Int)),.v (.int .i64 (py:Int))]])]) [11] [116] zk zr zk;(focus (simp only [Zyx,Zy0,Nat.reduceAdd];rfl))
     (focus (refine wkax (w_5 e80 e17 m17 e18 m116) (w_4 cA2 cW1 cA4 cW2) w_t w_t w_t w_t w_t (w_r 0) ?_;(repeat' first|exact w_t|apply w_l);all_goals intros));exact⟨k+1,⟨zo,gW e2,gW e8,gW e9,gW e79,gS,g12,g14,g16,g17,_,gW e12,gW m12,gW e14,gW m14,gW e16,gW m16,gW e17,gW m17,gC,gW tk⟩,zo⟩
    ·rw [ZAl zo] at m116;(focus (refine wkax (w_4 e79 e80 e18 m116) w_t w_t w_t w_t w_t w_t (w_r 0) ?_;(repeat' first|exact w_t|apply w_l);all_goals intros));simp (disch:=omega) only [go_sem,e18,m116]
   ·exact⟨zo,gW e2,gC,gC,by(simp (disch:=omega) only [go_sem,Zyn]<;>repeat' first|rfl|refine⟨?_,?_⟩),gC,_,_,_,_,_,gC,by(simp (disch:=omega) only [go_sem,Zc0]<;>repeat' first|rfl|refine⟨?_,?_⟩),gC,by(simp (disch:=omega) only [go_sem,Zc0]<;>repeat' first|rfl|refine⟨?_,?_⟩),gC,by(simp (disch:=omega) only [go_sem,Zc0]<;>repeat' first|rfl|refine⟨?_,?_⟩),gC,by(simp (disch:=omega) only [go_sem,Zc0]<;>repeat' first|rfl|refine⟨?_,?_⟩),gC,gC⟩
 ·exact⟨zo,gC,gC,gC,gC,by(simp (disch:=omega) only [go_sem,Zyn]<;>repeat' first|rfl|refine⟨?_,?_⟩),gC,_,_,gC,gC,gC,gC⟩
abbrev cells2 (a b:Rat):List AV:=[.v (.bool (decide (a.num < 0))),lim (toL a.num.natAbs),lim (toL a.den),.v (.bool (decide (b.num < 0))),lim (toL b.num.natAbs),lim (toL b.den)]
structure RBox where
 a:RQ
 b:RQ
 c:RQ
 d:RQ
abbrev RBox.av (x:RBox):AV:=.agg [.v (.bool x.a.s),lim x.a.l,lim x.a.d,.v (.bool x.b.s),lim x.b.l,lim x.b.d,.v (.bool x.c.s),lim x.c.l,lim x.c.d,.v (.bool x.d.s),lim x.d.l,lim x.d.d]
def RBox.lm (x:RBox) (k:Nat):Prop:=x.a.lm k∧x.b.lm k∧x.c.lm k∧x.d.lm k
def iok (lo hi:RQ):Bool:=lo.ok && hi.ok && decide (cmpQ lo.q hi.q≤0)
def RQ.sh (r:RQ):Bool:=r.ok && decide (r.l.length≤4) && decide (r.d.length≤4)
def RBox.iok (x:RBox):Bool:=Go.Proofs.YtjbjejmmnbdbiaaGreat.iok x.a x.b && Go.Proofs.YtjbjejmmnbdbiaaGreat.iok x.c x.d
def RBox.sh (x:RBox):Bool:=x.a.sh && x.b.sh && x.c.sh && x.d.sh
theorem Zyd {α:Type} {l:List α} {p:α→Bool} {k:Nat} (h:k < l.length) (hp:p l[k]=false):l.all p=false:=by
 rw [List.all_eq_false];exact⟨l[k],Zy6 h,by rw [hp];simp⟩
theorem Zsy {α:Type} {l:List α} {p:α→Bool} {k:Nat} (h:k < l.length) (h1:(l.take k).all p=true) (hp:p l[k]=true):(l.take (k+1)).all p=true:=by
 rw [Zev h,List.all_append,h1];simp [hp]
theorem vRight (lo hi:RQ) (h1:lo.lm 1100000) (h2:hi.lm 1100000):Pure prog 39 [.agg [.v (.bool lo.s),lim lo.l,lim lo.d,.v (.bool hi.s),lim hi.l,lim hi.d]] (.v (.bool (iok lo hi))):=by
 have c1:=Zob lo.s lo.l lo.d h1.1 h1.2.1 (by have:=h1.2.2.1;omega) (by have:=h1.2.2.2;omega);have c2:=Zob hi.s hi.l hi.d h2.1 h2.2.1 (by have:=h2.2.2.1;omega) (by have:=h2.2.2.2;omega)
 have cc:lo.ok=true→hi.ok=true→Pure prog 81 [lo.av,hi.av] (.v (.int .i64 (cmpQ lo.q hi.q))):=by
  intro k1 k2;obtain⟨e1,s1⟩:=RQ.ok_av (k:=1100000) h1 k1;obtain⟨e2,s2⟩:=RQ.ok_av (k:=1100000) h2 k2;rw [e1,e2];exact qCmp _ _ s1 s2 zo zo
 unfold iok;have e1:RQ.ok ⟨lo.s,lo.l,lo.d⟩=lo.ok:=rfl;have e2:RQ.ok ⟨hi.s,hi.l,hi.d⟩=hi.ok:=rfl;rw [e1] at c1;rw [e2] at c2;generalize lo.ok=v1 at *;generalize hi.ok=v2 at *;cases v1
 ·refine pI func39 rfl ntmps39 results39 call39 ?_;(focus (refine wkad (w_1 @Zzc) (w_1 c1) w_t ?_;(repeat' first|exact w_t|apply w_l);all_goals intros));simp (disch:=omega) only [go_sem,Zzc]
 ·cases v2
  ·refine pI func39 rfl ntmps39 results39 call39 ?_;(focus (refine wkad (w_1 @Zzc) (w_2 c1 c2) w_t ?_;(repeat' first|exact w_t|apply w_l);all_goals intros));simp (disch:=omega) only [go_sem,Zzc]
  ·have cc:=cc rfl rfl;generalize cmpQ lo.q hi.q=s at *;by_cases hs:s≤0
   ·rw [Zyo hs];refine pI func39 rfl ntmps39 results39 call39 ?_;(focus (refine wkad w_t (w_3 c1 c2 cc) w_t ?_;(repeat' first|exact w_t|apply w_l);all_goals intros));simp (disch:=omega) only [go_sem]
   ·rw [Zyl hs];refine pI func39 rfl ntmps39 results39 call39 ?_;(focus (refine wkad (w_1 @ZA9) (w_3 c1 c2 cc) w_t ?_;(repeat' first|exact w_t|apply w_l);all_goals intros));simp (disch:=omega) only [go_sem,ZA9]
theorem Zks (r:RQ) (h:r.lm 1100000):Pure prog 6 [r.av] (.v (.bool r.sh)):=by
 have c1:=Zob r.s r.l r.d h.1 h.2.1 (by have:=h.2.2.1;omega) (by have:=h.2.2.2;omega);have e1:RQ.ok ⟨r.s,r.l,r.d⟩=r.ok:=rfl;rw [e1] at c1;unfold RQ.sh;have l1:=h.2.2.1;have l2:=h.2.2.2;generalize r.ok=v1 at *;cases v1
 ·refine pI func6 rfl ntmps6 results6 call6 ?_;(focus (refine wkad (w_1 @Zzc) (w_1 c1) w_t ?_;(repeat' first|exact w_t|apply w_l);all_goals intros));simp (disch:=omega) only [go_sem,Zzc]
 ·by_cases h1:r.l.length≤4
  ·rw [Zyo h1];by_cases h2:r.d.length≤4
   ·rw [Zyo h2];refine pI func6 rfl ntmps6 results6 call6 ?_;(focus (refine wkad w_t (w_1 c1) w_t ?_;(repeat' first|exact w_t|apply w_l);all_goals intros));simp (disch:=omega) only [go_sem]
   ·rw [Zyl h2];refine pI func6 rfl ntmps6 results6 call6 ?_;(focus (refine wkad w_t (w_1 c1) w_t ?_;(repeat' first|exact w_t|apply w_l);all_goals intros));simp (disch:=omega) only [go_sem,ZA9]
  ·rw [Zyl h1];refine pI func6 rfl ntmps6 results6 call6 ?_;(focus (refine wkad w_t (w_1 c1) w_t ?_;(repeat' first|exact w_t|apply w_l);all_goals intros));simp (disch:=omega) only [go_sem,ZA9,Zzc]
theorem bRight (l:List RBox) (h:∀b∈l,b.lm 1100000) (hl:l.length≤1000000000):Pure prog 15 [.sl 12 (l.map RBox.av)] (.v (.bool (l.all RBox.iok))):=by
 refine pI func15 rfl ntmps15 results15 call15 ?_;(focus (refine wkad (w_1 @Zbm) w_t w_t ?_;(repeat' first|exact w_t|apply w_l);all_goals intros));refine Zab (ι:=Nat) (λk e m=>k≤l.length∧e 5=.sl 12 (l.map RBox.av)∧e 6=.v (.int .i64 l.length)∧e 7=.v (.int .i64 (k:Int))∧(l.take k).all RBox.iok=true) (λk=>l.length - k) 0 zr ?_ ?_
 ·rintro k e m ⟨hk,e5,e6,e7,hall⟩
  by_cases hlt:k < l.length
  ·have hget:(l.map RBox.av).getD k .u=RBox.av l[k]:=Zkp RBox.av hlt;have hb:=h l[k] (Zy6 hlt);have c1:=vRight l[k].a l[k].b hb.1 hb.2.1;have c2:=vRight l[k].c l[k].d hb.2.2.1 hb.2.2.2;have hf:=@Zyd _ l RBox.iok k hlt;have ht:=@Zsy _ l RBox.iok k hlt hall;unfold RBox.iok at hf ht;generalize iok l[k].a l[k].b=v1 at *;generalize iok l[k].c l[k].d=v2 at *;cases v1
   ·have hf:=hf rfl;have hf:l.all RBox.iok=false:=hf;(focus (refine wkad (w_5 e5 e6 e7 hget @Zbm) (w_1 c1) w_t ?_;(repeat' first|exact w_t|apply w_l);all_goals intros));simp (disch:=omega) only [go_sem,hf]
   ·cases v2
    ·have hf:=hf rfl;have hf:l.all RBox.iok=false:=hf;(focus (refine wkad (w_5 e5 e6 e7 hget @Zbm) (w_2 c1 c2) w_t ?_;(repeat' first|exact w_t|apply w_l);all_goals intros));simp (disch:=omega) only [go_sem,hf]
    ·have ht:=ht rfl;(focus (refine wkad (w_5 e5 e6 e7 hget @Zbm) (w_2 c1 c2) w_t ?_;(repeat' first|exact w_t|apply w_l);all_goals intros));exact⟨k+1,⟨zo,gW e5,gW e6,gS,ht⟩,zo⟩
  ·rw [ZAl zo] at hall;(focus (refine wkad (w_4 e5 e6 e7 @Zbm) w_t w_t ?_;(repeat' first|exact w_t|apply w_l);all_goals intros));simp (disch:=omega) only [go_sem,hall]
 ·exact⟨zo,gC,gC,gC,by simp⟩
def okB (l:List RBox):Bool:=l.all RBox.sh && decide (l.length≤12) && l.all RBox.iok
theorem lBoxes (l:List RBox) (h:∀b∈l,b.lm 1100000) (hl:l.length≤1000000000):Pure prog 5 [.sl 12 (l.map RBox.av)] (.v (.bool (okB l))):=by
 have cR:=bRight l h hl;unfold okB;refine pI func5 rfl ntmps5 results5 call5 ?_;(focus (refine wkad (w_1 @Zbm) w_t w_t ?_;(repeat' first|exact w_t|apply w_l);all_goals intros));refine Zab (ι:=Nat) (λk e m=>k≤l.length∧e 0=.sl 12 (l.map RBox.av)∧e 5=.sl 12 (l.map RBox.av)∧e 6=.v (.int .i64 l.length)∧e 7=.v (.int .i64 (k:Int))∧(l.take k).all RBox.sh=true) (λk=>l.length - k) 0 zr ?_ ?_
 ·rintro k e m ⟨hk,e0,e5,e6,e7,hall⟩
  by_cases hlt:k < l.length
  ·have hget:(l.map RBox.av).getD k .u=RBox.av l[k]:=Zkp RBox.av hlt;have hb:=h l[k] (Zy6 hlt);have c1:=Zks l[k].a hb.1;have c2:=Zks l[k].b hb.2.1;have c3:=Zks l[k].c hb.2.2.1;have c4:=Zks l[k].d hb.2.2.2;have hf:=@Zyd _ l RBox.sh k hlt;have ht:=@Zsy _ l RBox.sh k hlt hall;unfold RBox.sh at hf ht;generalize l[k].a.sh=v1 at *;generalize l[k].b.sh=v2 at *;generalize l[k].c.sh=v3 at *;generalize l[k].d.sh=v4 at *;cases v1
   ·have hf:l.all RBox.sh=false:=hf rfl;(focus (refine wkad (w_5 e5 e6 e7 hget @Zbm) (w_1 c1) w_t ?_;(repeat' first|exact w_t|apply w_l);all_goals intros));simp (disch:=omega) only [go_sem,hf,Zzc]
   ·cases v2
    ·have hf:l.all RBox.sh=false:=hf rfl;(focus (refine wkad (w_5 e5 e6 e7 hget @Zbm) (w_2 c1 c2) w_t ?_;(repeat' first|exact w_t|apply w_l);all_goals intros));simp (disch:=omega) only [go_sem,hf,Zzc]
    ·cases v3
     ·have hf:l.all RBox.sh=false:=hf rfl;(focus (refine wkad (w_5 e5 e6 e7 hget @Zbm) (w_3 c1 c2 c3) w_t ?_;(repeat' first|exact w_t|apply w_l);all_goals intros));simp (disch:=omega) only [go_sem,hf,Zzc]
     ·cases v4
      ·have hf:l.all RBox.sh=false:=hf rfl;(focus (refine wkad (w_5 e5 e6 e7 hget @Zbm) (w_4 c1 c2 c3 c4) w_t ?_;(repeat' first|exact w_t|apply w_l);all_goals intros));simp (disch:=omega) only [go_sem,hf,Zzc]
      ·have ht:=ht rfl;(focus (refine wkad (w_5 e5 e6 e7 hget @Zbm) (w_4 c1 c2 c3 c4) w_t ?_;(repeat' first|exact w_t|apply w_l);all_goals intros));exact⟨k+1,⟨zo,gW e0,gW e5,gW e6,gS,ht⟩,zo⟩
  ·rw [ZAl zo] at hall;by_cases h12:l.length≤12
   ·rw [Zyo h12];(focus (refine wkad (w_5 e0 e5 e6 e7 @Zbm) (w_1 cR) w_t ?_;(repeat' first|exact w_t|apply w_l);all_goals intros));simp (disch:=omega) only [go_sem,hall]
   ·rw [Zyl h12];(focus (refine wkad (w_5 e0 e5 e6 e7 @Zbm) (w_1 cR) w_t ?_;(repeat' first|exact w_t|apply w_l);all_goals intros));simp (disch:=omega) only [go_sem,hall,ZA9,Zzc]
 ·exact⟨zo,gC,gC,by(simp (disch:=omega) only [go_sem,Zyn]<;>repeat' first|rfl|refine⟨?_,?_⟩),gC,by simp⟩
theorem Zko:∀(l:List Rat) (m:Rat),minF m l≤m∧∀a∈l,minF m l≤a
 | [],m=>⟨Rat.le_refl,by simp⟩
 | a :: l,m=>by
   have e:minF m (a :: l)=minF (if a < m then a else m) l:=rfl;obtain⟨h1,h2⟩:=Zko l (if a < m then a else m);rw [e];have h3:(if a < m then a else m)≤m:=by split<;>grind
   have h4:(if a < m then a else m)≤a:=by split<;>grind
   refine⟨Rat.le_trans h1 h3,λb hb=>?_⟩;rcases List.mem_cons.1 hb with rfl | hb
   ·exact Rat.le_trans h1 h4
   ·exact h2 b hb
theorem Zkr:∀(l:List Rat) (m:Rat),m≤maxF m l∧∀a∈l,a≤maxF m l
 | [],m=>⟨Rat.le_refl,by simp⟩
 | a :: l,m=>by
   have e:maxF m (a :: l)=maxF (if m < a then a else m) l:=rfl;obtain⟨h1,h2⟩:=Zkr l (if m < a then a else m);rw [e];have h3:m≤(if m < a then a else m):=by split<;>grind
   have h4:a≤(if m < a then a else m):=by split<;>grind
   refine⟨Rat.le_trans h3 h1,λb hb=>?_⟩;rcases List.mem_cons.1 hb with rfl | hb
   ·exact Rat.le_trans h4 h1
   ·exact h2 b hb
theorem Zsn {a b:Rat} (ha:0≤a) (hb:0 < b):0≤a/b:=by
 rw [Rat.div_def];exact Rat.mul_nonneg ha (Rat.le_of_lt (Rat.inv_pos.2 hb))
theorem Zje {a b:Rat} (hb:b≠0):a/b*b=a:=Rat.div_mul_cancel hb
theorem fac_ok {w h:Nat} {x y:Rat} (hx:0≤x) (hy:0≤y):0≤fac w h x y∧fac w h x y*x≤((w - 40:Nat):Rat)∧fac w h x y*y≤((h - 40:Nat):Rat):=by
 have nw:(0:Rat)≤((w - 40:Nat):Rat):=Rat.natCast_nonneg;have nh:(0:Rat)≤((h - 40:Nat):Rat):=Rat.natCast_nonneg;generalize hw':((w - 40:Nat):Rat)=W at *;generalize hh':((h - 40:Nat):Rat)=H at *;unfold fac;rw [hw',hh'];by_cases h0:x=0
 ·rw [Zyk h0];by_cases h1:y=0
  ·rw [Zyk h1,h0,h1,ZC6];exact⟨by decide,nw,nh⟩
  ·rw [Zyj h1,h0,ZC6,Zje h1];exact⟨Zsn nh (by grind),nw,Rat.le_refl⟩
 ·rw [Zyj h0];have hxp:0 < x:=by grind
  by_cases h1:y=0
  ·rw [Zyk h1,h1,ZC6,Zje h0];exact⟨Zsn nw hxp,Rat.le_refl,nh⟩
  ·have hyp:0 < y:=by grind
   rw [Zyj h1];by_cases hlt:H/y < W/x
   ·rw [Zyk hlt,Zje h1];refine⟨Zsn nh hyp,?_,Rat.le_refl⟩;have:=Rat.mul_le_mul_of_nonneg_right (Rat.le_of_lt hlt) hx
    rwa [Zje h0] at this
   ·rw [Zyj hlt,Zje h0];refine⟨Zsn nw hxp,Rat.le_refl,?_⟩;have:=Rat.mul_le_mul_of_nonneg_right (Rat.not_lt.1 hlt) hy
    rwa [Zje h1] at this
theorem Zsj:hlf=1/2:=by
 have:=Rat.mkRat_eq_div 1 2;exact this
theorem Zsl {q:Rat} {a b:Nat} (h1:((a:Nat):Rat)≤q) (h2:q≤((b:Nat):Rat)):(a:Int)≤(q+hlf).floor∧(q+hlf).floor≤(b:Int):=by
 constructor
 ·refine Rat.le_floor_iff.2 ?_;have:(((a:Nat):Int):Rat)=((a:Nat):Rat):=rfl;rw [this,Zsj]
  grind
 ·have h3:(q+hlf).floor < (b:Int)+1:=by
   refine Rat.floor_lt_iff.2 ?_;have:(((b:Nat):Int):Rat)=((b:Nat):Rat):=rfl;rw [Rat.intCast_add,this,Zsj];have:((1:Int):Rat)=1:=rfl;rw [this]
   grind
  omega
theorem Zn2 {f c c0 c1:Rat} {w:Nat} (hf:0≤f) (hw:f*(c1 - c0)≤((w - 40:Nat):Rat)) (hw0:40≤w) (h1:c0≤c) (h2:c≤c1) :
 ((0:Nat):Rat)≤f*(c - c0)∧f*(c - c0)≤((w - 40:Nat):Rat):=by
 have a1:0≤c - c0:=by grind
 have a2:c - c0≤c1 - c0:=by grind
 exact⟨Rat.mul_nonneg hf a1,Rat.le_trans (Rat.mul_le_mul_of_nonneg_left a2 hf) hw⟩
theorem Zf6 {a b:Nat} (h:b≤a):((a - b:Nat):Rat)=(a:Rat) - (b:Rat):=by
 have:(a:Rat)=((a - b+b:Nat):Rat):=by rw [ZCs h]
 rw [this,Rat.natCast_add]
 grind
theorem px_in {f x0 x1:Rat} {w:Nat} {b:BxQ} (hf:0≤f) (hw:f*(x1 - x0)≤((w - 40:Nat):Rat)) (hw0:40≤w) (h1:x0≤b.cx) (h2:b.cx≤x1):(20:Int)≤(pxR f x0 b+hlf).floor∧(pxR f x0 b+hlf).floor≤((w - 20:Nat):Int):=by
 have h:=Zn2 hf hw hw0 h1 h2;have e1:=Zf6 (a:=w) (b:=40) zo;have e2:=Zf6 (a:=w) (b:=20) zo;refine Zsl (a:=20) ?_ ?_
 ·unfold pxR;generalize f*(b.cx - x0)=z at *;have:=h.1
  grind
 ·unfold pxR;rw [e2];rw [e1] at h;generalize f*(b.cx - x0)=z at *;have:=h.2
  grind
theorem py_in {f y0 y1:Rat} {h:Nat} {b:BxQ} (hf:0≤f) (hw:f*(y1 - y0)≤((h - 40:Nat):Rat)) (hw0:40≤h) (h1:y0≤b.cy) (h2:b.cy≤y1):(20:Int)≤(pyR f y0 h b+hlf).floor∧(pyR f y0 h b+hlf).floor≤((h - 20:Nat):Int):=by
 have hh:=Zn2 hf hw hw0 h1 h2;have e1:=Zf6 (a:=h) (b:=40) zo;have e2:=Zf6 (a:=h) (b:=20) zo;refine Zsl (a:=20) ?_ ?_
 ·unfold pyR;rw [e2];rw [e1] at hh;generalize f*(b.cy - y0)=z at *;have:=hh.2
  grind
 ·unfold pyR;generalize f*(b.cy - y0)=z at *;have:=hh.1
  grind
def RBox.q (x:RBox):BxQ:=⟨x.a.q,x.b.q,x.c.q,x.d.q⟩
theorem RQ.sh_av {r:RQ} (h1:Lm r.l) (h2:Lm r.d) (h:r.sh=true):r.av=ratQ r.q∧Sz r.q 4:=by
 simp only [RQ.sh,Zy7,Zzi] at h;exact RQ.ok_av ⟨h1,h2,h.1.2,h.2⟩ h.1.1
theorem RBox.sh_av {x:RBox} {k:Nat} (hl:x.lm k) (h:x.sh=true):x.av=x.q.av∧x.q.sz 4:=by
 simp only [RBox.sh,Zy7] at h;obtain⟨⟨⟨ha,hb⟩,hc⟩,hd⟩:=h;obtain⟨la,lb,lc,ld⟩:=hl;obtain⟨ea,sa⟩:=RQ.sh_av la.1 la.2.1 ha;obtain⟨eb,sb⟩:=RQ.sh_av lb.1 lb.2.1 hb;obtain⟨ec,sc⟩:=RQ.sh_av lc.1 lc.2.1 hc;obtain⟨ed,sd⟩:=RQ.sh_av ld.1 ld.2.1 hd;refine⟨?_,sa,sb,sc,sd⟩;show AV.agg (x.a.av.cells++(x.b.av.cells++(x.c.av.cells++x.d.av.cells)))=AV.agg ((ratQ x.a.q).cells++((ratQ x.b.q).cells++((ratQ x.c.q).cells++(ratQ x.d.q).cells)));rw [ea,eb,ec,ed]
theorem okB_row {l:List RBox} {k:Nat} (hl:∀b∈l,b.lm k) (h:okB l=true):l.map RBox.av=(l.map RBox.q).map BxQ.av∧(∀b∈l.map RBox.q,b.sz 4)∧l.length≤12:=by
 simp only [okB,Zy7,Zzi,ZA3] at h;obtain⟨⟨h1,h2⟩,_⟩:=h;refine⟨?_,λb hb=>?_,h2⟩
 ·rw [List.map_map];exact ZBn λx hx=>(RBox.sh_av (hl x hx) (h1 x hx)).1
 ·obtain⟨x,hx,rfl⟩:=List.mem_map.1 hb;exact(RBox.sh_av (hl x hx) (h1 x hx)).2
theorem Zrk (b0:BxQ) (rest:List BxQ) (w h:Nat) (h1:100≤w) (h2:w≤4000) (h3:100≤h) (h4:h≤4000)
 {x0 x1 y0 y1 f:Rat} (ex0:minF b0.cx (rest.map BxQ.cx)=x0) (ex1:maxF b0.cx (rest.map BxQ.cx)=x1) (ey0:minF b0.cy (rest.map BxQ.cy)=y0) (ey1:maxF b0.cy (rest.map BxQ.cy)=y1)
 (ef:fac w h (x1 - x0) (y1 - y0)=f):(0≤f)∧∀b∈b0 :: rest,((20:Int)≤(pxR f x0 b+hlf).floor∧(pxR f x0 b+hlf).floor≤((w - 20:Nat):Int))∧((20:Int)≤(pyR f y0 h b+hlf).floor∧(pyR f y0 h b+hlf).floor≤((h - 20:Nat):Int)):=by
 have hx:∀b∈b0 :: rest,x0≤b.cx∧b.cx≤x1:=by
  intro b hb;have m1:=Zko (rest.map BxQ.cx) b0.cx;have m2:=Zkr (rest.map BxQ.cx) b0.cx;rw [ex0] at m1;rw [ex1] at m2;rcases List.mem_cons.1 hb with rfl | hb
  ·exact⟨m1.1,m2.1⟩
  ·exact⟨m1.2 _ (List.mem_map_of_mem hb),m2.2 _ (List.mem_map_of_mem hb)⟩
 have hy:∀b∈b0 :: rest,y0≤b.cy∧b.cy≤y1:=by
  intro b hb;have m1:=Zko (rest.map BxQ.cy) b0.cy;have m2:=Zkr (rest.map BxQ.cy) b0.cy;rw [ey0] at m1;rw [ey1] at m2;rcases List.mem_cons.1 hb with rfl | hb
  ·exact⟨m1.1,m2.1⟩
  ·exact⟨m1.2 _ (List.mem_map_of_mem hb),m2.2 _ (List.mem_map_of_mem hb)⟩
 have dx:0≤x1 - x0:=by have:=hx b0 Zzw;grind
 have dy:0≤y1 - y0:=by have:=hy b0 Zzw;grind
 have hf:=fac_ok (w:=w) (h:=h) dx dy;rw [ef] at hf;refine⟨hf.1,λb hb=>⟨px_in hf.1 hf.2.1 zo (hx b hb).1 (hx b hb).2,py_in hf.1 hf.2.2 zo (hy b hb).1 (hy b hb).2⟩⟩
abbrev ppA (p:Int × Int):AV:=.agg [.v (.int .i64 p.1),.v (.int .i64 p.2)]
theorem Zjq {q:Rat} {n:Nat} (hn:n≤4000) (h:(20:Int)≤(q+hlf).floor∧(q+hlf).floor≤((n - 20:Nat):Int)):Zp4 q:=by unfold Zp4;omega
theorem szCh:szOf prog 30=some 9:=by kernel_rfl
theorem byBox:Zea prog 38=some 224:=by kernel_rfl
theorem zCh:Zaq prog 30=some (.agg #[.bool false,.slice none 0 0,.slice none 0 0,.bool false,.slice none 0 0,.slice none 0 0,.bool false,.slice none 0 0,.slice none 0 0]):=by kernel_rfl
def chB (m vx vy:Rat) (b:BxQ):BxQ:=⟨b.a*m+vx,b.b*m+vx,b.c*m+vy,b.d*m+vy⟩
theorem Zss (m vx vy:Rat) (b:BxQ):(chB m vx vy b).cx=b.cx*m+vx:=by
 unfold BxQ.cx chB;rw [Zsj]
 grind
theorem Zsr (m vx vy:Rat) (b:BxQ):(chB m vx vy b).cy=b.cy*m+vy:=by
 unfold BxQ.cy chB;rw [Zsj]
 grind
theorem Zsz {m v:Rat} (hm:0 < m) (a b:Rat):a*m+v < b*m+v↔a < b:=by
 have h1:a*m < b*m↔a < b:=Rat.mul_lt_mul_right hm
 grind
theorem Zm7 {m v:Rat} (hm:0 < m):∀(l:List Rat) (a:Rat),minF (a*m+v) (l.map λx=>x*m+v)=minF a l*m+v
 | [],a=>rfl
 | b :: l,a=>by
   show minF (if b*m+v < a*m+v then b*m+v else a*m+v) (l.map λx=>x*m+v)=minF (if b < a then b else a) l*m+v;rw [←Zm7 hm l];congr 1;by_cases h:b < a
   ·rw [Zyk h,Zyk ((Zsz hm b a).2 h)]
   ·rw [Zyj h,Zyj (λh2=>h ((Zsz hm b a).1 h2))]
theorem Zm9 {m v:Rat} (hm:0 < m):∀(l:List Rat) (a:Rat),maxF (a*m+v) (l.map λx=>x*m+v)=maxF a l*m+v
 | [],a=>rfl
 | b :: l,a=>by
   show maxF (if a*m+v < b*m+v then b*m+v else a*m+v) (l.map λx=>x*m+v)=maxF (if a < b then b else a) l*m+v;rw [←Zm9 hm l];congr 1;by_cases h:a < b
   ·rw [Zyk h,Zyk ((Zsz hm a b).2 h)]
   ·rw [Zyj h,Zyj (λh2=>h ((Zsz hm a b).1 h2))]
theorem Zsb {a b:Rat} (h1:a≠0) (h2:b≠0):a*b≠0:=λh=>by
 rcases Rat.mul_eq_zero.1 h with h | h
 ·exact h1 h
 ·exact h2 h
theorem Znj {m a y:Rat} (hm:0 < m) (hy:y≠0):a/(y*m)*m=a/y:=by
 have hm0:m≠0:=by grind
 have h1:a/(y*m)*(y*m)=a:=Zje (Zsb hy hm0);have h2:a/y*y=a:=Zje hy;have h3:(a/(y*m)*m)*y=(a/y)*y:=by rw [h2,Rat.mul_assoc,Rat.mul_comm m y,h1]
 grind
theorem fac_aff {w h:Nat} {m x y:Rat} (hm:0 < m):(x=0∧y=0)∨fac w h (x*m) (y*m)*m=fac w h x y:=by
 have hm0:m≠0:=by grind
 by_cases hx:x=0
 ·by_cases hy:y=0
  ·exact .inl ⟨hx,hy⟩
  ·right;have h1:y*m≠0:=Zsb hy hm0;subst hx;unfold fac;rw [Rat.zero_mul,Zyk rfl,Zyj h1,Zyk rfl,Zyj hy];exact Znj hm hy
 ·right;have h0:x*m≠0:=Zsb hx hm0;by_cases hy:y=0
  ·subst hy;unfold fac;rw [Rat.zero_mul,Zyj h0,Zyk rfl,Zyj hx,Zyk rfl];exact Znj hm hx
  ·have h1:y*m≠0:=Zsb hy hm0;have e1:=Znj (a:=((h - 40:Nat):Rat)) hm hy;have e2:=Znj (a:=((w - 40:Nat):Rat)) hm hx;have e3:((h - 40:Nat):Rat)/(y*m)*m < ((w - 40:Nat):Rat)/(x*m)*m↔((h - 40:Nat):Rat)/(y*m) < ((w - 40:Nat):Rat)/(x*m):=Rat.mul_lt_mul_right hm;rw [e1,e2] at e3;unfold fac;rw [Zyj h0,Zyj h1,Zyj hx,Zyj hy];by_cases hc:((h - 40:Nat):Rat)/y < ((w - 40:Nat):Rat)/x
   ·rw [Zyk hc,Zyk (e3.1 hc)];exact e1
   ·rw [Zyj hc,Zyj (λh=>hc (e3.2 h))];exact e2
theorem Zwa {f f' c x0 x1 m v:Rat} (hf:x1 - x0=0∨f'*m=f) (h1:x0≤c) (h2:c≤x1):f'*(c*m+v - (x0*m+v))=f*(c - x0):=by
 have e:c*m+v - (x0*m+v)=m*(c - x0):=by grind
 rw [e,←Rat.mul_assoc];rcases hf with h | h
 ·have:c - x0=0:=by grind
  rw [this,ZC6,ZC6]
 ·rw [h]
theorem Zwg {f f' x0 x1 y0 y1 m vx vy:Rat} {h:Nat} {b:BxQ} (hx:x1 - x0=0∨f'*m=f) (hy:y1 - y0=0∨f'*m=f) (h1:x0≤b.cx) (h2:b.cx≤x1) (h3:y0≤b.cy) (h4:b.cy≤y1) :
 pixA f' (x0*m+vx) (y0*m+vy) h (chB m vx vy b)=pixA f x0 y0 h b:=by
 have e1:pxR f' (x0*m+vx) (chB m vx vy b)=pxR f x0 b:=by unfold pxR;rw [Zss,Zwa hx h1 h2]
 have e2:pyR f' (y0*m+vy) h (chB m vx vy b)=pyR f y0 h b:=by unfold pyR;rw [Zsr,Zwa hy h3 h4]
 show AV.agg [.v (.int .i64 (rnd (pxR f' _ _):Int)),.v (.int .i64 (rnd (pyR f' _ _ _):Int))]=_;rw [e1,e2]
theorem pix_all (b0:BxQ) (rest:List BxQ) (w h:Nat) {m vx vy:Rat} (hm:0 < m) {x0 x1 y0 y1 f x0' x1' y0' y1' f':Rat}
 (ex0:minF b0.cx (rest.map BxQ.cx)=x0) (ex1:maxF b0.cx (rest.map BxQ.cx)=x1) (ey0:minF b0.cy (rest.map BxQ.cy)=y0) (ey1:maxF b0.cy (rest.map BxQ.cy)=y1) (ef:fac w h (x1 - x0) (y1 - y0)=f)
 (fx0:minF (chB m vx vy b0).cx ((rest.map (chB m vx vy)).map BxQ.cx)=x0') (fx1:maxF (chB m vx vy b0).cx ((rest.map (chB m vx vy)).map BxQ.cx)=x1') (fy0:minF (chB m vx vy b0).cy ((rest.map (chB m vx vy)).map BxQ.cy)=y0') (fy1:maxF (chB m vx vy b0).cy ((rest.map (chB m vx vy)).map BxQ.cy)=y1') (ff:fac w h (x1' - x0') (y1' - y0')=f') :
 (chB m vx vy b0 :: rest.map (chB m vx vy)).map (pixA f' x0' y0' h)=(b0 :: rest).map (pixA f x0 y0 h):=by
 have k1:(rest.map (chB m vx vy)).map BxQ.cx=(rest.map BxQ.cx).map λx=>x*m+vx:=by rw [List.map_map,List.map_map];exact ZBn λb _=>Zss m vx vy b
 have k2:(rest.map (chB m vx vy)).map BxQ.cy=(rest.map BxQ.cy).map λx=>x*m+vy:=by rw [List.map_map,List.map_map];exact ZBn λb _=>Zsr m vx vy b
 rw [k1,Zss,Zm7 hm,ex0] at fx0;rw [k1,Zss,Zm9 hm,ex1] at fx1;rw [k2,Zsr,Zm7 hm,ey0] at fy0;rw [k2,Zsr,Zm9 hm,ey1] at fy1;have d1:x1' - x0'=(x1 - x0)*m:=by rw [←fx0,←fx1];grind
 have d2:y1' - y0'=(y1 - y0)*m:=by rw [←fy0,←fy1];grind
 rw [d1,d2] at ff;have hfac:=fac_aff (w:=w) (h:=h) (x:=x1 - x0) (y:=y1 - y0) hm;rw [ff,ef] at hfac;have hx:x1 - x0=0∨f'*m=f:=hfac.imp And.left id;have hy:y1 - y0=0∨f'*m=f:=hfac.imp And.right id;have mx:=Zko (rest.map BxQ.cx) b0.cx;have Mx:=Zkr (rest.map BxQ.cx) b0.cx;have my:=Zko (rest.map BxQ.cy) b0.cy;have My:=Zkr (rest.map BxQ.cy) b0.cy;rw [ex0] at mx;rw [ex1] at Mx;rw [ey0] at my;rw [ey1] at My;subst fx0 fy0;show((b0 :: rest).map (chB m vx vy)).map _=_;rw [List.map_map];refine ZBn λb hb=>?_;rcases List.mem_cons.1 hb with rfl | hb
 ·exact Zwg hx hy mx.1 Mx.1 my.1 My.1
 ·exact Zwg hx hy (mx.2 _ (List.mem_map_of_mem hb)) (Mx.2 _ (List.mem_map_of_mem hb)) (my.2 _ (List.mem_map_of_mem hb)) (My.2 _ (List.mem_map_of_mem hb))
theorem chB_sz {m vx vy:Rat} {b:BxQ} (h:b.sz 4) (hm:Sz m 4) (hx:Sz vx 4) (hy:Sz vy 4):(chB m vx vy b).sz 13 :=
 ⟨(h.1.mul hm).add hx,(h.2.1.mul hm).add hx,(h.2.2.1.mul hm).add hy,(h.2.2.2.mul hm).add hy⟩
abbrev iv (n:Int):AV:=.v (.int .i64 n)
abbrev strA (s:ByteArray):AV:=.v (.string s)
abbrev ivs (l:List Int):AV:=.sl 1 (l.map iv)
abbrev Vt:=Int × Int × Int
abbrev Vt.av (v:Vt):AV:=.agg [iv v.1,iv v.2.1,iv v.2.2]
theorem Zxl {α:Type} {f:α→AV} {l:List α} {j:Nat} {d:α} (h:j < l.length):(l.map f).getD j .u=f (l.getD j d):=by
 rw [Zyu,Zzu,Zym h,Zyu,Zym h];rfl
theorem Zcu {α:Type} {l:List α} {j:Nat} {d:α} (h:j < l.length):l.getD j d∈l:=by
 rw [Zyu,Zym h];exact Zy6 h
theorem Zad {α:Type} (f:α→AV) {l:List α} {k:Nat} (h:k < l.length):(l.map f).getD k .u=f l[k]:=by
 rw [Zyu,Zzu,Zym h];rfl
theorem Zbw:szOf prog 41=some 1:=by kernel_rfl
theorem zErr:Zaq prog 41=some (.int .i64 0):=by kernel_rfl
theorem Zbp:szOf prog 9=some 1:=by kernel_rfl
theorem Zbu:Zea prog 9=some 16:=by kernel_rfl
theorem zStr:Zaq prog 9=some (.string ByteArray.empty):=by kernel_rfl
theorem Zfq:szOf prog 275=some 3:=by kernel_rfl
theorem Zfz:Zea prog 275=some 24:=by kernel_rfl
theorem zVar:Zaq prog 275=some (.agg #[.int .i64 0,.int .i64 0,.int .i64 0]):=by kernel_rfl
theorem Zbq:szOf prog 62=some 2:=by kernel_rfl
theorem Zcp:Zaq prog 62=some (.agg #[.slice none 0 0,.slice none 0 0]):=by kernel_rfl
theorem Zcf:szOf prog 49=some 2:=by kernel_rfl
theorem zFig:Zaq prog 49=some (.agg #[.slice none 0 0,.slice none 0 0]):=by kernel_rfl
theorem Zcq:szOf prog 280=some 4:=by kernel_rfl
theorem Zsv:Zea prog 280=some 80:=by kernel_rfl
theorem Zej:Zaq prog 280=some (.agg #[.bool false,.slice none 0 0,.slice none 0 0,.slice none 0 0]):=by kernel_rfl
theorem Zb7:szOf prog 203=some 2:=by kernel_rfl
theorem Zcc:Zea prog 203=some 48:=by kernel_rfl
theorem Zdc:Zaq prog 203=some (.agg #[.slice none 0 0,.slice none 0 0]):=by kernel_rfl
theorem Za6:szOf prog 78=some 6:=by kernel_rfl
theorem Za7:Zea prog 78=some 104:=by kernel_rfl
theorem Zcd:Zaq prog 78=some (.agg #[.int .i64 0,.string ByteArray.empty,.slice none 0 0,.bool false,.slice none 0 0,.slice none 0 0]):=by kernel_rfl
theorem Zb2:szOf prog 80=some 5:=by kernel_rfl
theorem Zb4:Zea prog 80=some 88:=by kernel_rfl
theorem Zdh:Zaq prog 80=some (.agg #[.int .i64 0,.slice none 0 0,.bool false,.slice none 0 0,.slice none 0 0]):=by kernel_rfl
theorem Zj2:szOf prog 161=some 3:=by kernel_rfl
theorem Zk8:Zea prog 161=some 40:=by kernel_rfl
theorem Zpj:Zaq prog 161=some (.agg #[.int .i64 0,.slice none 0 0,.int .i64 0]):=by kernel_rfl
theorem Zcr:szOf prog 157=some 1:=by kernel_rfl
theorem Zcw:Zea prog 157=some 24:=by kernel_rfl
theorem Zek:Zaq prog 157=some (.slice none 0 0):=by kernel_rfl
theorem Zrg:szOf prog 278=some 1:=by kernel_rfl
theorem Zsw:Zea prog 278=some 24:=by kernel_rfl
theorem zMono:Zaq prog 278=some (.slice none 0 0):=by kernel_rfl
theorem Zby:szOf prog 53=some 1:=by kernel_rfl
theorem zSlI:Zaq prog 53=some (.slice none 0 0):=by kernel_rfl
theorem Zce:szOf prog 46=some 1:=by kernel_rfl
theorem zSlS:Zaq prog 46=some (.slice none 0 0):=by kernel_rfl
theorem Zdi:szOf prog 47=some 1:=by kernel_rfl
theorem zSlF:Zaq prog 47=some (.slice none 0 0):=by kernel_rfl
theorem Zem:szOf prog 59=some 1:=by kernel_rfl
theorem zSlC:Zaq prog 59=some (.slice none 0 0):=by kernel_rfl
theorem Zel:szOf prog 60=some 1:=by kernel_rfl
theorem zSlV:Zaq prog 60=some (.slice none 0 0):=by kernel_rfl
theorem Zlf:szOf prog 63=some 1:=by kernel_rfl
theorem bySlP:Zea prog 63=some 24:=by kernel_rfl
theorem zSlP:Zaq prog 63=some (.slice none 0 0):=by kernel_rfl
theorem Zew:szOf prog 135=some 1:=by kernel_rfl
theorem Zgf:Zaq prog 135=some (.slice none 0 0):=by kernel_rfl
theorem Zlo:szOf prog 153=some 1:=by kernel_rfl
theorem Zs3:Zaq prog 153=some (.slice none 0 0):=by kernel_rfl
def expOk (x:Int):Bool:=!decide (x < 0) && !decide (1048576 < x)
def rightB (l:List Int):Bool:=decide (l.length≤64) && !(l.getLast?.getD 1 == 0) && l.all expOk
attribute [go_sem] underlying278
def Sm (l:List Int):Prop:=l.length≤1000∧∀j,0≤gI l j∧gI l j≤16777216
def sumT (l:List Int):Nat→Int
 | 0=>0
 | k+1=>sumT l k+gI l k
theorem Zmk {l:List Int} (h:Sm l):∀k,0≤sumT l k∧sumT l k≤k*16777216
 | 0=>by simp [sumT]
 | k+1=>by
   have h1:=Zmk h k;have h2:=h.2 k;simp only [sumT];omega
theorem Zn9 (l:List Int) (hs:Sm l):Pure prog 241 [ints l] (.v (.int .i64 (sumT l l.length))):=by
 unfold ints;refine Zaa (tok:=0) (rs:=[.tmp 2]) func241 rfl ntmps241 results241 call241 zr zs ?_;have hl:=hs.1;(focus (refine wkap w_t w_t (w_r 0) ?_;(repeat' first|exact w_t|apply w_l);all_goals intros));refine r_loop (ι:=Nat) (λk st=>k≤l.length∧st.env 0=.sl 1 (l.map λn=>AV.v (.int .i64 n))∧st.env 4=.v (.int .i64 k)∧st.env 3=.v (.int .i64 (sumT l k))) (λk=>l.length - k) 0 zr ?_ ?_
 ·rintro k st ⟨hk,e0,e4,e3⟩
  by_cases hlt:k < l.length
  ·have b1:=Zmk hs k;have b2:=hs.2 k;(focus (refine wkap (w_3 e0 e4 e3) w_t (w_r 0) ?_;(repeat' first|exact w_t|apply w_l);all_goals intros));exact⟨k+1,⟨zo,by simp (disch:=omega) only [go_sem,e0],by simp (disch:=omega) only [go_sem,e4];rfl,by simp (disch:=omega) only [go_sem,e3];rfl⟩,zo⟩
  ·have hk':k=l.length:=zo;subst hk';(focus (refine wkap (w_3 e0 e4 e3) w_t (w_r 0) ?_;(repeat' first|exact w_t|apply w_l);all_goals intros));simp (disch:=omega) only [go_sem,e3]
 ·exact⟨Zyv _,by simp (disch:=omega) only [go_sem],by simp (disch:=omega) only [go_sem];rfl,by simp (disch:=omega) only [go_sem];rfl⟩
def expI (l:List Int) (v:Int):Int:=if v < 0 then 0 else gI l v.toNat
theorem exp_of (l:List Int) (k:Nat):expI l (k:Int)=gI l k:=by unfold expI;rw [Zyj zo];rfl
theorem toNat_lt {l:List Int} {v:Int} (h0:0≤v) (h:v < l.length):v.toNat < l.length:=zo
theorem refExp (l:List Int) (v:Int):Pure prog 243 [ints l,.v (.int .i64 v)] (.v (.int .i64 (expI l v))):=by
 unfold ints;refine Zaa (tok:=0) (rs:=[.tmp 4]) func243 rfl ntmps243 results243 call243 zr zs ?_;by_cases h0:v < 0
 ·unfold expI;rw [Zyk h0];(focus (refine wkap w_t w_t (w_r 0) ?_;(repeat' first|exact w_t|apply w_l);all_goals intros));simp (disch:=omega) only [go_sem]
 ·unfold expI;rw [Zyj h0];by_cases h1:v < l.length
  ·have h2:=toNat_lt zo h1;(focus (refine wkap w_t w_t (w_r 0) ?_;(repeat' first|exact w_t|apply w_l);all_goals intros));simp (disch:=omega) only [go_sem]
  ·rw [Zc2 zo];(focus (refine wkap w_t w_t (w_r 0) ?_;(repeat' first|exact w_t|apply w_l);all_goals intros));simp (disch:=omega) only [go_sem]
def sgn (n:Int):Int:=if n < 0 then -1 else if 0 < n then 1 else 0
theorem Zvr (n:Int):Pure prog 242 [.v (.int .i64 n)] (.v (.int .i64 (sgn n))):=by
 refine Zaa (tok:=0) (rs:=[.tmp 2]) func242 rfl ntmps242 results242 call242 zr zs ?_;unfold sgn;by_cases h0:n < 0
 ·rw [Zyk h0];(focus (refine wkap w_t w_t (w_r 0) ?_;(repeat' first|exact w_t|apply w_l);all_goals intros));simp (disch:=omega) only [go_sem]
 ·rw [Zyj h0];by_cases h1:0 < n
  ·rw [Zyk h1];(focus (refine wkap w_t w_t (w_r 0) ?_;(repeat' first|exact w_t|apply w_l);all_goals intros));simp (disch:=omega) only [go_sem]
  ·rw [Zyj h1];(focus (refine wkap w_t w_t (w_r 0) ?_;(repeat' first|exact w_t|apply w_l);all_goals intros));simp (disch:=omega) only [go_sem]
attribute [go_sem] underlying53
def trimN (l:List Int):Nat→Nat
 | 0=>0
 | n+1=>if gI l n=0 then trimN l n else n+1
def trimI (l:List Int):List Int:=l.take (trimN l l.length)
theorem Zx6 {k:Nat} (h:0 < k):(k:Int) - 1=((k - 1:Nat):Int):=zo
def zipI (F:Int→Int→Int) (a b:List Int):List Int:=(List.range (max a.length b.length)).map λi=>F (gI a i) (gI b i)
def upto (n k:Nat) (F:Nat→Int):List AV:=(List.range n).map λi=>AV.v (.int .i64 (if i < k then F i else 0))
def Wd (l:List Int):Prop:=l.length≤1000∧∀j,-4503599627370496≤gI l j∧gI l j≤4503599627370496
theorem Sm.wd {l:List Int} (h:Sm l):Wd l:=⟨h.1,λj=>by have:=h.2 j;omega⟩
def divI (a b:List Int):Bool:=(List.range a.length).all λi=>decide (gI a i≤gI b i)
theorem Zmr (b:List Int) (k:Nat):Pure prog 243 [.sl 1 (b.map λn=>AV.v (.int .i64 n)),.v (.int .i64 k)] (.v (.int .i64 (gI b k))):=by
 have:=refExp b k
 rwa [exp_of] at this
def copI (a b:List Int):Bool:=(List.range a.length).all λi=>decide (gI a i=0∨gI b i=0)
def outL (F:Nat→Int) (k:Nat):List AV:=(List.range k).map λi=>AV.v (.int .i64 (F i))
theorem outL_len (F:Nat→Int) (k:Nat):(outL F k).length=k:=by simp [outL]
theorem Zwj (F:Nat→Int) (k:Nat):outL F k++[AV.v (.int .i64 (F k))]=outL F (k+1):=by simp [outL,List.range_succ]
theorem outL_one (F:Nat→Int):[AV.v (.int .i64 (F 0))]=outL F (0+1):=by simp [outL,List.range_succ]
theorem Zwk (F:Nat→Int) (n:Nat):AV.sl 1 (outL F n)=ints ((List.range n).map F):=by simp [outL,ints,Function.comp_def]
theorem nil_wk {n:Nat} {F:Nat→Int} (h:n=0):Wk (.v (.slice none 0 0)) (ints ((List.range n).map F)):=by subst h;exact .nil 1
theorem mrMul' (a b:List Int) (ha:Wd a) (hb:Wd b):Pure prog 240 [ints a,ints b] (if max a.length b.length=0 then .v (.slice none 0 0) else .sl 1 (outL (λi=>gI a i+gI b i) (max a.length b.length))):=by
 obtain⟨n,hn⟩:∃n,n=max a.length b.length:=⟨_,rfl⟩;have hal:=ha.1;have hbl:=hb.1;rw [←hn]
 have hcode:∀r:AV,(n=0→r=.v (.slice none 0 0))→(n≠0→r=.sl 1 (outL (λi=>gI a i+gI b i) n))→Pure prog 240 [ints a,ints b] r:=by
  intro r hr0 hr1;unfold ints;refine Zaa (tok:=0) (rs:=[.tmp 4]) func240 rfl ntmps240 results240 call240 zr zs ?_;(focus (refine wkap w_t w_t (w_r 0) ?_;(repeat' first|exact w_t|apply w_l);all_goals intros));refine Zab (ι:=Nat) (λk e m=>k≤n∧e 0=.sl 1 (a.map λn=>AV.v (.int .i64 n))∧e 1=.sl 1 (b.map λn=>AV.v (.int .i64 n))∧e 6=.v (.int .i64 k)∧(k=0→e 5=.v (.slice none 0 0))∧(k≠0→∃sv,e 5=.own 28 sv∧m 28=some (.row sv 3 1 (outL (λi=>gI a i+gI b i) k) 0))) (λk=>n - k) 0 zr ?_ ?_
  ·rintro k e m ⟨hk,e0,e1,e6,hz,hp⟩
   by_cases hlt:k < n
   ·have hxa:=Zmr a k;have hxb:=Zmr b k;have p1:=ha.2 k;have p2:=hb.2 k;by_cases hk0:k=0
    ·subst hk0;have e5:=hz rfl;have o1:=outL_one (λi=>gI a i+gI b i);by_cases hka:0 < a.length;all_goals
      (focus (refine wkap (w_4 e0 e1 e6 e5) (w_2 hxa hxb) (w_r 0) ?_;(repeat' first|exact w_t|apply w_l);all_goals intros));refine⟨0+1,⟨zo,gW e0,gW e1,gV e6,λh=>zo,λ_=>⟨_,gS,by(simp (disch:=omega) only [go_sem,←o1]<;>repeat' first|rfl|refine⟨?_,?_⟩)⟩⟩,zo⟩
    ·obtain⟨sv,e5,em⟩:=hp hk0;have hol:=outL_len (λi=>gI a i+gI b i) k;have hos:=Zwj (λi=>gI a i+gI b i) k;by_cases hka:k < a.length;all_goals
      (focus (refine wkap (w_6 e0 e1 e6 e5 em hol) (w_2 hxa hxb) (w_r 0) ?_;(repeat' first|exact w_t|apply w_l);all_goals intros));refine⟨k+1,⟨zo,gW e0,gW e1,gV e6,λh=>zo,λ_=>⟨_,gS,gW hos⟩⟩,zo⟩
   ·have hk':k=n:=zo;subst hk';by_cases hk0:k=0
    ·have e5:=hz hk0;rw [hr0 hk0];(focus (refine wklp (w_4 e0 e1 e6 e5) w_t w_t (w_r 0) ?_;(repeat' first|exact w_t|apply w_l);all_goals intros))
    ·obtain⟨sv,e5,em⟩:=hp hk0;rw [hr1 hk0];(focus (refine wklp (w_5 e0 e1 e6 e5 em) w_t (w_1 em) (w_r 0) ?_;(repeat' first|exact w_t|apply w_l);all_goals intros))
  ·exact⟨Zyv _,gC,gC,gS,λ_=>gC,λh=>absurd rfl h⟩
 exact hcode _ (λh=>by rw [Zyk h]) (λh=>by rw [Zyj h])
theorem mrMul (a b:List Int) (ha:Wd a) (hb:Wd b):Pure prog 240 [ints a,ints b] (ints (zipI (·+·) a b)):=by
 refine(mrMul' a b ha hb).wk ?_;split
 ·rename_i h;exact nil_wk h
 ·rw [Zwk];exact .refl _
def quoI (a b:List Int):List Int:=if divI b a=true then trimI (zipI (· - ·) a b) else []
def quoR (a b:List Int):List Int:=if divI b a=true then trimI ((List.range a.length).map λi=>gI a i - gI b i) else []
section
theorem sz23:szOf prog 278=some 1:=by kernel_rfl
attribute [local go_sem] sz23
def normI (l:List Int):List Int:=if rightB (trimI l)=true then trimI l else []
def lt1 (x y:Int):Int:=if x < y then -1 else 1
def lexC (a b:List Int):Nat→Int
 | 0=>0
 | n+1=>if gI a n=gI b n then lexC a b n else lt1 (gI a n) (gI b n)
def cmpI (a b:List Int) (o:Int):Int :=
 if o=1∧sumT a a.length≠sumT b b.length then lt1 (sumT a a.length) (sumT b b.length) else lexC a b (max a.length b.length)
theorem Zw7 {a b:List Int} {k:Nat} (h0:0 < k) (h:gI a (k - 1)=gI b (k - 1)):lexC a b (k - 1)=lexC a b k:=by
 cases k with
 | zero=>omega
 | succ k=>simp only [lexC];rw [Zyk (by simpa using h)];rfl
theorem Zw9 {a b:List Int} {k:Nat} (h0:0 < k) (h:gI a (k - 1)≠gI b (k - 1)):lexC a b k=lt1 (gI a (k - 1)) (gI b (k - 1)):=by
 cases k with
 | zero=>omega
 | succ k=>simp only [lexC];rw [Zyj (by simpa using h)];rfl
theorem Zu9 {x y:Int} (h:x≠y):sgn (x - y)=lt1 x y:=by
 unfold sgn lt1;by_cases h1:x < y
 ·rw [Zyk zo,Zyk h1]
 ·rw [Zyj zo,Zyk zo,Zyj h1]
end
attribute [go_sem] sz23
theorem mrCmp (a b:List Int) (o:Int) (ha:Sm a) (hb:Sm b):Pure prog 228 [ints a,ints b,.v (.int .i64 o)] (.v (.int .i64 (cmpI a b o))):=by
 have hal:=ha.1;have hbl:=hb.1;have d1:=Zn9 a ha;have d2:=Zn9 b hb;have q1:=Zmk ha a.length;have q2:=Zmk hb b.length;unfold ints at *;refine Zaa (tok:=0) (rs:=[.tmp 6]) func228 rfl ntmps228 results228 call228 zr zs ?_;obtain⟨n,hn⟩:∃n,n=max a.length b.length:=⟨_,rfl⟩;have hmx:max (a.length:Int) (b.length:Int)=(n:Int):=zo;by_cases hbig:o=1∧sumT a a.length≠sumT b b.length
 ·obtain⟨ho,hd⟩:=hbig;have hc:cmpI a b o=lt1 (sumT a a.length) (sumT b b.length):=by unfold cmpI;rw [Zyk ⟨ho,hd⟩]
  rw [hc];have hs:=Zvr (sumT a a.length - sumT b b.length);rw [Zu9 hd] at hs;(focus (refine wklp w_t (w_5 d1 d2 d1 d2 hs) w_t (w_r 0) ?_;(repeat' first|exact w_t|apply w_l);all_goals intros))
 ·have hc:cmpI a b o=lexC a b n:=by unfold cmpI;rw [Zyj hbig,hn]
  rw [hc];have hd0:o=1→sumT a a.length=sumT b b.length:=λho=>Decidable.byContradiction λh=>hbig ⟨ho,h⟩;by_cases ho:o=1;all_goals
   first
   | (have hd:=hd0 ho
      (focus (refine wkap (w_1 hmx) (w_2 d1 d2) (w_r 0) ?_;(repeat' first|exact w_t|apply w_l);all_goals intros)))
   | ((focus (refine wkap (w_1 hmx) w_t (w_r 0) ?_;(repeat' first|exact w_t|apply w_l);all_goals intros)))
   refine Zab (ι:=Nat) (λk e m=>k≤n∧e 0=.sl 1 (a.map λn=>AV.v (.int .i64 n))∧e 1=.sl 1 (b.map λn=>AV.v (.int .i64 n))∧e 7=.v (.int .i64 ((k:Int) - 1))∧lexC a b k=lexC a b n) (λk=>k) n zr ?_ ?_
   ·rintro k e m ⟨hk,e0,e1,e9,hl⟩
    by_cases hk0:0 < k
    ·have hp:=Zx6 hk0;rw [hp] at e9;have x1:=Zmr a (k - 1);have x2:=Zmr b (k - 1);have p1:=ha.2 (k - 1);have p2:=hb.2 (k - 1);by_cases hx:gI a (k - 1)=gI b (k - 1)
     ·(focus (refine wkap (w_3 e0 e1 e9) (w_2 x1 x2) (w_r 0) ?_;(repeat' first|exact w_t|apply w_l);all_goals intros));exact⟨k - 1,⟨zo,gW e0,gW e1,gW e9,by rw [Zw7 hk0 hx,hl]⟩,zo⟩
     ·have hs:=Zvr (gI a (k - 1) - gI b (k - 1));rw [Zu9 hx] at hs;rw [←hl,Zw9 hk0 hx];(focus (refine wklp (w_3 e0 e1 e9) (w_5 x1 x2 x1 x2 hs) w_t (w_r 0) ?_;(repeat' first|exact w_t|apply w_l);all_goals intros))
    ·have hk':k=0:=zo;subst hk';rw [←hl,show lexC a b 0=0 from rfl];(focus (refine wklp (w_3 e0 e1 e9) w_t w_t (w_r 0) ?_;(repeat' first|exact w_t|apply w_l);all_goals intros))
   ·exact⟨Zyp _,gC,gC,gW hmx,rfl⟩
def low (x:Int):Bool:=!decide (262144 < x)
def rightL (ls:List (List Int)):Bool:=ls.all λl=>rightB l && l.all low
def gLs (ls:List (List Int)) (k:Nat):List Int:=ls.getD k []
section
variable {N n:Nat} {cs:List AV}
theorem agN16:Zgt prog 125=false:=by kernel_rfl
theorem cs16:prog.cellsOf 125=1:=by kernel_rfl
theorem shNat (h:Zc5 prog N n 24 cs):∃l:List Nat,cs=[lim l]∧Lm l∧l.length≤N:=by
 obtain⟨bs,rfl,hl,hq⟩:=Zh6 (g:=λk:Nat=>[AV.v (.int .u16 (k:Int))]) (Q:=λk=>k < 65536) underlying24 h λm x hx=>by
  obtain⟨i,rfl,hw⟩:=Zu7 underlying125 hx;have:=wf_u16 hw;exact⟨i.toNat,by rw [ZBg this.1],zo⟩
 refine⟨bs,?_,hq,hl⟩;rw [cs16];have:(bs.map λb:Nat=>Zdu prog 125 [AV.v (.int .u16 (b:Int))])=u16s bs:=ZBn λb _=>Znq agN16 _;rw [this]
theorem shInt (h:Zc5 prog N n 26 cs):∃(s:Bool) (l:List Nat),cs=[.v (.bool s),lim l]∧Lm l∧l.length≤N:=by
 obtain⟨m,rfl,hs⟩:=Zd8 underlying26 zk h;obtain⟨x,y,rfl,h1,hs⟩:=hs.inv;obtain⟨z,y,rfl,h2,hs⟩:=hs.inv;obtain rfl:=hs.inv0;obtain⟨s,rfl⟩:=Ztg underlying4 h1;obtain⟨l,rfl,h3,h4⟩:=shNat h2;exact⟨s,l,rfl,h3,h4⟩
theorem Zu8 (h:Zc5 prog N n 28 cs):∃r:RQ,cs=[.v (.bool r.s),lim r.l,lim r.d]∧r.lm N:=by
 obtain⟨m,rfl,hs⟩:=Zd8 underlying28 zk h;obtain⟨x,y,rfl,h1,hs⟩:=hs.inv;obtain⟨z,y,rfl,h2,hs⟩:=hs.inv;obtain rfl:=hs.inv0;obtain⟨s,l,rfl,h3,h4⟩:=shInt h1;obtain⟨d,rfl,h5,h6⟩:=shNat h2;exact⟨⟨s,l,d⟩,rfl,h3,h5,h4,h6⟩
theorem Zlr (h:Zc5 prog N n 36 cs):∃r q:RQ,cs=[.v (.bool r.s),lim r.l,lim r.d,.v (.bool q.s),lim q.l,lim q.d]∧r.lm N∧q.lm N:=by
 obtain⟨m,rfl,hs⟩:=Zd8 underlying36 zk h;obtain⟨x,y,rfl,h1,hs⟩:=hs.inv;obtain⟨z,y,rfl,h2,hs⟩:=hs.inv;obtain rfl:=hs.inv0;obtain⟨r,rfl,h3⟩:=Zu8 h1;obtain⟨q,rfl,h4⟩:=Zu8 h2;exact⟨r,q,rfl,h3,h4⟩
structure RP where
 x:RQ
 y:RQ
abbrev RP.av (p:RP):AV:=.agg [.v (.bool p.x.s),lim p.x.l,lim p.x.d,.v (.bool p.y.s),lim p.y.l,lim p.y.d]
def RP.lm (p:RP) (k:Nat):Prop:=p.x.lm k∧p.y.lm k
end
attribute [go_sem] underlying2
theorem zOfM:Pure prog 85 [iv (-1)] (intZ (-1)):=by
 have hm:=zOf' true 1 (by rw [Zhl];omega);have h0:=Zjk 0 zo;have h1:=Zjk 1 zo;have ha:=rAdd 0 1 (by rw [Zau];simp) (by rw [Zhl];omega);rw [show zI true 1=-1 from rfl] at hm;rw [show 0+1=1 from rfl] at ha;rw [show intZ (-1)=.agg [.v (.bool true),lim (toL 1)] from rfl] at hm ⊢;generalize toL 1=l at *;generalize toL 0=k at *;refine pI func85 rfl ntmps85 results85 call85 ?_;exact wklp w_t (w_4 h0 h1 ha hm) w_t (w_r 0) w_z
theorem qOfM:Pure prog 47 [iv (-1)] (ratQ (-1)):=by
 have c:=zOfM;have h1:=Zjk 1 zo;have co:Pure prog 46 [.agg [.v (.bool true),lim (toL 1)],lim (toL 1)] (ratQ (mkRat (zI true 1) 1)):=Zv9 true 1 1 (by rw [Zhl];omega) (by rw [Zhl];omega) zo;rw [show mkRat (zI true 1) 1=(-1:Rat) from rfl] at co;rw [show intZ (-1)=.agg [.v (.bool true),lim (toL 1)] from rfl] at c;rw [show ratQ (-1)=.agg [.v (.bool true),lim (toL 1),lim (toL 1)] from rfl] at *;generalize toL 1=l at *;refine pI func47 rfl ntmps47 results47 call47 ?_;exact wklp w_t (w_3 c h1 co) w_t (w_r 0) w_z
theorem szA4C:szOf prog 243=some 8:=by kernel_rfl
theorem zA4C:Zaq prog 243=some (.agg #[.slice none 0 0,.slice none 0 0,.slice none 0 0,.slice none 0 0,.slice none 0 0,.slice none 0 0,.slice none 0 0,.slice none 0 0]):=by kernel_rfl
theorem Zya (x:Nat) (hx:x < 256):Pure prog 175 [.v (.int .u64 (x:Int))] (iv (len8 x:Nat)):=by
 refine Zaa (tok:=0) (rs:=[.tmp 2]) func175 rfl ntmps175 results175 call175 zr zs ?_;have b:=Ziv (i:=x) zo
 (repeat' (first|(apply o_tab (g:=len8) (n:=256) zk zk zo)|(with_reducible first|refine stp ?_|apply gx1|apply gx2|apply gx3|apply gx4|apply gx5|apply gx6|apply gx7)|(with_reducible refine Zcg ?_;intro _)|((with_reducible refine gE ?_);(try simp (disch:=omega) only [go_sem])<;>first|rfl|omega)|with_reducible refine Zai zd ?_))
 simp (disch:=omega) only [go_sem,Zyw]
theorem bitsLen (x:Nat) (hx:x < 256):Pure prog 125 [.v (.int .u64 (x:Int))] (iv (len8 x:Nat)):=by
 have c:=Zya x hx;generalize ((len8 x:Nat):Int)=r at *;refine pI func125 rfl ntmps125 results125 call125 ?_
 (refine wkap w_t (w_1 c) (w_r 0) (w_s ?_);intros)
 all_goals exact gL
end Go.Proofs.YtjbjejmmnbdbiaaGreat
namespace Go.Proofs.YtjbjejmmnbdbiaaGreat
attribute [-bool_to_prop] Bool.and_eq_decide Bool.or_eq_decide Bool.decide_beq_decide decide_eq_decide
section
open Go Go.RowKit Go.Pg
end
section
open Go Go.RowKit Go.Pg
end
end Go.Proofs.YtjbjejmmnbdbiaaGreat
namespace Go.Pg
open Go Go.RowKit Go.Lib
section
variable {P:Program} {n:Nat}
theorem Zq8 {x y:Code} {Q:AE→St→Prop} {st:St} (h:AWP P n x (AE.then (AWP P n y Q) Q) st):AWP P n (.seq x y) Q st:=λc a w imm hr=>by
 refine wp_seq (ZBv (λe a' w' hp=>?_) (h c a w imm hr));obtain⟨ae,st',imm',rfl,h2,h3⟩:=hp
 cases ae with
 | normal=>exact h2 c a' w' imm' h3
 | exit id=>exact⟨.exit id,st',imm',rfl,h2,h3⟩
 | ret=>exact⟨.ret,st',imm',rfl,h2,h3⟩
theorem Zs4 {o:Oper} {a:Act} {w w':World} {ops:Array Oper} {Qp:Exit→Act→World→Prop} {l:List Oper} {y:Value} (hg:o.guard=none) (hr:(execOp a.eval o).run P w=.ok (.value y) w') (h:wpList P ops Qp l (a.put o.dst y) w'):wpList P ops Qp (o :: l) a w:=by
 unfold wpList;rw [Zyk (by simp [Region.wanted,hg])];refine .inl ?_;unfold Oper.wp;rw [hr];exact h
theorem rebase {c:Cx} {e:Nat→AV} {a:Act} {w:World} {imm:Imm} (h:Rel c n ⟨e,Zac⟩ a w imm):Rel ⟨w.heap.size,w,imm,h.mem.tb.here⟩ n ⟨e,Zac⟩ a w imm :=
 ⟨h.env,h.size,h.defers,⟨⟨λk e hk=>by simp [Zac] at hk,λk k' e e' b hk=>by simp [Zac] at hk,h.mem.ok.lt,h.mem.ok.spot⟩,Blw.refl _ _,Zyp _,λ_ h1=>h1,λ_ h1=>.inl h1,λ_ _=>rfl⟩⟩
theorem unbase {c:Cx} {st':St} {a':Act} {w w':World} {imm imm':Imm} (hm:Mx c Zac w imm) (h:Rel ⟨w.heap.size,w,imm,hm.tb.here⟩ n st' a' w' imm') (h0:st'.mem=Zac):Rel c n st' a' w' imm':=by
 refine⟨h.env,h.size,h.defers,?_⟩;have hm':=h.mem;rw [h0] at hm' ⊢;exact⟨⟨λk e hk=>by simp [Zac] at hk,λk k' e e' b hk=>by simp [Zac] at hk,hm'.ok.lt,hm'.ok.spot⟩,hm.below.trans (hm'.below.mono hm.lt),Zyz hm.lt hm'.lt,λad h1=>hm'.old ad (hm.old ad h1),λad h1=>(hm'.new ad h1).elim (hm.new ad) (λh2=>.inr (Zyz hm.lt h2)),λad h1=>(hm'.cells ad (hm.old ad h1)).trans (hm.cells ad h1)⟩
structure ItS (c:Cx) (n:Nat) (s:ByteArray) (tI:Nat) (J:Nat→(Nat→AV)→Prop) (pos:Nat) (a:Act) (w:World):Prop where
 h:∃e imm g,Rel c n ⟨e,Zac⟩ a w imm∧w.heap[g]?=some (.stringIter s pos)∧c.B≤g∧(∀ad,imm ad→ad.block≠g)∧e tI=.v (.pointer (some ⟨g,0,none⟩))∧J pos e
theorem Zyc {s:ByteArray} {id1 id2 bid d1 tI d2 d3:Nat} {x:Operand} {ty1 ty2 ty3 ty4 tys:TypeId} {p1 p2 p3 p4:String} {f1 f2 f3 f4:Array Edge} {r2:Code} {Q:AE→St→Prop} {e:Nat→AV}
 (hx:St.ev ⟨e,Zac⟩ x=.v (.string s)) (hty:P.underlying tys=some .string) (h1:d1 < n) (hI:tI < n) (h2:d2 < n) (h3:d3 < n) (hne:tI≠d2) (hne3:tI≠d3) (hne1:d2≠d3) (hf:Zaw n r2=true)
 (J:Nat→(Nat→AV)→Prop) (h0:∀pv,J 0 (upd (upd e d1 (.v (.string s))) tI (.v pv)))
 (hstep:∀pos e pv,J pos e→e tI=.v pv→pos < s.size→Zav P 0 n r2 (AE.then (λst'=>st'.mem=Zac∧J (pos+(Utf8.decode s pos).2) st'.env∧st'.env tI=.v pv) λae st'=>st'.mem=Zac∧AE.inBlock bid Q ae st')
  ⟨upd (upd e d2 (.tup [.v (.bool true),.v (.int .i64 pos),.v (.int .i32 (Utf8.decode s pos).1)])) d3 (.v (.bool true)),Zac⟩)
 (hw:∀pos,pos < s.size→0 < (Utf8.decode s pos).2)
 (hend:∀pos e pv,J pos e→e tI=.v pv→¬pos < s.size→Zav P 0 n r2 (AE.then (λ_=>False) λae st'=>st'.mem=Zac∧AE.inBlock bid Q ae st')
  ⟨upd (upd e d2 (.tup [.v (.bool false)])) d3 (.v (.bool false)),Zac⟩) :
 AWP P n (.seq (.region id1 #[⟨some d1,.move x,ty1,p1,f1,none⟩,⟨some tI,.range tys (.tmp d1),ty2,p2,f2,none⟩] false)
  (.block bid (.loop (.seq (.region id2 #[⟨some d2,.next (.tmp tI) true,ty3,p3,f3,none⟩,⟨some d3,.extract (.tmp d2) 0,ty4,p4,f4,none⟩] false) r2)))) Q ⟨e,Zac⟩:=by
 intro c a w imm hr;refine wp_seq (wp_region_list ?_);have ex:=hr.ev x;rw [hx] at ex;have ex:=ex.v_inv;refine Zs4 rfl (y:=.string s) (w':=w) (by simp [execOp,ex]) ?_;have r1:=hr.step (dst:=some d1) (av:=.v (.string s)) (x:=.string s) (Keeps.refl w imm) hr.mem (λd hd=>by cases hd;exact h1) (.pure (.v _));have e1:=(r1.ev (.tmp d1))
 have e1:(a.put (some d1) (.string s)).eval (.tmp d1)=.string s:=by
  have h9:St.ev (St.put ⟨e,Zac⟩ (some d1) (.v (.string s))) (.tmp d1)=.v (.string s):=by simp [St.ev,St.put,Zal]
  rw [h9] at e1;exact e1.v_inv
 refine Zs4 rfl (y:=.pointer (some ⟨w.heap.size,0,none⟩)) (w':=w.iter s 0) (by
  simp only [execOp,e1];exact Zht (run_range_string w tys s hty)) ?_
 have hcell:∀ad,imm ad→(w.iter s 0).cell? ad=w.cell? ad:=λad h9=>ZCa w _ ad (hr.mem.ok.lt ad h9);have hm2:Mx c Zac (w.iter s 0) imm:=⟨⟨λk e hk=>by simp [Zac] at hk,λk k' e e' b hk=>by simp [Zac] at hk,λad h9=>ZAq (hr.mem.ok.lt ad h9) (ZCb w (.stringIter s 0) none).size,hr.mem.ok.spot⟩,
  hr.mem.below.grown (ZCb w (.stringIter s 0) none) (Zyp _) hr.mem.lt (λg hg=>by cases hg),Zyz hr.mem.lt (ZCb w (.stringIter s 0) none).size,hr.mem.old,hr.mem.new,λad h9=>(hcell ad (hr.mem.old ad h9)).trans (hr.mem.cells ad h9)⟩
 have r2':=r1.step (dst:=some tI) (av:=.v (.pointer (some ⟨w.heap.size,0,none⟩))) (x:=.pointer (some ⟨w.heap.size,0,none⟩)) (w':=w.iter s 0) (imm':=imm) (λad h9=>⟨h9,hcell ad h9⟩) hm2 (λd hd=>by cases hd;exact hI) (.pure (.v _));show(Code.block bid _).wp P (post c n Q) _ _;refine wp_block ?_;have start:ItS c n s tI J 0 ((a.put (some d1) (.string s)).put (some tI) (.pointer (some ⟨w.heap.size,0,none⟩))) (w.iter s 0) :=
  ⟨_,imm,w.heap.size,r2',World.iter_heap w s 0,hr.mem.lt,λad h9=>Nat.ne_of_lt (hr.mem.ok.lt ad h9),by simp [St.put,Zal],h0 _⟩
 generalize (a.put (some d1) (.string s)).put (some tI) (.pointer (some ⟨w.heap.size,0,none⟩))=a1 at start;generalize w.iter s 0=w1 at start;clear r2' r1 hm2 hcell e1 ex hr
 let Qp:Exit→Act→World→Prop:=Exit.inBlock bid (post c n Q)
 have lift:∀(ae:AE) (st':St) (a':Act) (w w':World) (imm imm':Imm) (hm:Mx c Zac w imm),Rel ⟨w.heap.size,w,imm,hm.tb.here⟩ n st' a' w' imm'→st'.mem=Zac→AE.inBlock bid Q ae st'→ae≠.normal→Qp ae.to a' w':=by
  intro ae st' a' w w' imm imm' hm hr h9 hq hn;have hr':=unbase hm hr h9
  cases ae with
  | normal=>exact absurd rfl hn
  | exit i =>
    show Exit.inBlock bid (post c n Q) (.exit i) a' w';simp only [AE.inBlock] at hq;by_cases hi:i=bid
    ·subst hi;rw [Zyk rfl] at hq;simp only [Exit.inBlock,Zzb];exact⟨.normal,st',imm',rfl,hq,hr'⟩
    ·rw [Zyj hi] at hq;simp only [Exit.inBlock,Zyj hi];exact⟨.exit i,st',imm',rfl,hq,hr'⟩
  | ret=>exact⟨.ret,st',imm',rfl,hq,hr'⟩
 have round:∀pos a w,ItS c n s tI J pos a w→(Code.seq (.region id2 #[⟨some d2,.next (.tmp tI) true,ty3,p3,f3,none⟩,⟨some d3,.extract (.tmp d2) 0,ty4,p4,f4,none⟩] false) r2).wp P
  (Exit.then (λa w=>∃pos',ItS c n s tI J pos' a w∧s.size - pos' < s.size - pos) Qp) a w:=by
  rintro pos a w ⟨e,imm,g,hr,hg,hB,hng,heI,hJ⟩
  have eI:=hr.ev (.tmp tI)
  have eI:a.eval (.tmp tI)=.pointer (some ⟨g,0,none⟩):=by
   rw [show St.ev ⟨e,Zac⟩ (.tmp tI)=_ from heI] at eI;exact eI.v_inv
  refine wp_seq (wp_region_list ?_);have glt:g < w.heap.size:=(Array.getElem?_eq_some_iff.1 hg).1;by_cases hp:pos < s.size
  ·refine Zs4 rfl (y:=.tuple #[.bool true,.int .i64 pos,.int .i32 (Utf8.decode s pos).1]) (w':=w.iterAt g s (pos+(Utf8.decode s pos).2)) (by
    simp only [execOp,eI];exact Zht (run_next_any_at w g s pos _ hg hp)) ?_
   have hgrow:w.grownBy (w.iterAt g s (pos+(Utf8.decode s pos).2)) (some g):=by
    refine⟨rfl,rfl,rfl,?_,λk hk hne=>?_⟩
    ·simp [World.iterAt]
    ·simp only [World.iterAt];rw [ZDh (λh9=>hne (by rw [h9]))]
   have hcell:∀ad,imm ad→(w.iterAt g s (pos+(Utf8.decode s pos).2)).cell? ad=w.cell? ad:=λad h9=>Zd0 hgrow (hr.mem.ok.lt ad h9) (λh8=>hng ad h9 (by cases h8;rfl));have hm2:Mx c Zac (w.iterAt g s (pos+(Utf8.decode s pos).2)) imm:=⟨⟨λk e hk=>by simp [Zac] at hk,λk k' e e' b hk=>by simp [Zac] at hk,λad h9=>ZAq (hr.mem.ok.lt ad h9) hgrow.size,hr.mem.ok.spot⟩,
    hr.mem.below.grown hgrow (Zyp _) hr.mem.lt (λg' hg'=>by cases hg';exact hB),Zyz hr.mem.lt hgrow.size,hr.mem.old,hr.mem.new,λad h9=>(hcell ad (hr.mem.old ad h9)).trans (hr.mem.cells ad h9)⟩
   have q1:=hr.step (dst:=some d2) (av:=.tup [.v (.bool true),.v (.int .i64 pos),.v (.int .i32 (Utf8.decode s pos).1)]) (x:=.tuple #[.bool true,.int .i64 pos,.int .i32 (Utf8.decode s pos).1]) (imm':=imm) (λad h9=>⟨h9,hcell ad h9⟩) hm2 (λd hd=>by cases hd;exact h2)
    (.pure (.tup _ _ rfl λj a x k1 k2=>by
     match j with
     | 0=>simp at k1 k2;subst k1;subst k2;exact .v _
     | 1=>simp at k1 k2;subst k1;subst k2;exact .v _
     | 2=>simp at k1 k2;subst k1;subst k2;exact .v _
     | j+3=>simp at k1))
   have v2:=q1.env d2
   have v2:(a.put (some d2) (.tuple #[.bool true,.int .i64 pos,.int .i32 (Utf8.decode s pos).1])).eval (.tmp d2)=.tuple #[.bool true,.int .i64 pos,.int .i32 (Utf8.decode s pos).1]:=by
    show(a.put (some d2) _).tmps.getD d2 undef=_;rw [Act.put_getD a d2 _ (by rw [hr.size];exact h2),Zyk rfl]
   refine Zs4 rfl (y:=.bool true) (w':=w.iterAt g s (pos+(Utf8.decode s pos).2)) (by
    simp only [execOp,v2];simp [Instr.extract]) ?_
   have q2:=q1.step (dst:=some d3) (av:=.v (.bool true)) (x:=.bool true) (Keeps.refl _ imm) hm2 (λd hd=>by cases hd;exact h3) (.pure (.v _));have hst:=hstep pos e _ hJ heI hp;have q3:=rebase q2;refine ZBv (λee a' w' hpost=>?_) (Za1 r2 _ _ hf hst _ _ _ _ q3);obtain⟨ae,st',imm',rfl,hq,hrel⟩:=hpost
   cases ae with
   | normal =>
     obtain⟨hm,hJ',hpv⟩:=hq;have hr':=unbase hm2 hrel hm;refine⟨pos+(Utf8.decode s pos).2,⟨st'.env,imm',g,?_,?_,hB,λad h9=>?_,hpv,hJ'⟩,by have:=hw pos hp;omega⟩
     ·obtain⟨en,me⟩:=st';simp only at hm;subst hm;exact hr'
     ·rw [hrel.mem.below.block g (ZAq glt hgrow.size)];exact iterAt_heap w g s pos _ hg
     ·rcases hrel.mem.new ad h9 with h8 | h8
      ·exact hng ad h8
      ·have:(w.iterAt g s (pos+(Utf8.decode s pos).2)).heap.size≤ad.block:=h8;have:=hgrow.size;omega
   | exit i=>exact lift (.exit i) st' a' _ w' imm imm' hm2 hrel hq.1 hq.2 zs
   | ret=>exact lift .ret st' a' _ w' imm imm' hm2 hrel hq.1 hq.2 zs
  ·refine Zs4 rfl (y:=.tuple #[.bool false]) (w':=w) (by
    simp only [execOp,eI];exact Zht (run_next_end_at w g s pos _ hg hp)) ?_
   have q1:=hr.step (dst:=some d2) (av:=.tup [.v (.bool false)]) (x:=.tuple #[.bool false]) (Keeps.refl w imm) hr.mem (λd hd=>by cases hd;exact h2)
    (.pure (.tup _ _ rfl λj a x k1 k2=>by
     match j with
     | 0=>simp at k1 k2;subst k1;subst k2;exact .v _
     | j+1=>simp at k1))
   have v2:(a.put (some d2) (.tuple #[.bool false])).eval (.tmp d2)=.tuple #[.bool false]:=by
    show(a.put (some d2) _).tmps.getD d2 undef=_;rw [Act.put_getD a d2 _ (by rw [hr.size];exact h2),Zyk rfl]
   refine Zs4 rfl (y:=.bool false) (w':=w) (by
    simp only [execOp,v2];simp [Instr.extract]) ?_
   have q2:=q1.step (dst:=some d3) (av:=.v (.bool false)) (x:=.bool false) (Keeps.refl _ imm) hr.mem (λd hd=>by cases hd;exact h3) (.pure (.v _));have hst:=hend pos e _ hJ heI hp;have q3:=rebase q2;refine ZBv (λee a' w' hpost=>?_) (Za1 r2 _ _ hf hst _ _ _ _ q3);obtain⟨ae,st',imm',rfl,hq,hrel⟩:=hpost
   cases ae with
   | normal=>exact hq.elim
   | exit i=>exact lift (.exit i) st' a' _ w' imm imm' hr.mem hrel hq.1 hq.2 zs
   | ret=>exact lift .ret st' a' _ w' imm imm' hr.mem hrel hq.1 hq.2 zs
 intro b k cs;have key:∀m pos a w,s.size - pos=m→ItS c n s tI J pos a w →
  ∃ee a' w',Qp ee a' w'∧Arrives P (lone (b.at a (.code (Code.seq (.region id2 #[⟨some d2,.next (.tmp tI) true,ty3,p3,f3,none⟩,⟨some d3,.extract (.tmp d2) 0,ty4,p4,f4,none⟩] false) r2) :: .inLoop (Code.seq (.region id2 #[⟨some d2,.next (.tmp tI) true,ty3,p3,f3,none⟩,⟨some d3,.extract (.tmp d2) 0,ty4,p4,f4,none⟩] false) r2) :: k)) cs w) b k cs ee a' w':=by
  intro m
  induction m using Nat.strongRecOn with
  | _ m ih =>
    intro pos a w hm hI';obtain⟨ee,a₁,w₁,hq,harr⟩:=round pos a w hI' b (.inLoop _ :: k) cs
    cases ee with
    | normal =>
      obtain⟨pos',h8,h9⟩:=hq;obtain⟨e₂,a₂,w₂,hq₂,harr₂⟩:=ih (s.size - pos') (hm ▸ h9) pos' a₁ w₁ rfl h8;exact⟨e₂,a₂,w₂,hq₂,.of_steps (Steps.trans harr (.one step_inLoop)) harr₂⟩
    | exit id=>exact⟨.exit id,a₁,w₁,hq,.pass (x:=.inLoop _) rfl (λ_ _=>.inl zs) harr⟩
    | goto l=>exact⟨.goto l,a₁,w₁,hq,.pass (x:=.inLoop _) rfl (λ_ _=>.inl zs) harr⟩
    | ret=>exact⟨.ret,a₁,w₁,hq,.pass (x:=.inLoop _) rfl (λ_ _=>.inl zs) harr⟩
    | panic ch=>exact⟨.panic ch,a₁,w₁,hq,.pass (x:=.inLoop _) rfl (λ_ _=>.inl zs) harr⟩
    | outgrown=>exact⟨.outgrown,a₁,w₁,hq,.pass (x:=.inLoop _) rfl (λ_ _=>.inl zs) harr⟩
 obtain⟨ee,a',w',hq,harr⟩:=key _ 0 a1 w1 rfl start;exact⟨ee,a',w',hq,.of_steps (.one step_loop) harr⟩
theorem Zqb {f:FuncId} {fn:Func} {code:Code} {rs:List ResultVar} {args:List AV} {r:AV} (hf:P.funcs[f]?=some fn) (hb:fn.body=some code) (hn:fn.ntmps=n) (hrs:fn.results=rs.toArray)
 (hc:∀(vs:Array Value) (w:World),(callFunc f vs).run P w=.ok (.enter f vs) w) (hal:args.length≤n)
 (h:AWP P n code (Done P rs λst=>Zlv st r) ⟨λt=>args.getD t .u,Zac⟩):Pure P f args r:=by
 refine⟨hc,λw imm vs himm hl hr=>?_⟩;refine calls_of_wp hf hb ?_
 let c:Cx:=⟨w.heap.size,w,imm,himm.tb.here⟩
 have hrel:Rel c n ⟨λt=>args.getD t .u,Zac⟩ { tmps:=vs++Array.replicate (fn.ntmps - vs.size) undef,defers:=[] } w imm:=by
  refine⟨λt=>?_,by simp [hn];omega,rfl,⟨⟨λk e hk=>by simp [Zac] at hk,λk k' e e' b hk=>by simp [Zac] at hk,λad h1=>(himm.at_ ad h1).1,λad h1=>(himm.at_ ad h1).2⟩,Blw.refl _ _,Zyp _,λ_ h1=>h1,λ_ h1=>.inl h1,λ_ _=>rfl⟩⟩;simp only [Zyu];rcases Zy5 t args.length with ht | ht
  ·have ht2:t < vs.size:=zo;rw [Zym ht,ZAi,ZB5 ht2,Zzl ht2];exact .pure (hr t _ _ (Zym ht) (Zzl ht2))
  ·rw [Zz1 ht];exact .pure (.u _)
 refine ZBv (λe a' w' hp=>?_) (h c _ w imm hrel);obtain⟨ae,st',imm',rfl,hdone,hrel'⟩:=hp;have hret:=Zni hdone;have hae:∀id,ae≠.exit id:=by rintro id rfl;exact hdone
 obtain⟨y,b,hrun,⟨hpo,hpv⟩,hrs'⟩:=Zmo hrs hrel' hret;obtain⟨i2,hm2,hk2⟩:=Zc1 b.toks hrel'.mem;have hrd:=Zgc hm2 (hk2.rs hrs') hpo;rw [hpv] at hrd;have fin:a'.defers=[]∧∃v,(results fn a'.tmps).run P w'=.ok v w'∧(λe w'=>∃x imm',e=Ending.returned x∧Rd w' imm' r x∧(∀ad,imm ad→imm' ad)∧(∀ad,imm' ad→(imm ad∨w.heap.size≤ad.block)∧ad.block < w'.heap.size∧ad.spot=none)∧Blw w.heap.size w w') (Ending.returned v) w' :=
  ⟨hrel'.defers,y,hrun,y,i2,rfl,hrd,hm2.old,λad h1=>⟨hm2.new ad h1,hm2.ok.lt ad h1,hm2.ok.spot ad h1⟩,hm2.below⟩
 cases ae with
 | normal=>exact fin
 | ret=>exact fin
 | exit id=>exact absurd rfl (hae id)
theorem Zt9 (s:ByteArray) (i:Nat):0 < (Utf8.decode s i).2:=by
 unfold Utf8.decode;simp only
 repeat' split
 all_goals simp
end
end Go.Pg
namespace Go.Proofs.YtjbjejmmnbdbiaaGreat
open Go Go.RowKit Go.Pg Go.Proofs.Tryz
attribute [-bool_to_prop] Bool.and_eq_decide Bool.or_eq_decide Bool.decide_beq_decide decide_eq_decide
attribute [go_sem] underlying135 zStr
attribute [local go_sem] Zbp Zbu
def kwL:List ByteArray:=[
 ⟨#[97,110,103,108,101]⟩,
 ⟨#[97,112,101,120]⟩,
 ⟨#[98,105,115,101,99,116,111,114]⟩,
 ⟨#[99,101,110,116,101,114]⟩,
 ⟨#[99,105,114,99,108,101]⟩,
 ⟨#[99,105,114,99,117,109]⟩,
 ⟨#[99,111,108,108,105,110,101,97,114]⟩,
 ⟨#[99,111,109,109,111,110]⟩,
 ⟨#[99,111,110,99,121,99,108,105,99]⟩,
 ⟨#[99,111,110,103,114,117,101,110,116]⟩,
 ⟨#[99,114,111,115,115]⟩,
 ⟨#[99,117,116]⟩,
 ⟨#[100,105,118,105,100,101]⟩,
 ⟨#[102,111,111,116]⟩,
 ⟨#[108,105,110,101]⟩,
 ⟨#[109,101,101,116]⟩,
 ⟨#[109,105,100,112,111,105,110,116]⟩,
 ⟨#[109,105,114,114,111,114]⟩,
 ⟨#[111,110]⟩,
 ⟨#[111,116,104,101,114]⟩,
 ⟨#[112,97,114,97,108,108,101,108]⟩,
 ⟨#[112,101,114,112,101,110,100,105,99,117,108,97,114]⟩,
 ⟨#[112,111,105,110,116,115]⟩,
 ⟨#[112,114,111,118,101]⟩,
 ⟨#[114,97,116,105,111]⟩,
 ⟨#[114,101,102,108,101,99,116]⟩,
 ⟨#[115,97,109,101]⟩,
 ⟨#[115,104,105,102,116]⟩,
 ⟨#[116,117,114,110]⟩]
def letB (c:Nat):Bool:=decide (97≤c∧c≤122) || decide (65≤c∧c≤90)
def digB (c:Nat):Bool:=decide (48≤c∧c≤57)
def gB (s:ByteArray) (k:Nat):Nat:=(s.data.toList.getD k 0).toNat
theorem Zjl (s:ByteArray) (k:Nat):gB s k < 256:=UInt8.toNat_lt _
def namB (s:ByteArray):Bool:=decide (0 < s.size∧s.size≤20) && (letB (gB s 0) && ((List.range s.size).all (λk=>letB (gB s k) || digB (gB s k)) && !(kwL.any λw=>w.toList == s.toList)))
theorem Zir (s:ByteArray):(s.toList == (⟨#[]⟩:ByteArray).toList)=decide (s.size=0):=by
 rw [ByteArray.toList_eq,ByteArray.toList_eq,Zzg,ZAn,Zzi];constructor
 ·intro h;have:=congrArg List.length h;exact this
 ·intro h;exact List.length_eq_zero_iff.1 h
theorem Ziw (s:ByteArray) (k:Nat):((s.data.toList.getD k 0).toNat:Int)=(gB s k:Int):=rfl
theorem Ziy (s:ByteArray):∀n,n≤s.size→∃k,k≤n∧(∀j,j < k→(letB (gB s j) || digB (gB s j))=true)∧(k < n→(letB (gB s k) || digB (gB s k))=false)
 | 0,_=>⟨0,zo,λj h=>zo,λh=>zo⟩
 | n+1,h=>by
   obtain⟨k,h1,h2,h3⟩:=Ziy s n zo;by_cases hk:k < n
   ·exact⟨k,zo,h2,λ_=>h3 hk⟩
   ·have:k=n:=zo;subst this
    cases hb:(letB (gB s k) || digB (gB s k)) with
    | true=>exact⟨k+1,zo,λj hj=>by by_cases e:j=k;rw [e];exact hb;exact h2 j zo,λh=>zo⟩
    | false=>exact⟨k,zo,h2,λ_=>hb⟩
def kinB (c:Nat):Int:=if c=32∨c=9∨c=13∨c=10 then 1 else if letB c=true then 2 else if digB c=true then 3 else if c=40∨c=41∨c=44∨c=59∨c=47∨c=45 then 4 else if c=58 then 5 else if c=35 then 6 else 0
theorem Zsf (c:Nat):kinB c=2↔letB c=true:=by
 unfold kinB letB;simp only [ZAc,Zzi]
 repeat' split
 all_goals omega
theorem kinB_dig (c:Nat):kinB c=3↔digB c=true:=by
 unfold kinB letB digB;simp only [ZAc,Zzi]
 repeat' split
 all_goals omega
theorem nmKind (c:Nat) (hc:c < 256):Pure prog 162 [.v (.int .u8 (c:Int))] (iv (kinB c)):=by
 unfold kinB letB digB;simp only [ZAc,Zzi];refine pI func162 rfl ntmps162 results162 call162 ?_;(focus (refine wklp w_t w_t w_t (w_r 0) ?_;(repeat' first|exact w_t|apply w_l);all_goals intros));all_goals (congr 2;repeat' split)
 all_goals (first|rfl|omega)
theorem nmEnd (s:ByteArray) (hs:s.size≤9223372036854775807):∃n:Nat,Pure prog 163 [strA s,iv 0,.v (.bool true)] (iv n)∧n≤s.size∧(n=s.size↔(List.range s.size).all (λk=>letB (gB s k) || digB (gB s k))=true):=by
 obtain⟨n,h1,h2,h3⟩:=Ziy s s.size (Zyp _);refine⟨n,?_,h1,?_⟩
 ·refine pI func163 rfl ntmps163 results163 call163 ?_;(focus (refine wkap w_t w_t (w_r 0) ?_;(repeat' first|exact w_t|apply w_l);all_goals intros));refine Zab (ι:=Nat) (λi e m=>i≤n∧e 0=strA s∧e 1=iv i∧e 2=.v (.bool true)) (λi=>n - i) 0 zr ?_ ?_
  ·rintro i e m ⟨hi,e0,e1,e2⟩
   have hk:=nmKind (gB s i) (Zjl s i);have kl:=Zsf (gB s i);have kd:=kinB_dig (gB s i);by_cases hlt:i < n
   ·have hb:=h2 i hlt;rw [ZAc,←kl,←kd] at hb;clear kl kd;have hg:=Ziw s i;generalize kinB (gB s i)=x at *;rcases hb with hb | hb
    ·subst hb;(focus (refine wkap (w_4 e0 e1 e2 hg) (w_1 hk) (w_r 0) ?_;(repeat' first|exact w_t|apply w_l);all_goals intros));exact⟨i+1,⟨zo,gW e0,gS,gW e2⟩,zo⟩
    ·subst hb;(focus (refine wkap (w_4 e0 e1 e2 hg) (w_1 hk) (w_r 0) ?_;(repeat' first|exact w_t|apply w_l);all_goals intros));exact⟨i+1,⟨zo,gW e0,gS,gW e2⟩,zo⟩
   ·have hin:i=n:=zo;subst hin;by_cases hsz:i < s.size
    ·have hb:=h3 hsz;rw [ZBw] at hb;have b1:kinB (gB s i)≠2:=λh=>by rw [kl.1 h] at hb;exact absurd hb.1 zd
     have b2:kinB (gB s i)≠3:=λh=>by rw [kd.1 h] at hb;exact absurd hb.2 zd
     clear kl kd;have hg:=Ziw s i;generalize kinB (gB s i)=x at *;(focus (refine wklp (w_4 e0 e1 e2 hg) (w_1 hk) w_t (w_r 0) ?_;(repeat' first|exact w_t|apply w_l);all_goals intros))
    ·(focus (refine wklp (w_3 e0 e1 e2) w_t w_t (w_r 0) ?_;(repeat' first|exact w_t|apply w_l);all_goals intros))
  ·exact⟨Zyv _,gC,gC,gC⟩
 ·rw [ZA3];constructor
  ·intro h x hx;exact h2 x (by rw [h];exact List.mem_range.1 hx)
  ·intro h;rcases Zy5 n s.size with h4 | h4
   ·have:=h n (List.mem_range.2 h4);rw [h3 h4] at this;cases this
   ·omega
theorem nmKeys:Pure prog 164 [] (.sl 1 (kwL.map strA)):=by
 unfold kwL;refine pI func164 rfl ntmps164 results164 call164 ?_;(focus (refine wklp w_t w_t w_t (w_r 0) ?_;(repeat' first|exact w_t|apply w_l);all_goals intros))
theorem rnKeys:Pure prog 113 [] (.sl 1 (kwL.map strA)):=by
 unfold kwL;refine pI func113 rfl ntmps113 results113 call113 ?_;exact wklp w_t w_t w_t (w_r 0) w_z
theorem Zh9 (c:Nat) (hc:c < 256):Pure prog 111 [.v (.int .u8 (c:Int))] (.v (.bool (letB c))):=by
 unfold letB;refine pI func111 rfl ntmps111 results111 call111 ?_;exact wklp w_t w_t w_t (w_r 0) w_z
theorem Zp5 (c:Nat) (hc:c < 256):Pure prog 112 [.v (.int .u8 (c:Int))] (.v (.bool (digB c))):=by
 unfold digB;refine pI func112 rfl ntmps112 results112 call112 ?_;exact wklp w_t w_t w_t (w_r 0) w_z
end Go.Proofs.YtjbjejmmnbdbiaaGreat
