/- Contracts of the functions that the law reaches, and the rules by which they are walked. They say what a call hands back for every input within the bounds that each names; no other condition. -/
import Derived.Test.YtkefeinbjbeidaaGreatDoorBm5
import Derived.Lib.Builder
import Derived.Lib.UnsafeStr
import Derived.Laws.Externs
import Derived.Shelf.RegionOpenPlain
set_option linter.unusedSimpArgs false
set_option linter.unusedVariables false
set_option maxRecDepth 20000
set_option maxHeartbeats 16000000
namespace Go.Proofs.YtkefeinbjbeidaaGreatDoor
open Go Go.RowKit Go.Pg Go.Proofs.Tryz
attribute [-bool_to_prop] Bool.and_eq_decide Bool.or_eq_decide Bool.decide_beq_decide decide_eq_decide
inductive Vk:AV→AV→Prop
 | refl (a:AV):Vk a a
 | nil (m:Nat):Vk (.v (.slice none 0 0)) (.sl m [])
 | agg (xs ys:List AV) (hl:xs.length=ys.length) (h:∀(j:Nat) (a b:AV),xs[j]?=some a→ys[j]?=some b→Vk a b):Vk (.agg xs) (.agg ys)
 | tup (xs ys:List AV) (hl:xs.length=ys.length) (h:∀(j:Nat) (a b:AV),xs[j]?=some a→ys[j]?=some b→Vk a b):Vk (.tup xs) (.tup ys)
 | sl (m:Nat) (es es':List AV) (hl:es.length=es'.length) (hm:∀e∈es',e.cells.length=m) (hok:∀e∈es',e.ok=true) (hf:(flat es).length=(flat es').length) (h:∀(j:Nat) (a b:AV),(flat es)[j]?=some a→(flat es')[j]?=some b→Vk a b):Vk (.sl m es) (.sl m es')
theorem Vk.rd {w:World} {imm:Imm} {a b:AV} (h:Vk a b):∀{x:Value},Rd w imm a x→Rd w imm b x:=by
 induction h with
 | refl a=>exact λh=>h
 | nil m =>
   intro x h;cases h;exact .sl m [] none 0 (λ_=>undef) zs zs (ZBn _) zs zs (by simp [flat])
 | agg xs ys hl _ ih =>
   intro x h
   cases h with
   | agg _ vs hl2 hr =>
     refine .agg ys vs zo λj b x h1 h2=>?_;have hj:j < xs.length:=by rw [hl];exact(List.getElem?_eq_some_iff.1 h1).1
     exact ih j xs[j] b (ZBx hj) h1 (hr j xs[j] x (ZBx hj) h2)
 | tup xs ys hl _ ih =>
   intro x h
   cases h with
   | tup _ vs hl2 hr =>
     refine .tup ys vs zo λj b x h1 h2=>?_;have hj:j < xs.length:=by rw [hl];exact(List.getElem?_eq_some_iff.1 h1).1
     exact ih j xs[j] b (ZBx hj) h1 (hr j xs[j] x (ZBx hj) h2)
 | sl m es es' hl hm hok hf _ ih =>
   intro x h;obtain⟨A,cap,f,rfl,hcap,_,_,hn,hA,hr⟩:=(Rs.pure h).sl_inv;rw [hl];refine .sl m es' A cap f hm hok zo (λh=>hn zo) (λj hj=>hA j (by rw [hl];exact hj)) λj b hb=>?_;have hj:j < (flat es).length:=by rw [hf];exact(List.getElem?_eq_some_iff.1 hb).1
   exact ih j _ b (ZBx hj) hb (hr j _ (ZBx hj))
def VkL (xs ys:List AV):Prop:=xs.length=ys.length∧∀(j:Nat) (a b:AV),xs[j]?=some a→ys[j]?=some b→Vk a b
theorem VkL.nil:VkL [] []:=⟨rfl,λj a b h=>by simp at h⟩
theorem VkL.cons {a b:AV} {xs ys:List AV} (h:Vk a b) (t:VkL xs ys):VkL (a :: xs) (b :: ys):=by
 refine⟨by simp [t.1],λj x y h1 h2=>?_⟩
 cases j with
 | zero=>simp at h1 h2;subst h1;subst h2;exact h
 | succ j=>exact t.2 j x y (by simpa using h1) (by simpa using h2)
theorem VkL.refl (xs:List AV):VkL xs xs:=⟨rfl,λj a b h1 h2=>by rw [h1] at h2;cases h2;exact .refl _⟩
theorem Vk.aggL {xs ys:List AV} (h:VkL xs ys):Vk (.agg xs) (.agg ys):=.agg xs ys h.1 h.2
theorem Vk.tupL {xs ys:List AV} (h:VkL xs ys):Vk (.tup xs) (.tup ys):=.tup xs ys h.1 h.2
theorem Vk.slL {m:Nat} {es es':List AV} (hl:es.length=es'.length) (hm:∀e∈es',e.cells.length=m) (hok:∀e∈es',e.ok=true) (h:VkL (flat es) (flat es')):Vk (.sl m es) (.sl m es'):=.sl m es es' hl hm hok h.1 h.2
theorem Zx2 {P:Program} {f:FuncId} {args args':List AV} {r r':AV} (h:Pure P f args' r) (ha:VkL args args') (hw:Vk r r'):Pure P f args r':=by
 refine⟨h.1,λw imm vs h1 h2 h3=>(h.2 w imm vs h1 (by rw [←ha.1];exact h2) λj b x e1 e2=>?_).mono λe w' he=>?_⟩
 ·have hj:j < args.length:=by rw [ha.1];exact(List.getElem?_eq_some_iff.1 e1).1
  exact(ha.2 j args[j] b (ZBx hj) e1).rd (h3 j args[j] x (ZBx hj) e2)
 ·obtain⟨x,imm',e1,e2,e3⟩:=he;exact⟨x,imm',e1,hw.rd e2,e3⟩
theorem Zf8 {P:Program} {f:FuncId} {args args':List AV} {r:AV} (h:Pure P f args' r) (ha:VkL args args'):Pure P f args r:=Zx2 h ha (.refl _)
theorem Zhj {P:Program} {f:FuncId} {args:List AV} {r r':AV} (h:Pure P f args r) (hw:Vk r r'):Pure P f args r':=Zx2 h (.refl _) hw
theorem Ziv (n m:Nat):(toL (n*m)).length≤(toL n).length+(toL m).length:=by
 rw [Zaf,ZC0];exact Nat.mul_lt_mul'' (Zaf.1 (ZBn _)) (Zaf.1 (ZBn _))
theorem Zy6 (n m:Nat):(toL (n+m)).length≤max ((toL n).length) ((toL m).length)+1:=by
 rw [Zaf,ZCz];have h1:=Zaf.1 (Nat.le_max_left ((toL n).length) ((toL m).length));have h2:=Zaf.1 (Nat.le_max_right ((toL n).length) ((toL m).length));generalize 65536 ^ max ((toL n).length) ((toL m).length)=p at *;omega
theorem Zed {n m:Nat} (h:n≤m):(toL n).length≤(toL m).length:=Za4 h
theorem Zfs:(toL 1).length=1:=by rw [Zer zo];simp [Zaz]
theorem Zqo:toL 1=[1]:=by rw [Zer zo];simp [Zaz]
abbrev ratQ (q:Rat):AV:=.agg [.v (.bool (decide (q.num < 0))),lim (toL q.num.natAbs),lim (toL q.den)]
abbrev ratA (s:Bool) (n d:Nat):AV:=.agg [.v (.bool s),lim (toL n),lim (toL d)]
def Sz (q:Rat) (k:Nat):Prop:=(toL q.num.natAbs).length≤k∧(toL q.den).length≤k
theorem Sz.mono {q:Rat} {k j:Nat} (h:Sz q k) (hk:k≤j):Sz q j:=⟨ZBs h.1 hk,ZBs h.2 hk⟩
theorem Zrc (z:Int) (m:Nat) (hm:m≠0):ratQ (mkRat z m)=.agg [.v (.bool (decide (z < 0))),lim (toL (z.natAbs/Nat.gcd z.natAbs m)),lim (toL (m/Nat.gcd z.natAbs m))]:=by
 unfold ratQ;rw [Rat.num_mkRat,Rat.den_mkRat,ZBl hm,ZBl hm,ZFv m z.natAbs];have hg:0 < Nat.gcd z.natAbs m:=ZG4 _ zo;have hd:((Nat.gcd z.natAbs m:Nat):Int) ∣ z:=Int.ofNat_dvd_left.2 (Nat.gcd_dvd_left _ _);generalize Nat.gcd z.natAbs m=g at *;obtain⟨k,hk⟩:=hd;have hgz:(g:Int)≠0:=zo;have e1:z/(g:Int)=k:=by rw [hk,ZG5 _ hgz]
 have e2:z.natAbs/g=k.natAbs:=by rw [hk,ZEe,ZEm,Nat.mul_div_cancel_left _ hg]
 have e3:(z < 0)↔(k < 0):=by
  rw [hk];constructor
  ·intro h;rcases (by omega:k < 0∨0≤k) with h1 | h1
   ·exact h1
   ·have:=Int.mul_nonneg (show(0:Int)≤g by omega) h1;omega
  ·intro h;exact Int.mul_neg_of_pos_of_neg zo h
 rw [e1,e2];simp only [e3]
theorem Sz.mk {z:Int} {m k:Nat} (hz:(toL z.natAbs).length≤k) (hm:(toL m).length≤k) (hk:1≤k):Sz (mkRat z m) k:=by
 unfold Sz;rw [Rat.num_mkRat,Rat.den_mkRat];by_cases h:m=0
 ·rw [ZBm h,ZBm h];refine⟨?_,by rw [Zfs];exact hk⟩;show(toL 0).length≤k;rw [Zaz];simp
 ·rw [ZBl h,ZBl h];refine⟨ZBs (Zed ?_) hz,ZBs (Zed (ZFu _ _)) hm⟩;have hd:((Nat.gcd m z.natAbs:Nat):Int) ∣ z:=Int.ofNat_dvd_left.2 (Nat.gcd_dvd_right _ _);have hg:0 < Nat.gcd m z.natAbs:=Nat.gcd_pos_of_pos_left _ zo;generalize Nat.gcd m z.natAbs=g at *;obtain⟨c,hc⟩:=hd;rw [hc,ZG5 _ zo,ZEe,ZEm];exact ZG6 _ hg
theorem Zgc (a b:Int):(a+b).natAbs≤a.natAbs+b.natAbs:=zo
theorem Sz.pos {q:Rat} {k:Nat} (h:Sz q k):1≤k:=by
 have h1:=Zbc.2 q.den_pos;have h2:=h.2;omega
theorem Zkf (a b:Rat) {j k:Nat} (ha:Sz a j) (hb:Sz b k):(toL (a.num*b.den).natAbs).length≤j+k:=by
 rw [ZEe,ZEm];exact ZBs (Ziv _ _) (ZCx ha.1 hb.2)
theorem Sz.mul {a b:Rat} {j k:Nat} (ha:Sz a j) (hb:Sz b k):Sz (a*b) (j+k):=by
 rw [Rat.mul_def'];refine Sz.mk ?_ (ZBs (Ziv _ _) (ZCx ha.2 hb.2)) (by have:=ha.pos;omega);rw [ZEe];exact ZBs (Ziv _ _) (ZCx ha.1 hb.1)
theorem Sz.add {a b:Rat} {j k:Nat} (ha:Sz a j) (hb:Sz b k):Sz (a+b) (j+k+1):=by
 rw [Rat.add_def'];refine Sz.mk ?_ (ZBs (Ziv _ _) (by have:=ha.2;have:=hb.2;omega)) zo;have h1:=Zkf a b ha hb;have h2:=Zkf b a hb ha;have h3:=Zed (Zgc (a.num*b.den) (b.num*a.den));have h4:=Zy6 (a.num*b.den).natAbs (b.num*a.den).natAbs;omega
theorem Sz.neg {a:Rat} {j:Nat} (ha:Sz a j):Sz (-a) j:=by
 unfold Sz;rw [Rat.neg_num,Rat.neg_den,ZGl];exact ha
theorem Sz.sub {a b:Rat} {j k:Nat} (ha:Sz a j) (hb:Sz b k):Sz (a - b) (j+k+1):=by
 rw [Rat.sub_eq_add_neg];exact ha.add hb.neg
theorem Sz.inv {a:Rat} {j:Nat} (ha:Sz a j):Sz (a⁻¹) j:=by
 unfold Sz;rw [Rat.num_inv,Rat.den_inv];by_cases h:a.num=0
 ·rw [ZBm h,h];refine⟨?_,by rw [Zfs];exact ha.pos⟩;have:(Int.sign 0*(a.den:Int)).natAbs=0:=by simp
  rw [this];show(toL 0).length≤j;rw [Zaz];simp
 ·rw [ZBl h];refine⟨?_,ha.1⟩;rw [ZEe,ZEm,Int.natAbs_sign_of_ne_zero h,ZDn];exact ha.2
theorem Sz.int {z:Int} {k:Nat} (h:(toL z.natAbs).length≤k) (hk:1≤k):Sz (z:Rat) k:=⟨h,by show(toL 1).length≤k;rw [Zfs];exact hk⟩
def cmpQ (a b:Rat):Int:=if a < b then -1 else if b < a then 1 else 0
theorem cmpQ_z (a b:Rat):cmpQ a b=cmpZ (a.num*b.den) (b.num*a.den):=by
 unfold cmpQ cmpZ;simp only [Rat.lt_iff]
theorem iMul (z w:Int) (hz:(toL z.natAbs).length≤100000000) (hw:(toL w.natAbs).length≤100000000):Pure prog 94 [intZ z,intZ w] (intZ (z*w)):=by
 have:=Zt3 (decide (z < 0)) (decide (w < 0)) z.natAbs w.natAbs hz hw
 rwa [Zdh,Zdh] at this
theorem iMulN (z:Int) (d:Nat) (hz:(toL z.natAbs).length≤100000000) (hw:(toL d).length≤100000000):Pure prog 94 [intZ z,intA false d] (intZ (z*d)):=by
 have:=Zt3 (decide (z < 0)) false z.natAbs d hz hw;rw [Zdh] at this;exact this
theorem iAddA (z:Int) (t:Bool) (m:Nat) (hz:(toL z.natAbs).length≤100000000) (hm:(toL m).length≤100000000):Pure prog 160 [intZ z,intA t m] (intZ (z+zI t m)):=by
 have:=intAdd (decide (z < 0)) t z.natAbs m hz hm
 rwa [Zdh] at this
theorem iAdd0 (t:Bool) (m:Nat) (hm:(toL m).length≤100000000):Pure prog 160 [.agg [.v (.bool false),.v (.slice none 0 0)],intA t m] (intZ (zI t m)):=by
 have h:=iAddA 0 t m (by show(toL 0).length≤_;rw [Zaz];simp) hm;rw [ZB3] at h;refine Zf8 h (.cons (.aggL (.cons (.refl _) (.cons ?_ .nil))) (.cons (.refl _) .nil));show Vk _ (.sl 1 (u16s (toL 0)));rw [Zaz];exact .nil 1
theorem iCmp (z w:Int) (hz:(toL z.natAbs).length≤100000000) (hw:(toL w.natAbs).length≤100000000):Pure prog 247 [intZ z,intZ w] (.v (.int .i64 (cmpZ z w))):=by
 have:=intCmp (decide (z < 0)) (decide (w < 0)) z.natAbs w.natAbs hz hw
 rwa [Zdh,Zdh] at this
theorem iSign (z:Int) (hz:(toL z.natAbs).length≤100000000):Pure prog 54 [intZ z] (.v (.int .i64 z.sign)):=by
 have:=Zr3 (decide (z < 0)) z.natAbs hz
 rwa [Zdh] at this
def sumC (z w:Int):Nat→List AV
 | 0=>[.v (.bool false),.v (.slice none 0 0)]
 | 1=>[.v (.bool (decide (z < 0))),lim (toL z.natAbs)]
 | _=>[.v (.bool (decide (z+w < 0))),lim (toL (z+w).natAbs)]
theorem Zwq (x:Nat) (l:List Nat):u16s (x :: l)=AV.v (.int .u16 (x:Int)) :: u16s l:=rfl
theorem Zw0:szOf prog 192=some 2:=by kernel_rfl
theorem zShape:Zan prog 192=some (.agg #[.int .i64 0,.int .u16 0]):=by kernel_rfl
theorem Zz4:eqTy prog 192=true:=by kernel_rfl
theorem Zlg (n:Nat) (h:n < 65536):Sz (n:Rat) 1:=⟨Zaf.2 (by show((n:Int)).natAbs < _;simpa using h),Zaf.2 (by show 1 < 65536 ^ 1;decide)⟩
attribute [go_sem] zShape underlying193
attribute [local go_sem] Zat Zau Zaq Zw0 Zz4
theorem intOf (n:Nat) (hn:n < 9223372036854775808):Pure prog 67 [.v (.int .i64 (n:Int))] (intA false n):=by
 have l4:(toL n).length≤4:=Zaf.2 zo;have hm:=Zji false n zo;rw [Zg2,ZC1] at hm;refine pI func67 rfl ntmps67 results67 call67 ?_
 (refine wkvp w_t (w_2 (natOf n zo) hm) (w_s ?_);intros)
 simp (disch:=omega) only [go_sem]
theorem Zrb:Pure prog 68 [] (lim (toL 1)):=by
 rw [Zqo];refine pI func68 rfl ntmps68 results68 call68 ?_
 (refine wkvp w_t w_t (w_s ?_);intros)
 exact gC
theorem Zkb (n:Nat):Pure prog 98 [lim (toL n)] (intA false n):=by
 refine pI func98 rfl ntmps98 results98 call98 ?_
 (refine wkvp w_t w_t (w_s ?_);intros)
 simp (disch:=omega) only [go_sem]
theorem Zk5 (n:Nat) (hn:(toL n).length≤100000000):Pure prog 96 [lim (toL n)] (.v (.bool (decide (n=1)))):=by
 by_cases h0:n=0
 ·subst h0;rw [Zaz];refine pI func96 rfl ntmps96 results96 call96 ?_
  (refine wkvp w_t w_t (w_s ?_);intros)
  simp (disch:=omega) only [go_sem,ZBz]
 ·have hd:decide (n=1)=(((((toL (n/65536)).length+1:Nat):Int) == 1) && (((n%65536:Nat):Int) == 1)):=by
   have hp:=@Zbc (n/65536);rw [ZCh];simp only [ZCj,ZCd,ZDw];omega
  rw [Zer zo,hd];refine pI func96 rfl ntmps96 results96 call96 ?_
  (refine wkvp (w_1 @Zwq) w_t (w_s ?_);intros)
  simp (disch:=omega) only [go_sem]
theorem Zk4 (s:Bool) (n d:Nat) (h2:(toL d).length≤10000000) (h0:d≠0):Pure prog 53 [ratA s n d] (.tup [intA s n,lim (toL d)]):=by
 have hb:Zob d≠0:=λe=>h0 (Zhq.1 e);refine pI func53 rfl ntmps53 results53 call53 ?_;(focus (refine wkad w_t (w_1 (nBits d zo)) (w_1 (w_d 3 [] [] [2])) ?_;(repeat' first|exact w_t|apply w_l);all_goals intros));simp (disch:=omega) only [go_sem]
theorem Zf7 (q:Rat) {k:Nat} (h:Sz q k) (hk:k≤10000000):Pure prog 53 [ratQ q] (.tup [intZ q.num,lim (toL q.den)]) :=
 Zk4 _ _ _ (ZBs h.2 hk) q.den_nz
theorem Zfn (s:Bool) (n m:Nat) (hn:(toL n).length≤10000000) (hm:(toL m).length≤10000000) (h0:m≠0):Pure prog 93 [intA s n,lim (toL m)] (ratQ (mkRat (zI s n) m)):=by
 have cn:=intNorm s n zo;have hz:=Zd4 s n;rw [Zrc _ _ h0];generalize zI s n=z at *;subst hz;have hmp:=Zbc.2 (ZDg h0);have g0:Nat.gcd z.natAbs m≠0:=Nat.ne_of_gt (ZG4 _ zo);have hg:(toL (Nat.gcd z.natAbs m)).length≤10000000:=ZBs (Zed (Nat.le_of_dvd zo (Nat.gcd_dvd_right _ _))) hm;have cg:=nGcd z.natAbs m zo zo;have c1:=Zk5 m zo;have c2:=Zk5 (Nat.gcd z.natAbs m) zo;by_cases hz0:z.natAbs=0
 ·have hzz:z=0:=zo;subst hzz;have l0:(toL 0).length=0:=by rw [Zaz];rfl
  have n0:Int.natAbs 0=0:=rfl;have hd:decide ((0:Int) < 0)=false:=rfl;have cn:Pure prog 157 [intA s 0] (.agg [.v (.bool false),lim (toL 0)]):=cn;rw [n0] at hn ⊢;rw [Nat.gcd_zero_left,Nat.zero_div,Nat.div_self zo,hd];refine Zhj (r:=.agg [.v (.bool false),.v (.slice none 0 0),lim (toL 1)]) ?_ (.aggL (.cons (.refl _) (.cons ?_ (VkL.refl _))))
  ·refine pI func93 rfl ntmps93 results93 call93 ?_
   (refine wkvp (w_1 l0) (w_3 (Zpk m zo) cn Zrb) (w_s ?_);intros)
   simp (disch:=omega) only [go_sem]
  ·show Vk _ (.sl 1 (u16s (toL 0)));rw [Zaz];exact .nil 1
 ·have hzp:=Zbc.2 (ZDg hz0);by_cases hm1:m=1
  ·subst hm1;rw [Nat.gcd_one_right,ZFd,ZFd];refine pI func93 rfl ntmps93 results93 call93 ?_
   (refine wkvp w_t (w_3 (Zpk 1 zo) cn c1) (w_s ?_);intros)
   simp (disch:=omega) only [go_sem]
  ·have d1:decide (m=1)=false:=ZBv hm1;rw [d1] at c1;by_cases hg1:Nat.gcd z.natAbs m=1
   ·have d2:decide (Nat.gcd z.natAbs m=1)=true:=ZBu hg1;rw [d2] at c2;rw [hg1,ZFd,ZFd];refine pI func93 rfl ntmps93 results93 call93 ?_
    (refine wkvp w_t (w_5 (Zpk m zo) cn c1 cg c2) (w_s ?_);intros)
    simp (disch:=omega) only [go_sem]
   ·have d2:decide (Nat.gcd z.natAbs m=1)=false:=ZBv hg1;rw [d2] at c2;refine pI func93 rfl ntmps93 results93 call93 ?_
    (refine wkad w_t (w_7 (Zpk m zo) cn c1 cg c2 (Zyt z.natAbs (Nat.gcd z.natAbs m) zo zo g0) (Zyt m (Nat.gcd z.natAbs m) zo zo g0)) w_t (w_s ?_);intros)
    simp (disch:=omega) only [go_sem]
theorem Zck (q:Rat) {k:Nat} (h:Sz q k) (hk:k≤10000000):Pure prog 18 [ratQ q] (.v (.int .i64 q.num.sign)):=by
 have h1:=h.1;refine pI func18 rfl ntmps18 results18 call18 ?_
 (refine wkvp w_t (w_2 (Zf7 q h hk) (iSign q.num zo)) (w_s ?_);intros)
 simp (disch:=omega) only [go_sem]
theorem Zxs (s t:Bool) (n m:Nat) (hn:(toL n).length≤100000000) (hm:(toL m).length≤100000000):Pure prog 97 [.sl 2 [intA s n,intA t m]] (intZ (zI s n+zI t m)):=by
 have cz:=iAdd0 s n hn;have ca:=iAddA (zI s n) t m (by rw [Zd4];exact hn) hm;generalize zI s n=z at *;generalize zI t m=w at *;refine pI func97 rfl ntmps97 results97 call97 ?_
 (refine wkvp w_t w_t (w_s ?_);intros)
 refine Zad (ι:=Nat) (λk e mm=>k≤2∧e 6=.sl 2 [intA s n,intA t m]∧e 7=.v (.int .i64 2)∧e 8=.v (.int .i64 (k:Int))∧∃g2 g,e 2=.pbox 2 g2 0∧mm 2=some (.box g2 26 [.v (.bool false),.v (.slice none 0 0)] false)∧e 3=.pbox 3 g 0∧mm 3=some (.box g 26 (sumC z w k) false)) (λk=>2 - k) 0 zr ?_ ?_
 ·rintro k e mm ⟨hk,e6,e7,e8,g2,g,e2,m2,e3,m3⟩
  match k,hk with
  | 0,_ =>
    simp only [sumC] at m3
    (refine wkvp (w_8 e6 e7 e8 e2 m2 e3 m3 @ZDm) (w_1 cz) (w_s ?_);intros)
    exact⟨1,⟨zo,gW e6,gW e7,gW e8,g2,g,gW e2,gW m2,gW e3,by(simp (disch:=omega) only [go_sem,m3,sumC]<;>repeat' first|rfl|refine⟨?_,?_⟩)⟩,zo⟩
  | 1,_ =>
    simp only [sumC] at m3
    (refine wkvp (w_8 e6 e7 e8 e2 m2 e3 m3 @Int.natCast_one) (w_1 ca) (w_s ?_);intros)
    exact⟨2,⟨zo,gW e6,gW e7,gW e8,g2,g,gW e2,gW m2,gW e3,by(simp (disch:=omega) only [go_sem,m3,sumC]<;>repeat' first|rfl|refine⟨?_,?_⟩)⟩,zo⟩
  | 2,_ =>
    simp only [sumC] at m3
    (refine wkvp (w_7 e6 e7 e8 e2 m2 e3 m3) w_t (w_s ?_);intros)
    simp (disch:=omega) only [go_sem,e2]
 ·exact⟨zo,gC,gC,gC,_,_,gC,gC,gC,by(simp (disch:=omega) only [go_sem,sumC]<;>repeat' first|rfl|refine⟨?_,?_⟩)⟩
theorem ratSum (z w:Int) (hz:(toL z.natAbs).length≤100000000) (hw:(toL w.natAbs).length≤100000000):Pure prog 97 [.sl 2 [intZ z,intZ w]] (intZ (z+w)):=by
 have:=Zxs (decide (z < 0)) (decide (w < 0)) z.natAbs w.natAbs hz hw
 rwa [Zdh,Zdh] at this
theorem Zk6 (n:Nat) (hn:n < 9223372036854775808):Pure prog 27 [.v (.int .i64 (n:Int))] (ratQ (n:Rat)):=by
 refine pI func27 rfl ntmps27 results27 call27 ?_;have hd:decide ((n:Rat).num < 0)=false:=ZBv (by show ¬((n:Int) < 0);omega);have hn':(n:Rat).num.natAbs=n:=ZEm n;unfold ratQ;rw [hd,hn',Rat.den_natCast]
 (refine wkvp w_t (w_2 (intOf n hn) Zrb) (w_s ?_);intros)
 simp (disch:=omega) only [go_sem]
theorem Zfo (a b:Rat) {j k:Nat} (ha:Sz a j) (hb:Sz b k) (hj:j≤2000000) (hk:k≤2000000):Pure prog 51 [ratQ a,ratQ b] (ratQ (a*b)):=by
 obtain⟨a1,a2⟩:=id ha;obtain⟨b1,b2⟩:=id hb;have l1:(toL (a.num*b.num).natAbs).length≤j+k:=by rw [ZEe];exact ZBs (Ziv _ _) zo
 have l2:(toL (a.den*b.den)).length≤j+k:=ZBs (Ziv _ _) zo;have c:=Zfn (decide (a.num*b.num < 0)) (a.num*b.num).natAbs (a.den*b.den) zo zo (ZEq a.den_nz b.den_nz);rw [Zdh,←Rat.mul_def'] at c;refine pI func51 rfl ntmps51 results51 call51 ?_
 (refine wkvp w_t (w_5 (Zf7 a ha zo) (Zf7 b hb zo) (iMul a.num b.num zo zo) (nMul a.den b.den zo zo) c) (w_s ?_);intros)
 simp (disch:=omega) only [go_sem]
theorem Zxt (s t:Bool) (n d m c:Nat) {j k:Nat} (a1:(toL n).length≤j) (a2:(toL d).length≤j) (b1:(toL m).length≤k) (b2:(toL c).length≤k) (hd0:d≠0) (hc0:c≠0) (hj:j≤2000000) (hk:k≤2000000) :
 Pure prog 52 [ratA s n d,ratA t m c] (ratQ (mkRat (zI s n) d+mkRat (zI t m) c)):=by
 have oa:=Zk5 d zo;have ob:=Zk5 c zo;have l2:(toL (d*c)).length≤j+k:=ZBs (Ziv _ _) zo;have z1:=Zd4 s n;have w1:=Zd4 t m;have pa:=Zk4 s n d zo hd0;have pb:=Zk4 t m c zo hc0;have eq:mkRat (zI s n) d+mkRat (zI t m) c=mkRat (zI s n*c+zI t m*d) (d*c):=Rat.mkRat_add_mkRat _ _ hd0 hc0;have cs0:=Zxs s t n m zo zo;have cm1:Pure prog 94 [intA s n,intA false c] (intZ (zI s n*c)):=Zt3 s false n c zo zo;have cm2:Pure prog 94 [intA t m,intA false d] (intZ (zI t m*d)):=Zt3 t false m d zo zo;rw [eq]
 have x1:(toL (zI s n*c).natAbs).length≤j+k:=by
  rw [ZEe,ZEm,z1];exact ZBs (Ziv _ _) zo
 have x2:(toL (zI t m*d).natAbs).length≤j+k:=by
  rw [ZEe,ZEm,w1];exact ZBs (Ziv _ _) zo
 by_cases h1:d=1∧c=1
 ·obtain⟨h1,h2⟩:=h1
  have l1:(toL (zI s n+zI t m).natAbs).length≤j+k+1:=by
   have h3:=Zed (Zgc (zI s n) (zI t m));have h4:=Zy6 (zI s n).natAbs (zI t m).natAbs;rw [z1,w1] at h3 h4;omega
  have c:=Zfn (decide (zI s n+zI t m < 0)) (zI s n+zI t m).natAbs 1 zo (by rw [Zfs];omega) zo;rw [Zdh] at c;subst h1;subst h2;rw [ZBu rfl] at oa ob;have e1:zI s n*((1:Nat):Int)+zI t m*((1:Nat):Int)=zI s n+zI t m:=zo;rw [e1,ZD8];refine pI func52 rfl ntmps52 results52 call52 ?_
  (refine wkax w_t (w_5 pa pb oa ob c) w_t (w_1 cs0) w_t w_t w_y (w_r 0) (w_s ?_);intros)
  simp (disch:=omega) only [go_sem]
 ·have l1:(toL (zI s n*c+zI t m*d).natAbs).length≤j+k+1:=by
   have h3:=Zed (Zgc (zI s n*c) (zI t m*d));have h4:=Zy6 (zI s n*c).natAbs (zI t m*d).natAbs;omega
  have cr:=Zfn (decide (zI s n*c+zI t m*d < 0)) (zI s n*c+zI t m*d).natAbs (d*c) zo zo (ZEq hd0 hc0);rw [Zdh] at cr;have cs:=ratSum (zI s n*c) (zI t m*d) zo zo;have cw1:=Zkb c;have cw2:=Zkb d;have cm:=nMul d c zo zo;generalize zI s n*(c:Int)=y1 at *;generalize zI t m*(d:Int)=y2 at *;by_cases h2:d=1
  ·have h3:c≠1:=λh=>h1 ⟨h2,h⟩;rw [ZBu h2] at oa;rw [ZBv h3] at ob;refine pI func52 rfl ntmps52 results52 call52 ?_
   (refine wkax w_t (w_11 pa pb oa ob cw1 cm1 cw2 cm2 cs cm cr) (w_1 (w_d 5 [(2,intA false c),(3,intZ y1),(6,intA false d),(7,intZ y2),(8,.sl 2 [intZ y1,intZ y2]),(9,intZ (y1+y2)),(12,lim (toL (d*c))),(13,ratQ (mkRat (y1+y2) (d*c)))] [] [4])) w_t w_t w_t w_y (w_r 0) (w_s ?_);intros)
   simp (disch:=omega) only [go_sem]
  ·rw [ZBv h2] at oa;refine pI func52 rfl ntmps52 results52 call52 ?_
   (refine wkax w_t (w_10 pa pb oa cw1 cm1 cw2 cm2 cs cm cr) (w_1 (w_d 5 [(2,intA false c),(3,intZ y1),(6,intA false d),(7,intZ y2),(8,.sl 2 [intZ y1,intZ y2]),(9,intZ (y1+y2)),(12,lim (toL (d*c))),(13,ratQ (mkRat (y1+y2) (d*c)))] [] [4])) w_t w_t w_t w_y (w_r 0) (w_s ?_);intros)
   simp (disch:=omega) only [go_sem]
theorem Zju (a b:Rat) {j k:Nat} (ha:Sz a j) (hb:Sz b k) (hj:j≤2000000) (hk:k≤2000000):Pure prog 52 [ratQ a,ratQ b] (ratQ (a+b)):=by
 have:=Zxt (decide (a.num < 0)) (decide (b.num < 0)) a.num.natAbs a.den b.num.natAbs b.den ha.1 ha.2 hb.1 hb.2 a.den_nz b.den_nz hj hk
 rwa [Zdh,Zdh,ZF7,ZF7] at this
theorem Zgt (a b:Rat) {j k:Nat} (ha:Sz a j) (hb:Sz b k) (hj:j≤2000000) (hk:k≤2000000):Pure prog 115 [ratQ a,ratQ b] (ratQ (a - b)):=by
 have c:=Zxt (decide (a.num < 0)) (!decide (b.num < 0)) a.num.natAbs a.den b.num.natAbs b.den ha.1 ha.2 hb.1 hb.2 a.den_nz b.den_nz hj hk
 have e:zI (!decide (b.num < 0)) b.num.natAbs=-b.num:=by
  have:=Zdh b.num;unfold zI at *;by_cases h:b.num < 0
  ·simp only [ZBu h,ZF1,ZB0,ZCi];omega
  ·simp only [ZBv h,ZF3,ZCu];omega
 have e2:mkRat (-b.num) b.den=-b:=by rw [←Rat.neg_mkRat,ZF7]
 rw [Zdh,e,ZF7,e2,←Rat.sub_eq_add_neg] at c;refine pI func115 rfl ntmps115 results115 call115 ?_
 (refine wkvp w_t (w_1 c) (w_s ?_);intros)
 simp (disch:=omega) only [go_sem]
theorem ratCmp (a b:Rat) {j k:Nat} (ha:Sz a j) (hb:Sz b k) (hj:j≤2000000) (hk:k≤2000000):Pure prog 192 [ratQ a,ratQ b] (.v (.int .i64 (cmpQ a b))):=by
 obtain⟨a1,a2⟩:=id ha;obtain⟨b1,b2⟩:=id hb;have sa:=Zck a ha zo;have sb:=Zck b hb zo;have pa:=Zf7 a ha zo;have pb:=Zf7 b hb zo;have cm1:=iMulN a.num b.den zo zo;have cm2:=iMulN b.num a.den zo zo;have x1:(toL (a.num*b.den).natAbs).length≤j+k:=Zkf a b ha hb;have x2:(toL (b.num*a.den).natAbs).length≤k+j:=Zkf b a hb ha;have cc:=iCmp (a.num*b.den) (b.num*a.den) zo zo;have cw1:=Zkb b.den;have cw2:=Zkb a.den;have dp:(0:Int) < a.den:=by have:=a.den_pos;omega
 have ep:(0:Int) < b.den:=by have:=b.den_pos;omega
 rw [cmpQ_z]
 have sg:∀z:Int,(z.sign=1∧0 < z)∨(z.sign=0∧z=0)∨(z.sign=-1∧z < 0):=by
  intro z;rcases ZFk z 0 with h | h | h
  ·exact .inr (.inr ⟨ZFj h,h⟩)
  ·exact .inr (.inl ⟨by rw [h];rfl,h⟩)
  ·exact .inl ⟨ZGw h,h⟩
 have mp:∀z w:Int,0 < z→0 < w→0 < z*w:=λz w=>Int.mul_pos;have mz:∀w:Int,0*w=0:=λw=>Int.zero_mul w;have mn:∀z w:Int,z < 0→0 < w→z*w < 0:=λz w=>Int.mul_neg_of_neg_of_pos
 have sA:(a.num.sign=1→0 < a.num*b.den)∧(a.num.sign=0→a.num*b.den=0)∧(a.num.sign=-1→a.num*b.den < 0):=by
  rcases sg a.num with⟨h,h'⟩ | ⟨h,h'⟩ | ⟨h,h'⟩
  ·exact⟨λ_=>mp _ _ h' ep,λh2=>zo,λh2=>zo⟩
  ·exact⟨λh2=>zo,λ_=>(by rw [h'];exact mz _),λh2=>zo⟩
  ·exact⟨λh2=>zo,λh2=>zo,λ_=>mn _ _ h' ep⟩
 have sB:(b.num.sign=1→0 < b.num*a.den)∧(b.num.sign=0→b.num*a.den=0)∧(b.num.sign=-1→b.num*a.den < 0):=by
  rcases sg b.num with⟨h,h'⟩ | ⟨h,h'⟩ | ⟨h,h'⟩
  ·exact⟨λ_=>mp _ _ h' dp,λh2=>zo,λh2=>zo⟩
  ·exact⟨λh2=>zo,λ_=>(by rw [h'];exact mz _),λh2=>zo⟩
  ·exact⟨λh2=>zo,λh2=>zo,λ_=>mn _ _ h' dp⟩
 have ga:=sg a.num;have gb:=sg b.num;generalize a.num*(b.den:Int)=y1 at *;generalize b.num*(a.den:Int)=y2 at *;rcases ZFk a.num.sign b.num.sign with h | h | h
 ·have hc:cmpZ y1 y2=-1:=by
   unfold cmpZ;rw [ZBm zo]
  rw [hc];clear ga gb sA sB;refine pI func192 rfl ntmps192 results192 call192 ?_
  (refine wkad w_t (w_2 sa sb) (w_1 (w_d 1 [(1,.v (.int .i64 a.num.sign)),(3,.v (.int .i64 b.num.sign))] [] [])) (w_s ?_);intros)
  simp (disch:=omega) only [go_sem]
 ·refine pI func192 rfl ntmps192 results192 call192 ?_
  (refine wkvp w_t (w_2 sa sb) (w_s ?_);intros)
  apply Zc8 (Zga [(1,.v (.int .i64 a.num.sign)),(3,.v (.int .i64 b.num.sign))]) [] [] zk zr zk;(focus (simp only [ZB5,ZCf,Nat.reduceAdd];rfl))
  (refine wkax w_t (w_4 sa sb pa pb) w_t w_t w_t w_t w_t (w_r 0) (w_s ?_);intros)
  apply Zc8 (Zga [(2,intA false b.den),(3,intZ y1),(6,intA false a.den),(7,intZ y2),(8,.v (.int .i64 (cmpZ y1 y2)))]) [] [] zk zr zk;(focus (simp only [ZB5,ZCf,Nat.reduceAdd];rfl))
  (refine wkax w_t (w_5 cw1 cm1 cw2 cm2 cc) w_t w_t w_t w_t w_t (w_r 0) (w_s ?_);intros)
  simp (disch:=omega) only [go_sem]
 ·have hc:cmpZ y1 y2=1:=by
   unfold cmpZ;rw [ZBl zo,ZBm zo]
  rw [hc];clear ga gb sA sB;refine pI func192 rfl ntmps192 results192 call192 ?_
  (refine wkad w_t (w_2 sa sb) (w_1 (w_d 1 [(1,.v (.int .i64 a.num.sign)),(3,.v (.int .i64 b.num.sign))] [] [])) (w_s ?_);intros)
  simp (disch:=omega) only [go_sem]
theorem Zt1 {z:Int} (h:z < 0):intZ z=intA true z.natAbs:=by unfold intZ;rw [ZBu h]
theorem Znw {z:Int} (h:¬z < 0):intZ z=intA false z.natAbs:=by unfold intZ;rw [ZBv h]
theorem zOf' (s:Bool) (n:Nat) (hn:(toL n).length≤100000000):Pure prog 136 [.v (.bool s),lim (toL n)] (intZ (zI s n)):=by
 rw [Zg2];have hp:=@Zbc n;cases s
 ·refine pI func136 rfl ntmps136 results136 call136 ?_
  (refine wkvp w_t (w_1 (rNorm n hn)) (w_s ?_);intros)
  simp (disch:=omega) only [go_sem,ZC1]
 ·by_cases h:0 < n
  ·have h2:=hp.2 h;refine pI func136 rfl ntmps136 results136 call136 ?_
   (refine wkvp w_t (w_1 (rNorm n hn)) (w_s ?_);intros)
   simp (disch:=omega) only [go_sem,ZBu h]
  ·have h2:¬0 < (toL n).length:=λh3=>h (hp.1 h3);refine pI func136 rfl ntmps136 results136 call136 ?_
   (refine wkvp w_t (w_1 (rNorm n hn)) (w_s ?_);intros)
   simp (disch:=omega) only [go_sem,ZBv h]
theorem zNorm (s:Bool) (n:Nat) (hn:(toL n).length≤100000000):Pure prog 135 [intA s n] (intZ (zI s n)):=by
 refine pI func135 rfl ntmps135 results135 call135 ?_
 (refine wkvp w_t (w_1 (zOf' s n hn)) (w_s ?_);intros)
 simp (disch:=omega) only [go_sem]
theorem zNormZ (z:Int) (hz:(toL z.natAbs).length≤100000000):Pure prog 135 [intZ z] (intZ z):=by
 have:=zNorm (decide (z < 0)) z.natAbs hz
 rwa [Zdh] at this
theorem zOf (n:Nat) (hn:n < 9223372036854775808):Pure prog 78 [.v (.int .i64 (n:Int))] (intA false n):=by
 have l4:(toL n).length≤4:=Zaf.2 zo;have hm:=zOf' false n zo;rw [Zg2,ZC1] at hm;refine pI func78 rfl ntmps78 results78 call78 ?_
 (refine wkvp w_t (w_2 (Zo2 n zo) hm) (w_s ?_);intros)
 simp (disch:=omega) only [go_sem]
theorem zNeg (s:Bool) (n:Nat) (hn:(toL n).length≤100000000):Pure prog 189 [intA s n] (intZ (-zI s n)):=by
 have e:-zI s n=zI (!s) n:=by cases s<;>simp [zI]
 rw [e];refine pI func189 rfl ntmps189 results189 call189 ?_
 (refine wkvp w_t (w_1 (zOf' (!s) n hn)) (w_s ?_);intros)
 simp (disch:=omega) only [go_sem]
theorem zSign (z:Int) (hz:(toL z.natAbs).length≤100000000):Pure prog 129 [intZ z] (.v (.int .i64 z.sign)):=by
 have cn:=zNormZ z hz;have hp:=@Zbc z.natAbs;rcases ZFk z 0 with h | h | h
 ·rw [ZFj h];have h2:=hp.2 zo;rw [Zt1 h] at cn ⊢;refine pI func129 rfl ntmps129 results129 call129 ?_
  (refine wkvp w_t (w_1 cn) (w_s ?_);intros)
  simp (disch:=omega) only [go_sem]
 ·have h2:¬0 < (toL z.natAbs).length:=λh3=>by have:=hp.1 h3;omega
  have hs:z.sign=0:=by rw [h];rfl
  rw [hs];rw [Znw zo] at cn ⊢;refine pI func129 rfl ntmps129 results129 call129 ?_
  (refine wkvp w_t (w_1 cn) (w_s ?_);intros)
  simp (disch:=omega) only [go_sem]
 ·rw [ZGw h];have h2:=hp.2 zo;rw [Znw zo] at cn ⊢;refine pI func129 rfl ntmps129 results129 call129 ?_
  (refine wkvp w_t (w_1 cn) (w_s ?_);intros)
  simp (disch:=omega) only [go_sem]
theorem gcd_le_l (n m:Nat) (h:m≠0):Nat.gcd n m≠0:=Nat.ne_of_gt (ZG4 _ (ZDg h))
theorem intZ_div (s:Bool) (n g:Nat) (hg:g ∣ n) (h0:g≠0):intZ (zI s (n/g))=.agg [.v (.bool (decide (zI s n < 0))),lim (toL (n/g))]:=by
 rw [Zg2,zI_lt]
 have:(0 < n/g)↔(0 < n):=by
  obtain⟨k,rfl⟩:=hg;rw [Nat.mul_div_cancel_left _ (ZDg h0)];constructor
  ·intro h;exact Nat.mul_pos (ZDg h0) h
  ·intro h;exact ZDg λe=>by rw [e] at h;simp at h
 simp only [this]
theorem qOver (s:Bool) (n m:Nat) (hn:(toL n).length≤10000000) (hm:(toL m).length≤10000000) (h0:m≠0):Pure prog 77 [intA s n,lim (toL m)] (ratQ (mkRat (zI s n) m)):=by
 rw [Zrc _ _ h0,Zd4];have g0:=gcd_le_l n m h0;have hgd:=Nat.gcd_dvd_left n m;have hmp:=Zbc.2 (ZDg h0);have hg:(toL (Nat.gcd n m)).length≤10000000:=ZBs (Zed (Nat.le_of_dvd zo (Nat.gcd_dvd_right _ _))) hm;have hq:(toL (n/Nat.gcd n m)).length≤10000000:=ZBs (Zed (ZFu _ _)) hn;have cg:=rGcd n m zo zo;have c1:=Zxx n (Nat.gcd n m) zo zo g0;have c2:=Zxx m (Nat.gcd n m) zo zo g0;have cn:=zNorm s (n/Nat.gcd n m) zo;rw [intZ_div s n _ hgd g0] at cn;refine pI func77 rfl ntmps77 results77 call77 ?_
 (refine wkvp w_t (w_5 (rNorm m zo) cg c1 c2 cn) (w_s ?_);intros)
 simp (disch:=omega) only [go_sem]
theorem qMake (z w:Int) (hz:(toL z.natAbs).length≤10000000) (hw:(toL w.natAbs).length≤10000000) (h0:w≠0):Pure prog 108 [intZ z,intZ w] (.tup [ratQ (Rat.divInt z w),.v (.int .i64 0)]):=by
 have cs:=zSign w zo;have hs:w.sign≠0:=λh=>h0 (Int.sign_eq_zero_iff_zero.1 h);rcases (by omega:w < 0∨0 < w) with h | h
 ·have e:Rat.divInt z w=mkRat (-z) w.natAbs:=by
   have hw1:w=-((w.natAbs:Nat):Int):=zo;rw [show Rat.divInt z w=Rat.divInt z (-((w.natAbs:Nat):Int)) by rw [←hw1],Rat.divInt_neg',Rat.divInt_ofNat]
  have cn:=zNeg (decide (z < 0)) z.natAbs zo;have c:=qOver (decide (-z < 0)) (-z).natAbs w.natAbs (by rw [ZGl];omega) hw zo;rw [Zdh] at c cn;rw [←e] at c;generalize -z=y at *;generalize Rat.divInt z w=q at *;rw [Zt1 h] at cs ⊢;refine pI func108 rfl ntmps108 results108 call108 ?_
  (refine wkvp w_t (w_3 cs cn c) (w_s ?_);intros)
  simp (disch:=omega) only [go_sem]
 ·have e:Rat.divInt z w=mkRat z w.natAbs:=by
   have hw1:w=((w.natAbs:Nat):Int):=zo;rw [show Rat.divInt z w=Rat.divInt z ((w.natAbs:Nat):Int) by rw [←hw1],Rat.divInt_ofNat]
  have c:=qOver (decide (z < 0)) z.natAbs w.natAbs hz hw zo;rw [Zdh,←e] at c;generalize Rat.divInt z w=q at *;rw [Znw (by omega:¬w < 0)] at cs ⊢;refine pI func108 rfl ntmps108 results108 call108 ?_
  (refine wkvp w_t (w_2 cs c) (w_s ?_);intros)
  simp (disch:=omega) only [go_sem]
theorem qFrac (n m:Nat) (hn:n < 9223372036854775808) (hm:m < 9223372036854775808) (h0:m≠0):Pure prog 59 [.v (.int .i64 (n:Int)),.v (.int .i64 (m:Int))] (ratQ (mkRat n m)):=by
 have l4:(toL n).length≤4:=Zaf.2 zo;have m4:(toL m).length≤4:=Zaf.2 zo;have c:=qMake (n:Int) (m:Int) (by rw [ZEm];omega) (by rw [ZEm];omega) zo;rw [Rat.divInt_ofNat] at c
 have e1:intZ (n:Int)=intA false n:=by
  have:=Zg2 false n
  rwa [ZC1] at this
 have e2:intZ (m:Int)=intA false m:=by
  have:=Zg2 false m
  rwa [ZC1] at this
 rw [e1,e2] at c;generalize mkRat (n:Int) m=q at *;refine pI func59 rfl ntmps59 results59 call59 ?_
 (refine wkvp w_t (w_3 (zOf n hn) (zOf m hm) c) (w_s ?_);intros)
 simp (disch:=omega) only [go_sem]
theorem szPt:szOf prog 87=some 6:=by kernel_rfl
theorem zPt:Zan prog 87=some (.agg #[.bool false,.slice none 0 0,.slice none 0 0,.bool false,.slice none 0 0,.slice none 0 0]):=by kernel_rfl
abbrev iv (n:Int):AV:=.v (.int .i64 n)
abbrev strA (s:ByteArray):AV:=.v (.string s)
abbrev ivs (l:List Int):AV:=.sl 1 (l.map iv)
abbrev Vt:=Int × Int × Int
abbrev Vt.av (v:Vt):AV:=.agg [iv v.1,iv v.2.1,iv v.2.2]
theorem Zfw {α:Type} {f:α→AV} {l:List α} {j:Nat} {d:α} (h:j < l.length):(l.map f).getD j .u=f (l.getD j d):=by
 rw [ZB6,ZCt,ZBx h,ZB6,ZBx h];rfl
theorem Zdr {α:Type} {l:List α} {j:Nat} {d:α} (h:j < l.length):l.getD j d∈l:=by
 rw [ZB6,ZBx h];exact ZBy h
theorem Zaw {α:Type} (f:α→AV) {l:List α} {k:Nat} (h:k < l.length):(l.map f).getD k .u=f l[k]:=by
 rw [ZB6,ZCt,ZBx h];rfl
theorem Zag:szOf prog 91=some 4:=by kernel_rfl
theorem Zao:Zan prog 91=some (.agg #[.int .i64 0,.int .i64 0,.int .i64 0,.int .i64 0]):=by kernel_rfl
theorem Zah:eqTy prog 91=true:=by kernel_rfl
theorem Zw1:szOf prog 183=some 3:=by kernel_rfl
theorem zCor:Zan prog 183=some (.agg #[.int .i64 0,.int .i64 0,.int .i64 0]):=by kernel_rfl
theorem szC3:szOf prog 182=some 3:=by kernel_rfl
theorem zC3:Zan prog 182=some (.agg #[.int .i64 0,.int .i64 0,.int .i64 0]):=by kernel_rfl
theorem Zbp:szOf prog 35=some 1:=by kernel_rfl
theorem zErr:Zan prog 35=some (.int .i64 0):=by kernel_rfl
theorem Za5:szOf prog 9=some 1:=by kernel_rfl
theorem Zbv:Zd2 prog 9=some 16:=by kernel_rfl
theorem zStr:Zan prog 9=some (.string ByteArray.empty):=by kernel_rfl
theorem szU8:szOf prog 5=some 1:=by kernel_rfl
theorem byU8:Zd2 prog 5=some 1:=by kernel_rfl
theorem zU8:Zan prog 5=some (.int .u8 0):=by kernel_rfl
theorem Zqt:szOf prog 259=some 3:=by kernel_rfl
theorem Zsj:Zd2 prog 259=some 24:=by kernel_rfl
theorem zVar:Zan prog 259=some (.agg #[.int .i64 0,.int .i64 0,.int .i64 0]):=by kernel_rfl
theorem Zgq:szOf prog 105=some 2:=by kernel_rfl
theorem Zjr:Zan prog 105=some (.agg #[.slice none 0 0,.slice none 0 0]):=by kernel_rfl
theorem Zcb:szOf prog 42=some 2:=by kernel_rfl
theorem zFig:Zan prog 42=some (.agg #[.slice none 0 0,.slice none 0 0]):=by kernel_rfl
theorem byPt:Zd2 prog 87=some 112:=by kernel_rfl
theorem Zu9:szOf prog 186=some 6:=by kernel_rfl
theorem zVec:Zan prog 186=some (.agg #[.bool false,.slice none 0 0,.slice none 0 0,.bool false,.slice none 0 0,.slice none 0 0]):=by kernel_rfl
theorem Zgp:szOf prog 215=some 4:=by kernel_rfl
theorem Zur:Zd2 prog 215=some 80:=by kernel_rfl
theorem Zkm:Zan prog 215=some (.agg #[.bool false,.slice none 0 0,.slice none 0 0,.slice none 0 0]):=by kernel_rfl
theorem Zh2:szOf prog 150=some 2:=by kernel_rfl
theorem Zif:Zd2 prog 150=some 48:=by kernel_rfl
theorem Zkn:Zan prog 150=some (.agg #[.slice none 0 0,.slice none 0 0]):=by kernel_rfl
theorem Za8:szOf prog 81=some 6:=by kernel_rfl
theorem Zba:Zd2 prog 81=some 104:=by kernel_rfl
theorem Zb8:Zan prog 81=some (.agg #[.int .i64 0,.string ByteArray.empty,.slice none 0 0,.bool false,.slice none 0 0,.slice none 0 0]):=by kernel_rfl
theorem Zbm:szOf prog 30=some 5:=by kernel_rfl
theorem Zbn:Zd2 prog 30=some 88:=by kernel_rfl
theorem Zct:Zan prog 30=some (.agg #[.int .i64 0,.slice none 0 0,.bool false,.slice none 0 0,.slice none 0 0]):=by kernel_rfl
theorem Zkr:szOf prog 147=some 2:=by kernel_rfl
theorem Zlv:Zd2 prog 147=some 48:=by kernel_rfl
theorem Zqj:Zan prog 147=some (.agg #[.slice none 0 0,.slice none 0 0]):=by kernel_rfl
theorem Zks:szOf prog 145=some 3:=by kernel_rfl
theorem Zlw:Zd2 prog 145=some 56:=by kernel_rfl
theorem Zqk:Zan prog 145=some (.agg #[.slice none 0 0,.slice none 0 0,.int .i64 0]):=by kernel_rfl
theorem Zgi:szOf prog 109=some 1:=by kernel_rfl
theorem Zg7:Zd2 prog 109=some 24:=by kernel_rfl
theorem Zj5:Zan prog 109=some (.slice none 0 0):=by kernel_rfl
theorem Zsy:szOf prog 213=some 1:=by kernel_rfl
theorem Zus:Zd2 prog 213=some 24:=by kernel_rfl
theorem zMono:Zan prog 213=some (.slice none 0 0):=by kernel_rfl
theorem Zca:szOf prog 22=some 1:=by kernel_rfl
theorem zSlI:Zan prog 22=some (.slice none 0 0):=by kernel_rfl
theorem Zb9:szOf prog 39=some 1:=by kernel_rfl
theorem zSlS:Zan prog 39=some (.slice none 0 0):=by kernel_rfl
theorem Zcu:szOf prog 40=some 1:=by kernel_rfl
theorem zSlF:Zan prog 40=some (.slice none 0 0):=by kernel_rfl
theorem Zqv:szOf prog 102=some 1:=by kernel_rfl
theorem zSlC:Zan prog 102=some (.slice none 0 0):=by kernel_rfl
theorem Zqu:szOf prog 103=some 1:=by kernel_rfl
theorem zSlV:Zan prog 103=some (.slice none 0 0):=by kernel_rfl
theorem Zwz:szOf prog 85=some 1:=by kernel_rfl
theorem ZAv:Zd2 prog 85=some 24:=by kernel_rfl
theorem zSlR:Zan prog 85=some (.slice none 0 0):=by kernel_rfl
theorem Zot:szOf prog 53=some 1:=by kernel_rfl
theorem Zqd:Zd2 prog 53=some 24:=by kernel_rfl
theorem Zwd:Zan prog 53=some (.slice none 0 0):=by kernel_rfl
theorem Zkq:szOf prog 65=some 1:=by kernel_rfl
theorem Zog:Zan prog 65=some (.slice none 0 0):=by kernel_rfl
attribute [go_sem] underlying91 underlying183 underlying182 underlying22 zCor szC3 zC3 zErr
attribute [local go_sem] Zag Zao Zw1 Zbp Zah Bool.and_self
structure Qt where
 k:Int
 a:Int
 b:Int
 c:Int
 deriving DecidableEq
abbrev Qt.av (q:Qt):AV:=.agg [iv q.k,iv q.a,iv q.b,iv q.c]
abbrev Qt.zero:Qt:=⟨0,0,0,0⟩
def Qt.ok (q:Qt):Bool:=decide ((q.k=3∧0≤q.a∧q.a < 64∧q.b=0∧q.c=0)∨((q.k=1∨q.k=2)∧(0≤q.a∧q.a < 40)∧(0≤q.b∧q.b < 40)∧(0≤q.c∧q.c < 40)))
theorem quOf (k a b c:Int):Pure prog 152 [Qt.av ⟨k,a,b,c⟩] (.agg [iv a,iv b,iv c]):=by
 refine pI func152 rfl ntmps152 results152 call152 ?_
 (refine wkvp w_t w_t (w_s ?_);intros)
 simp (disch:=omega) only [go_sem]
theorem Zk8 (k a b c:Int):Pure prog 151 [Qt.av ⟨k,a,b,c⟩] (.v (.bool (Qt.ok ⟨k,a,b,c⟩))):=by
 have cf:=quOf k a b c;refine pI func151 rfl ntmps151 results151 call151 ?_
 (repeat' (first|(with_reducible first|refine stp ?_|apply gx1|apply gx2|apply gx3|apply gx4|apply gx5|apply gx6|apply gx7|refine gw0 ((id (α:=_) cf)) ?_ ?_)|(with_reducible refine Zcl ?_;intro _)|((with_reducible refine gE ?_);(try simp (disch:=omega) only [go_sem,ZBu,ZBv,ZBm,ZBl,Int.reduceAdd,Int.reduceSub,Int.reduceToNat,ZB3])<;>first|rfl|omega)|with_reducible refine Zaj zd ?_|((with_reducible first|apply Zek|apply Zel);all_goals (intro hc;(try simp only [bool_to_prop] at hc);try (exfalso;omega)))|((with_reducible apply Zs9 4);(focus rfl))))
 (all_goals (try simp (disch:=omega) only [go_sem,Qt.ok,ZBu,ZBv,ZBm,ZBl,Int.reduceAdd,Int.reduceSub,Int.reduceToNat,ZB3]));(all_goals first|done|rfl|(congr 2;first|done|omega|(rw [ZCh];simp only [bool_to_prop,ZB0,ZCp,ZCq,ZCr,ZCs];omega))|skip)
def Zfh (a b c:Int):Qt × Int :=
 if a=b∨b=c∨a=c then (Qt.zero,0)
 else if a < b then (if b < c then (⟨1,a,b,c⟩,1) else if a < c then (⟨1,a,c,b⟩,-1) else (⟨1,c,a,b⟩,1))
 else (if a < c then (⟨1,b,a,c⟩,-1) else if b < c then (⟨1,b,c,a⟩,1) else (⟨1,c,b,a⟩,-1))
def Zgz (a b c:Int):Qt × Int :=
 if a=b∨b=c then (Qt.zero,0)
 else if a=c∧b < a then (⟨2,b,a,b⟩,1)
 else if c < a then (⟨2,c,b,a⟩,1) else (⟨2,a,b,c⟩,1)
def Qt.norm (q:Qt):Qt × Int:=if q.ok=true then (if q.k=1 then Zfh q.a q.b q.c else if q.k=2 then Zgz q.a q.b q.c else (q,1)) else (Qt.zero,0)
theorem Zvk (a b c:Int):Pure prog 224 [.agg [iv a,iv b,iv c]] (.tup [(Zfh a b c).1.av,iv (Zfh a b c).2]):=by
 refine pI func224 rfl ntmps224 results224 call224 ?_;(focus (refine wkax w_t w_t (w_1 (w_d 8 [] [11,13,2011,2013] [])) w_t w_t w_t w_y (w_r 4) ?_;(repeat' first|exact w_t|apply w_l);all_goals intros))
 (all_goals (try simp (disch:=omega) only [go_sem,Zfh,Qt.av,Qt.zero,ZBu,ZBv,ZBm,ZBl,Int.reduceAdd,Int.reduceSub,Int.reduceToNat,ZB3]));(all_goals first|done|rfl|(congr 2;first|done|omega|(rw [ZCh];simp only [bool_to_prop,ZB0,ZCp,ZCq,ZCr,ZCs];omega))|skip)
theorem Zvj (a b c:Int):Pure prog 225 [.agg [iv a,iv b,iv c]] (.tup [(Zgz a b c).1.av,iv (Zgz a b c).2]):=by
 refine pI func225 rfl ntmps225 results225 call225 ?_;(focus (refine wkap w_t w_t (w_r 0) ?_;(repeat' first|exact w_t|apply w_l);all_goals intros))
 (all_goals (try simp (disch:=omega) only [go_sem,Zgz,Qt.av,Qt.zero,ZBu,ZBv,ZBm,ZBl,Int.reduceAdd,Int.reduceSub,Int.reduceToNat,ZB3]));(all_goals first|done|rfl|(congr 2;first|done|omega|(rw [ZCh];simp only [bool_to_prop,ZB0,ZCp,ZCq,ZCr,ZCs];omega))|skip)
theorem Zxy (k a b c:Int):Pure prog 162 [Qt.av ⟨k,a,b,c⟩] (.tup [(Qt.norm ⟨k,a,b,c⟩).1.av,iv (Qt.norm ⟨k,a,b,c⟩).2]):=by
 have c1:=Zk8 k a b c;have c2:=quOf k a b c;have c3:=Zvk a b c;have c4:=Zvj a b c;unfold Qt.norm;generalize Qt.ok ⟨k,a,b,c⟩=v at *;generalize Zfh a b c=r1 at *;generalize Zgz a b c=r2 at *;obtain⟨⟨k1,a1,b1,d1⟩,s1⟩:=r1;obtain⟨⟨k2,a2,b2,d2⟩,s2⟩:=r2;cases v
 ·refine pI func162 rfl ntmps162 results162 call162 ?_
  (refine wkap w_t (w_1 c1) (w_r 0) (w_s ?_);intros)
  (all_goals (try simp (disch:=omega) only [go_sem,Qt.av,Qt.zero,ZBu,ZBv,ZBm,ZBl,Int.reduceAdd,Int.reduceSub,Int.reduceToNat,ZB3]));(all_goals first|done|rfl|(congr 2;first|done|omega|(rw [ZCh];simp only [bool_to_prop,ZB0,ZCp,ZCq,ZCr,ZCs];omega))|skip)
 ·refine pI func162 rfl ntmps162 results162 call162 ?_;(focus (refine wkap w_t (w_4 c1 c2 c3 c4) (w_r 0) ?_;(repeat' first|exact w_t|apply w_l);all_goals intros))
  (all_goals (try simp (disch:=omega) only [go_sem,Qt.av,Qt.zero,ZBu,ZBv,ZBm,ZBl,Int.reduceAdd,Int.reduceSub,Int.reduceToNat,ZB3]));(all_goals first|done|rfl|(congr 2;first|done|omega|(rw [ZCh];simp only [bool_to_prop,ZB0,ZCp,ZCq,ZCr,ZCs];omega))|skip)
def ordI (x y:Int):Int:=if x < y then -1 else if y < x then 1 else 0
def or4 (w x y z:Int):Int:=if w=0 then (if x=0 then (if y=0 then z else y) else x) else w
def Qt.cmp (p q:Qt):Int:=or4 (ordI p.k q.k) (ordI p.a q.a) (ordI p.b q.b) (ordI p.c q.c)
theorem isNaN (x:Int):Pure prog 273 [iv x] (.v (.bool false)):=by
 refine pI func273 rfl ntmps273 results273 call273 ?_
 (refine wkap w_t w_t (w_r 0) (w_s ?_);intros)
 (all_goals (try simp (disch:=omega) only [go_sem,bne_self_eq_false,ZBu,ZBv,ZBm,ZBl,Int.reduceAdd,Int.reduceSub,Int.reduceToNat,ZB3]));(all_goals first|done|rfl|(congr 2;first|done|omega|(rw [ZCh];simp only [bool_to_prop,ZB0,ZCp,ZCq,ZCr,ZCs];omega))|skip)
theorem Zul (x y:Int):Pure prog 229 [iv x,iv y] (iv (ordI x y)):=by
 have c1:=isNaN x;have c2:=isNaN y;refine pI func229 rfl ntmps229 results229 call229 ?_;(focus (refine wkap w_t (w_2 c1 c2) (w_r 0) ?_;(repeat' first|exact w_t|apply w_l);all_goals intros))
 (all_goals (try simp (disch:=omega) only [go_sem,ordI,ZBu,ZBv,ZBm,ZBl,Int.reduceAdd,Int.reduceSub,Int.reduceToNat,ZB3]));(all_goals first|done|rfl|(congr 2;first|done|omega|(rw [ZCh];simp only [bool_to_prop,ZB0,ZCp,ZCq,ZCr,ZCs];omega))|skip)
theorem cmpOr (w x y z:Int):Pure prog 228 [.sl 1 [iv w,iv x,iv y,iv z]] (iv (or4 w x y z)):=by
 refine pI func228 rfl ntmps228 results228 call228 ?_;(focus (refine wkap w_t w_t (w_r 6) ?_;(repeat' first|exact w_t|apply w_l);all_goals intros))
 (all_goals (try simp (disch:=omega) only [go_sem,or4,ZBu,ZBv,ZBm,ZBl,Int.reduceAdd,Int.reduceSub,Int.reduceToNat,ZB3]));(all_goals first|done|rfl|(congr 2;first|done|omega|(rw [ZCh];simp only [bool_to_prop,ZB0,ZCp,ZCq,ZCr,ZCs];omega))|skip)
theorem ordI_eq (x:Int):ordI x x=0:=by unfold ordI;simp
theorem quCmp (k a b c k' a' b' c':Int):Pure prog 164 [Qt.av ⟨k,a,b,c⟩,Qt.av ⟨k',a',b',c'⟩] (iv (Qt.cmp ⟨k,a,b,c⟩ ⟨k',a',b',c'⟩)):=by
 have h1:=Zul k k';have h2:=Zul a a';have h3:=Zul b b';have h4:=Zul c c';have h5:=cmpOr (ordI k k') (ordI a a') (ordI b b') (ordI c c');refine pI func164 rfl ntmps164 results164 call164 ?_;(focus (refine wkad w_t (w_5 h1 h2 h3 h4 h5) (w_1 (w_d 3 [(4,iv (ordI k k')),(9,iv (ordI a a')),(14,iv (ordI b b')),(19,iv (ordI c c')),(20,.sl 1 [iv (ordI k k'),iv (ordI a a'),iv (ordI b b'),iv (ordI c c')]),(21,iv (or4 (ordI k k') (ordI a a') (ordI b b') (ordI c c')))] [] [])) ?_;(repeat' first|exact w_t|apply w_l);all_goals intros))
 (all_goals (try simp (disch:=omega) only [go_sem,Qt.cmp,ZBu,ZBv,ZBm,ZBl,Int.reduceAdd,Int.reduceSub,Int.reduceToNat,ZB3]));(all_goals first|done|rfl|(congr 2;first|done|omega|(rw [ZCh];simp only [bool_to_prop,ZB0,ZCp,ZCq,ZCr,ZCs];omega))|skip)
 all_goals (rename_i hc;obtain⟨rfl,rfl,rfl,rfl⟩:=hc;simp only [ordI_eq,or4,ZCu])
def Qt.chk (q:Qt) (n m:Int):Int:=if q.ok=true then (if q.k=3 then (if m≤q.a then 2 else 0) else if n≤q.a∨n≤q.b∨n≤q.c then 2 else 0) else 1
theorem Zxz (k a b c n m:Int):Pure prog 90 [Qt.av ⟨k,a,b,c⟩,iv n,iv m] (iv (Qt.chk ⟨k,a,b,c⟩ n m)):=by
 have c1:=Zk8 k a b c;have c2:=quOf k a b c;unfold Qt.chk;generalize Qt.ok ⟨k,a,b,c⟩=v at *;cases v
 ·refine pI func90 rfl ntmps90 results90 call90 ?_;exact wklp w_t (w_1 c1) w_t (w_r 0) w_z
 ·refine pI func90 rfl ntmps90 results90 call90 ?_;exact wklp w_t (w_2 c1 c2) w_t (w_r 5) w_z
attribute [go_sem] underlying2 underlying113 szU8 byU8 zU8 zStr
attribute [local go_sem] Za5
def decB:Nat→Nat→ByteArray→ByteArray
 | 0,_,s=>s
 | f+1,n,s=>if n=0 then s else decB f (n/10) (Zgl [((48+n%10:Nat):Int)]++s)
def decS (n:Nat):ByteArray:=if n=0 then Zgl [48] else decB n n ByteArray.empty
theorem Zp9:∀(f g n:Nat) (s:ByteArray),n≤f→n≤g→decB f n s=decB g n s
 | 0,0,_,_,_,_=>rfl
 | 0,g+1,n,s,h,_=>by
   have:n=0:=zo;subst this;rfl
 | f+1,0,n,s,_,h=>by
   have:n=0:=zo;subst this;rfl
 | f+1,g+1,n,s,h1,h2=>by
   unfold decB;by_cases h:n=0
   ·rw [ZBm h,ZBm h]
   ·rw [ZBl h,ZBl h];exact Zp9 f g _ _ zo zo
theorem ZAj {n:Nat} {s:ByteArray} (h:n≠0):decB n n s=decB (n/10) (n/10) (Zgl [((48+n%10:Nat):Int)]++s):=by
 obtain⟨m,rfl⟩:∃m,n=m+1:=⟨n - 1,zo⟩;rw [decB,ZBl h];exact Zp9 _ _ _ _ zo zo
theorem Zeo (l:List Int):(Zgl l).size=l.length:=by
 have key:∀(l:List Int) (s:ByteArray),(l.foldl (λr n=>r.push (UInt8.ofNat n.toNat)) s).size=s.size+l.length:=by
  intro l
  induction l with
  | nil=>intro s;rfl
  | cons a l ih=>intro s;rw [ZGe,ih,ByteArray.size_push,ZB5];omega
 unfold Zgl;rw [key];show 0+l.length=l.length;omega
def decZ (z:Int):ByteArray:=if z < 0 then Zgl [45]++decS z.natAbs else decS z.natAbs
def decQ (q:Rat):ByteArray:=if q.den=1 then decZ q.num else decZ q.num++Zgl [47]++decS q.den
theorem ZAk {k:Nat}:∀(f n:Nat) (s:ByteArray),n < 10 ^ k→(decB f n s).size≤s.size+k:=by
 induction k with
 | zero =>
   intro f n s h;have:n=0:=by simpa using h
   subst this;cases f<;>simp [decB]
 | succ k ih =>
   intro f n s h
   cases f with
   | zero=>simp [decB]
   | succ f =>
     unfold decB;split
     ·omega
     ·have:=ih f (n/10) (Zgl [((48+n%10:Nat):Int)]++s) (by rw [ZCz] at h;omega);rw [ZCk,Zeo] at this;simp only [ZB5,ZCf] at this;omega
theorem Zfz (n:Nat):(decS n).size≤5*(toL n).length+1:=by
 unfold decS;split
 ·rw [Zeo];simp
 ·have h1:=Zaf.1 (ZBn ((toL n).length))
  have h3:65536 ^ (toL n).length≤10 ^ (5*(toL n).length):=by
   rw [Nat.pow_mul];exact ZG7 zd _
  have:=ZAk (k:=5*(toL n).length) n n ByteArray.empty zo;have e:ByteArray.empty.size=0:=rfl;omega
theorem Zp7 (z:Int):(decZ z).size≤5*(toL z.natAbs).length+2:=by
 have:=Zfz z.natAbs;unfold decZ;split
 ·rw [ZCk,Zeo];simp only [ZB5,ZCf];omega
 ·omega
attribute [go_sem] underlying65
attribute [local go_sem] Zbv
def dig36:ByteArray:=⟨#[48,49,50,51,52,53,54,55,56,57,97,98,99,100,101,102,103,104,105,106,107,108,109,110,111,112,113,114,115,116,117,118,119,120,121,122]⟩
def dig200:ByteArray:=⟨#[48,48,48,49,48,50,48,51,48,52,48,53,48,54,48,55,48,56,48,57,49,48,49,49,49,50,49,51,49,52,49,53,49,54,49,55,49,56,49,57,50,48,50,49,50,50,50,51,50,52,50,53,50,54,50,55,50,56,50,57,51,48,51,49,51,50,51,51,51,52,51,53,51,54,51,55,51,56,51,57,52,48,52,49,52,50,52,51,52,52,52,53,52,54,52,55,52,56,52,57,53,48,53,49,53,50,53,51,53,52,53,53,53,54,53,55,53,56,53,57,54,48,54,49,54,50,54,51,54,52,54,53,54,54,54,55,54,56,54,57,55,48,55,49,55,50,55,51,55,52,55,53,55,54,55,55,55,56,55,57,56,48,56,49,56,50,56,51,56,52,56,53,56,54,56,55,56,56,56,57,57,48,57,49,57,50,57,51,57,52,57,53,57,54,57,55,57,56,57,57]⟩
theorem dig36_at:∀n,n < 10→dig36.extract n (n+1)=decS n:=by decide +kernel
theorem ZAg:∀n,n < 100→10≤n→dig200.extract (n*2) (n*2+2)=decS n:=by decide +kernel
theorem scSmall (n:Nat) (hn:n < 100):Pure prog 255 [iv (n:Int)] (.v (.string (decS n))):=by
 by_cases h:n < 10
 ·refine pI func255 rfl ntmps255 results255 call255 ?_
  (refine wkvp w_t w_t (w_s ?_);intros)
  simp (disch:=omega) only [go_sem];exact ZDv (λs=>AV.v (.string s)) (dig36_at n h)
 ·have e1:(n:Int)*2=((n*2:Nat):Int):=zo;have e2:((n*2:Nat):Int)+2=((n*2+2:Nat):Int):=zo;refine pI func255 rfl ntmps255 results255 call255 ?_
  (repeat' (first|(with_reducible first|refine stp ?_|apply gx1|apply gx2|apply gx3|apply gx4|apply gx5|apply gx6|apply gx7)|(with_reducible refine Zcl ?_;intro _)|((with_reducible refine gE ?_);(try simp (disch:=omega) only [go_sem,e1,e2,List.append_eq,ZCg])<;>first|rfl|omega)|with_reducible refine Zaj zd ?_))
  simp (disch:=omega) only [go_sem];exact ZDv (λs=>AV.v (.string s)) (ZAg n hn zo)
theorem scFormat (n:Nat) (hn:n < 100):Pure prog 211 [.v (.int .i64 (n:Int)),iv 10] (.v (.string (decS n))):=by
 have c:=scSmall n hn;refine pI func211 rfl ntmps211 results211 call211 ?_
 (refine wkvp w_t (w_1 c) (w_s ?_);intros)
 simp (disch:=omega) only [go_sem]
theorem scItoaI (n:Nat) (hn:n < 100):Pure prog 144 [iv (n:Int)] (.v (.string (decS n))):=by
 have c:=scFormat n hn;refine pI func144 rfl ntmps144 results144 call144 ?_
 (refine wkvp w_t (w_1 c) (w_s ?_);intros)
 simp (disch:=omega) only [go_sem]
theorem scItoa (n:Nat) (hn:n < 100):Pure prog 86 [iv (n:Int)] (.v (.string (decS n))):=by
 have c:=scItoaI n hn;refine pI func86 rfl ntmps86 results86 call86 ?_
 (refine wkvp w_t (w_1 c) (w_s ?_);intros)
 simp (disch:=omega) only [go_sem]
def c1 (s:ByteArray) (ss:List ByteArray) (n:Int):ByteArray:=s++ss.getD n.toNat ByteArray.empty
def Qt.txt (q:Qt) (ss:List ByteArray):ByteArray :=
 if q.k=3 then ⟨#[116,40]⟩++decS q.a.toNat++⟨#[41]⟩
 else (if q.k=2 then ⟨#[80,40]⟩ else ⟨#[83,40]⟩)++ss.getD q.a.toNat ByteArray.empty++⟨#[44,32]⟩++ss.getD q.b.toNat ByteArray.empty++⟨#[44,32]⟩++ss.getD q.c.toNat ByteArray.empty++⟨#[41]⟩
theorem ZAo {k a b c n m:Int} (h:Qt.chk ⟨k,a,b,c⟩ n m=0):(k=3∧0≤a∧a < 64∧a < m)∨(k≠3∧(k=1∨k=2)∧(0≤a∧a < n)∧(0≤b∧b < n)∧(0≤c∧c < n)):=by
 unfold Qt.chk Qt.ok at h;simp only [ZCj] at h;split at h
 ·split at h
  ·split at h<;>omega
  ·split at h<;>omega
 ·omega
theorem Zqx {ss:List ByteArray} {j:Nat} (h:j < ss.length):(ss.map strA).getD j .u=strA (ss.getD j ByteArray.empty):=by
 rw [ZB6,ZCt,ZBx h,ZB6,ZBx h];rfl
theorem Zf4 {ss:List ByteArray} (h:∀s∈ss,s.size≤1000) (j:Nat):(ss.getD j ByteArray.empty).size≤1000:=by
 rw [ZB6];rcases ZB7 j ss.length with h1 | h1
 ·rw [ZBx h1];exact h _ (ZBy h1)
 ·rw [ZDa h1];exact ZBw _
theorem quText (k a b c:Int) (ss:List ByteArray) (hl:ss.length≤1000000000) (hs:∀s∈ss,s.size≤1000):Pure prog 112 [Qt.av ⟨k,a,b,c⟩,.sl 1 (ss.map strA)] (if Qt.chk ⟨k,a,b,c⟩ ss.length 64=0 then .tup [strA (Qt.txt ⟨k,a,b,c⟩ ss),iv 0] else .tup [strA ⟨#[]⟩,iv (Qt.chk ⟨k,a,b,c⟩ ss.length 64)]):=by
 have cc:=Zxz k a b c ss.length 64;have ok:=@ZAo k a b c ss.length 64;generalize Qt.chk ⟨k,a,b,c⟩ ss.length 64=v at *;by_cases hv:v=0
 ·subst hv;rw [ZBm rfl];rcases ok rfl with⟨rfl,h1,h2,h3⟩ | ⟨h0,h1,h2,h3,h4⟩
  ·obtain⟨n,rfl⟩:∃n:Nat,a=n:=⟨a.toNat,zo⟩;have ci:=scItoa n zo;have z:=Zfz n;have zl:(toL n).length≤1:=Zaf.2 zo;have e:Qt.txt ⟨3,n,b,c⟩ ss=⟨#[116,40]⟩++decS n++⟨#[41]⟩:=by unfold Qt.txt;rfl
   rw [e];generalize decS n=s at *;have s1:(⟨#[116,40]⟩:ByteArray).size=2:=rfl;have s2:(⟨#[41]⟩:ByteArray).size=1:=rfl;refine pI func112 rfl ntmps112 results112 call112 ?_;exact wkld (w_4 @ZCk s1 s2 @Zcg) (w_2 cc ci) w_t w_t w_z
  ·obtain⟨x,rfl⟩:∃n:Nat,a=n:=⟨a.toNat,zo⟩;obtain⟨y,rfl⟩:∃n:Nat,b=n:=⟨b.toNat,zo⟩;obtain⟨w,rfl⟩:∃n:Nat,c=n:=⟨c.toNat,zo⟩;have hx:=Zqx (ss:=ss) (j:=x) zo;have hy:=Zqx (ss:=ss) (j:=y) zo;have hw:=Zqx (ss:=ss) (j:=w) zo;have zx:=Zf4 hs x;have zy:=Zf4 hs y;have zw:=Zf4 hs w;unfold Qt.txt;simp only [ZE9];generalize ss.getD x ByteArray.empty=sx at *;generalize ss.getD y ByteArray.empty=sy at *;generalize ss.getD w ByteArray.empty=sw at *;have s1:(⟨#[83,40]⟩:ByteArray).size=2:=rfl;have s2:(⟨#[80,40]⟩:ByteArray).size=2:=rfl;have s3:(⟨#[44,32]⟩:ByteArray).size=2:=rfl
   have s4:(⟨#[41]⟩:ByteArray).size=1:=rfl;refine pI func112 rfl ntmps112 results112 call112 ?_;exact wkld (w_9 @ZCk s1 s2 s3 s4 @Zcg hx hy hw) (w_1 cc) w_t w_t w_z
 ·rw [ZBl hv];refine pI func112 rfl ntmps112 results112 call112 ?_;exact wkld (w_1 @Zcg) (w_1 cc) w_t w_t w_z
def isP (a b c:Int) (p:Nat):Bool:=decide (a=(p:Int)∨b=(p:Int)∨c=(p:Int))
def Qt.pts (q:Qt):List Int:=if q.ok=true∧q.k≠3 then ((List.range 40).filter (isP q.a q.b q.c)).map λn:Nat=>(n:Int) else []
theorem Zkc (k a b c:Int):Pure prog 231 [Qt.av ⟨k,a,b,c⟩] (ivs (Qt.pts ⟨k,a,b,c⟩)):=by
 have c1:=Zk8 k a b c;have c2:=quOf k a b c;unfold Qt.pts;generalize Qt.ok ⟨k,a,b,c⟩=v at *;by_cases hv:v=true∧k≠3
 ·obtain⟨rfl,hk⟩:=hv;rw [ZBm ⟨rfl,hk⟩];refine pI func231 rfl ntmps231 results231 call231 ?_
  (refine wkap w_t (w_1 c1) (w_r 0) (w_s ?_);intros)
  refine Zff (Frz.nilOwn (d:=3) 38 1 3 (gC)) ?_;refine Zad (ι:=Nat) (λi e m=>i≤40∧e 14=iv i∧(∃g,e 1=.pbox 1 g 0∧m 1=some (.box g 91 [iv k,iv a,iv b,iv c] false))∧∃sv,e 3=.own 38 sv∧m 38=some (.row sv 3 1 ((((List.range i).filter (isP a b c)).map λn:Nat=>(n:Int)).map iv) 0)) (λi=>40 - i) 0 zr ?_ ?_
  ·rintro i e m ⟨hi,e14,⟨g,e1,m1⟩,sv,e3,m38⟩
   by_cases h40:i < 40
   ·have hstep:(List.range (i+1)).filter (isP a b c)=(List.range i).filter (isP a b c)++(if a=i∨b=i∨c=i then [i] else []):=by
     rw [List.range_succ,ZEn];congr 1;by_cases h:a=i∨b=i∨c=i
     ·have hp:isP a b c i=true:=ZBu h;rw [ZBm h,ZE0,ZBm hp];rfl
     ·have hp:isP a b c i=false:=ZBv h;rw [ZBl h,ZE0,ZBl (by rw [hp];simp)];rfl
    have hlen:((List.range i).filter (isP a b c)).length≤40:=ZBs (ZF8 _ _) (by simp;omega);by_cases h:a=i∨b=i∨c=i
    ·rw [ZBm h] at hstep;generalize (List.range i).filter (isP a b c)=l at *;(focus (refine wkap (w_6 e14 e1 m1 e3 m38 @Zcg) (w_1 c2) (w_r 0) ?_;(repeat' first|exact w_t|apply w_l);all_goals intros));all_goals refine⟨i+1,⟨zo,gS,⟨_,gW e1,gW m1⟩,_,gW e3,?_⟩,zo⟩
     all_goals (rw [hstep,ZCe,ZCe];exact gC)
    ·rw [ZBl h,ZC6] at hstep;generalize (List.range i).filter (isP a b c)=l at *
     (refine wkap (w_6 e14 e1 m1 e3 m38 @Zcg) (w_1 c2) (w_r 0) (w_s ?_);intros)
     all_goals refine⟨i+1,⟨zo,gS,⟨_,gW e1,gW m1⟩,_,gW e3,?_⟩,zo⟩
     all_goals (rw [hstep];exact gW m38)
   ·have:i=40:=zo;subst this
    (refine wkap (w_6 e14 e1 m1 e3 m38 @Zcg) w_t (w_r 0) (w_s ?_);intros)
    simp (disch:=omega) only [go_sem,m38,ZBt]
  ·refine⟨zo,gC,⟨_,gC,gC⟩,_,gC,by(simp (disch:=omega) only [go_sem,List.range_zero,List.filter_nil]<;>repeat' first|rfl|refine⟨?_,?_⟩)⟩
 ·rw [ZBl hv];refine Zhj (r:=.v (.slice none 0 0)) ?_ (.nil 1);cases v
  ·refine pI func231 rfl ntmps231 results231 call231 ?_;exact wklp w_t (w_1 c1) w_t (w_r 0) w_z
  ·have hk:k=3:=by
    rcases Decidable.em (k=3) with h | h
    ·exact h
    ·exact(hv ⟨rfl,h⟩).elim
   subst hk;refine pI func231 rfl ntmps231 results231 call231 ?_;exact wklp w_t (w_1 c1) w_t (w_r 0) w_z
attribute [go_sem] underlying87 underlying186 szPt byPt zPt zVec
attribute [local go_sem] Zu9
abbrev ptQ (x y:Rat):AV:=.agg [.v (.bool (decide (x.num < 0))),lim (toL x.num.natAbs),lim (toL x.den),.v (.bool (decide (y.num < 0))),lim (toL y.num.natAbs),lim (toL y.den)]
theorem Zo7 (a b c d:Rat) {j:Nat} (ha:Sz a j) (hb:Sz b j) (hc:Sz c j) (hd:Sz d j) (hj:j≤100000):Pure prog 153 [ptQ a b,ptQ c d] (ptQ (c - a) (d - b)):=by
 have c1:=Zgt c a hc ha zo zo;have c2:=Zgt d b hd hb zo zo;generalize c - a=u at *;generalize d - b=v at *;refine pI func153 rfl ntmps153 results153 call153 ?_;(focus (refine wkad w_t (w_2 c1 c2) (w_1 (w_d 1 [(4,ratQ u),(9,ratQ v)] [] [4])) ?_;(repeat' first|exact w_t|apply w_l);all_goals intros));simp (disch:=omega) only [go_sem]
theorem plCross (a b c d:Rat) {j:Nat} (ha:Sz a j) (hb:Sz b j) (hc:Sz c j) (hd:Sz d j) (hj:j≤100000):Pure prog 154 [ptQ a b,ptQ c d] (ratQ (a*d - b*c)):=by
 have c1:=Zfo a d ha hd zo zo;have c2:=Zfo b c hb hc zo zo;have c3:=Zgt (a*d) (b*c) (ha.mul hd) (hb.mul hc) zo zo;generalize a*d - b*c=x at *;generalize a*d=u at *;generalize b*c=v at *;refine pI func154 rfl ntmps154 results154 call154 ?_;(focus (refine wkad w_t (w_3 c1 c2 c3) (w_1 (w_d 1 [(4,ratQ u),(9,ratQ v),(10,ratQ x)] [] [4])) ?_;(repeat' first|exact w_t|apply w_l);all_goals intros));simp (disch:=omega) only [go_sem]
theorem plDot (a b c d:Rat) {j:Nat} (ha:Sz a j) (hb:Sz b j) (hc:Sz c j) (hd:Sz d j) (hj:j≤100000):Pure prog 155 [ptQ a b,ptQ c d] (ratQ (a*c+b*d)):=by
 have c1:=Zfo a c ha hc zo zo;have c2:=Zfo b d hb hd zo zo;have c3:=Zju (a*c) (b*d) (ha.mul hc) (hb.mul hd) zo zo;generalize a*c+b*d=x at *;generalize a*c=u at *;generalize b*d=v at *;refine pI func155 rfl ntmps155 results155 call155 ?_;(focus (refine wkad w_t (w_3 c1 c2 c3) (w_1 (w_d 1 [(4,ratQ u),(9,ratQ v),(10,ratQ x)] [] [4])) ?_;(repeat' first|exact w_t|apply w_l);all_goals intros));simp (disch:=omega) only [go_sem]
abbrev PQ:=Rat × Rat
abbrev PQ.av (p:PQ):AV:=ptQ p.1 p.2
def PQ.sz (p:PQ) (j:Nat):Prop:=Sz p.1 j∧Sz p.2 j
def Zci (p q r s:PQ):Rat:=(q.1 - p.1)*(s.2 - r.2) - (q.2 - p.2)*(s.1 - r.1)
def dotP (p q r s:PQ):Rat:=(q.1 - p.1)*(s.1 - r.1)+(q.2 - p.2)*(s.2 - r.2)
theorem Ze0 {p q r s:PQ} {j:Nat} (hp:p.sz j) (hq:q.sz j) (hr:r.sz j) (hs:s.sz j):Sz (Zci p q r s) (8*j+5):=by
 unfold Zci;exact(((hq.1.sub hp.1).mul (hs.2.sub hr.2)).sub ((hq.2.sub hp.2).mul (hs.1.sub hr.1))).mono zo
theorem Zda {p q r s:PQ} {j:Nat} (hp:p.sz j) (hq:q.sz j) (hr:r.sz j) (hs:s.sz j):Sz (dotP p q r s) (8*j+5):=by
 unfold dotP;exact(((hq.1.sub hp.1).mul (hs.1.sub hr.1)).add ((hq.2.sub hp.2).mul (hs.2.sub hr.2))).mono zo
theorem Zio (p q r s:PQ) {j:Nat} (hp:p.sz j) (hq:q.sz j) (hr:r.sz j) (hs:s.sz j) (hj:j≤10000):Pure prog 91 [p.av,q.av,r.av,s.av] (ratQ (Zci p q r s)):=by
 have c1:=Zo7 p.1 p.2 q.1 q.2 hp.1 hp.2 hq.1 hq.2 zo;have c2:=Zo7 r.1 r.2 s.1 s.2 hr.1 hr.2 hs.1 hs.2 zo;have c3:=plCross (q.1 - p.1) (q.2 - p.2) (s.1 - r.1) (s.2 - r.2) (hq.1.sub hp.1) (hq.2.sub hp.2) (hs.1.sub hr.1) (hs.2.sub hr.2) zo;unfold Zci;obtain⟨p1,p2⟩:=p;obtain⟨q1,q2⟩:=q;obtain⟨r1,r2⟩:=r;obtain⟨s1,s2⟩:=s;simp only at *;generalize (q1 - p1)*(s2 - r2) - (q2 - p2)*(s1 - r1)=x at *;generalize q1 - p1=a at *;generalize q2 - p2=b at *;generalize s1 - r1=c at *;generalize s2 - r2=d at *;refine pI func91 rfl ntmps91 results91 call91 ?_;(focus (refine wkad w_t (w_3 c1 c2 c3) (w_1 (w_d 1 [(2,ptQ a b),(5,ptQ c d),(6,ratQ x)] [] [8])) ?_;(repeat' first|exact w_t|apply w_l);all_goals intros))
 simp (disch:=omega) only [go_sem]
theorem Zth (p q r s:PQ) {j:Nat} (hp:p.sz j) (hq:q.sz j) (hr:r.sz j) (hs:s.sz j) (hj:j≤10000):Pure prog 92 [p.av,q.av,r.av,s.av] (ratQ (dotP p q r s)):=by
 have c1:=Zo7 p.1 p.2 q.1 q.2 hp.1 hp.2 hq.1 hq.2 zo;have c2:=Zo7 r.1 r.2 s.1 s.2 hr.1 hr.2 hs.1 hs.2 zo;have c3:=plDot (q.1 - p.1) (q.2 - p.2) (s.1 - r.1) (s.2 - r.2) (hq.1.sub hp.1) (hq.2.sub hp.2) (hs.1.sub hr.1) (hs.2.sub hr.2) zo;unfold dotP;obtain⟨p1,p2⟩:=p;obtain⟨q1,q2⟩:=q;obtain⟨r1,r2⟩:=r;obtain⟨s1,s2⟩:=s;simp only at *;generalize (q1 - p1)*(s1 - r1)+(q2 - p2)*(s2 - r2)=x at *;generalize q1 - p1=a at *;generalize q2 - p2=b at *;generalize s1 - r1=c at *;generalize s2 - r2=d at *;refine pI func92 rfl ntmps92 results92 call92 ?_;(focus (refine wkad w_t (w_3 c1 c2 c3) (w_1 (w_d 1 [(2,ptQ a b),(5,ptQ c d),(6,ratQ x)] [] [8])) ?_;(repeat' first|exact w_t|apply w_l);all_goals intros))
 simp (disch:=omega) only [go_sem]
attribute [go_sem] underlying85 underlying53
def Qt.val (q:Qt) (ps:List PQ) (rs:List Rat):Rat :=
 if q.k=3 then rs.getD q.a.toNat 0
 else if q.k=1 then Zci (ps.getD q.a.toNat (0,0)) (ps.getD q.b.toNat (0,0)) (ps.getD q.a.toNat (0,0)) (ps.getD q.c.toNat (0,0))
 else 2*dotP (ps.getD q.b.toNat (0,0)) (ps.getD q.a.toNat (0,0)) (ps.getD q.b.toNat (0,0)) (ps.getD q.c.toNat (0,0))
theorem Zsf {k a b c n m:Int} (h:Qt.chk ⟨k,a,b,c⟩ n m=0):(k=3∧0≤a∧a < 64∧a < m)∨(k≠3∧(k=1∨k=2)∧(0≤a∧a < n)∧(0≤b∧b < n)∧(0≤c∧c < n)):=ZAo h
abbrev zeroQ:AV:=.agg [.v (.bool false),.v (.slice none 0 0),.v (.slice none 0 0)]
theorem quValue (k a b c:Int) (ps:List PQ) (rs:List Rat) {j:Nat} (hl:ps.length≤1000000000) (hr:rs.length≤1000000000) (hp:∀p∈ps,p.sz j) (hq:∀r∈rs,Sz r j) (hj:j≤10000) :
 Pure prog 50 [Qt.av ⟨k,a,b,c⟩,.sl 6 (ps.map PQ.av),.sl 3 (rs.map ratQ)] (if Qt.chk ⟨k,a,b,c⟩ ps.length rs.length=0 then .tup [ratQ (Qt.val ⟨k,a,b,c⟩ ps rs),iv 0] else .tup [zeroQ,iv (Qt.chk ⟨k,a,b,c⟩ ps.length rs.length)]):=by
 have cc:=Zxz k a b c ps.length rs.length;have ok:=@Zsf k a b c ps.length rs.length;generalize Qt.chk ⟨k,a,b,c⟩ ps.length rs.length=v at *;by_cases hv:v=0
 ·subst hv;rw [ZBm rfl];rcases ok rfl with⟨rfl,h1,h2,h3⟩ | ⟨h0,h1,h2,h3,h4⟩
  ·obtain⟨x,rfl⟩:∃n:Nat,a=n:=⟨a.toNat,zo⟩;have hx:=Zfw (f:=ratQ) (l:=rs) (d:=0) (j:=x) zo;rw [show Qt.val ⟨3,x,b,c⟩ ps rs=rs.getD x 0 from by unfold Qt.val;rfl];generalize rs.getD x 0=q at *;refine pI func50 rfl ntmps50 results50 call50 ?_;(focus (refine wkld (w_2 @Zcg hx) (w_1 cc) w_t w_t ?_;(repeat' first|exact w_t|apply w_l);all_goals intros))
  ·obtain⟨x,rfl⟩:∃n:Nat,a=n:=⟨a.toNat,zo⟩;obtain⟨y,rfl⟩:∃n:Nat,b=n:=⟨b.toNat,zo⟩;obtain⟨w,rfl⟩:∃n:Nat,c=n:=⟨c.toNat,zo⟩;have hx:=Zfw (f:=PQ.av) (l:=ps) (d:=(0,0)) (j:=x) zo;have hy:=Zfw (f:=PQ.av) (l:=ps) (d:=(0,0)) (j:=y) zo;have hw:=Zfw (f:=PQ.av) (l:=ps) (d:=(0,0)) (j:=w) zo;have zx:=hp _ (Zdr (d:=(0,0)) (show x < ps.length by omega));have zy:=hp _ (Zdr (d:=(0,0)) (show y < ps.length by omega));have zw:=hp _ (Zdr (d:=(0,0)) (show w < ps.length by omega));rw [show Qt.val ⟨k,x,y,w⟩ ps rs=if k=1 then Zci (ps.getD x (0,0)) (ps.getD y (0,0)) (ps.getD x (0,0)) (ps.getD w (0,0)) else 2*dotP (ps.getD y (0,0)) (ps.getD x (0,0)) (ps.getD y (0,0)) (ps.getD w (0,0)) from by
    unfold Qt.val;simp only [ZE9];rw [ZBl h0]]
   generalize ps.getD x (0,0)=X at *;generalize ps.getD y (0,0)=Y at *;generalize ps.getD w (0,0)=W at *;have k1:=Zio X Y X W zx zy zx zw zo;have k2:=Zth Y X Y W zy zx zy zw zo;have k3:Pure prog 27 [iv 2] (ratQ 2):=Zk6 2 zo;have k4:=Zfo 2 (dotP Y X Y W) (Zlg 2 zo) (Zda zy zx zy zw) zo zo;have e2:((2:Nat):Rat)=2:=rfl;generalize Zci X Y X W=u at *;generalize 2*dotP Y X Y W=z at *;generalize dotP Y X Y W=v at *;generalize (2:Rat)=tw at *;obtain⟨X1,X2⟩:=X;obtain⟨Y1,Y2⟩:=Y;obtain⟨W1,W2⟩:=W;rcases h1 with rfl | rfl
   ·rw [ZBm rfl];refine pI func50 rfl ntmps50 results50 call50 ?_;(focus (refine wkld (w_4 @Zcg hx hy hw) (w_2 cc k1) w_t w_t ?_;(repeat' first|exact w_t|apply w_l);all_goals intros))
   ·rw [ZBl zo];refine pI func50 rfl ntmps50 results50 call50 ?_;(focus (refine wkld (w_4 @Zcg hx hy hw) (w_4 cc k2 k3 k4) w_t (w_2 (w_d 6 [] [] []) (w_d 9 [(0,ratQ tw),(5,ratQ v),(6,ratQ z)] [] [6])) ?_;(repeat' first|exact w_t|apply w_l);all_goals intros))
 ·rw [ZBl hv];refine pI func50 rfl ntmps50 results50 call50 ?_;(focus (refine wkld (w_1 @Zcg) (w_1 cc) w_t w_t ?_;(repeat' first|exact w_t|apply w_l);all_goals intros))
def shortB (ss:List ByteArray):Bool:=decide (ss.length≤60) && ss.all λs=>decide (s.size≤30)
section
attribute [local go_sem] underlying3 underlying2 underlying4 underlying35 underlying91 underlying22 underlying65 underlying9 underlying28 underlying85 underlying87 underlying53 sz3 by3 z3 Zag Zao Zbp zErr Za5 Zbv zStr Zah Bool.and_self Zaq zRat szPt byPt zPt
end
attribute [local go_sem] beq_self_eq_true
section
variable {N n:Nat} {cs:List AV}
end
theorem Zal:Zd2 prog 91=some 32:=by kernel_rfl
theorem Zbb:szOf prog 76=some 1:=by kernel_rfl
theorem zSlQ:Zan prog 76=some (.slice none 0 0):=by kernel_rfl
theorem Zma:szOf prog 113=some 1:=by kernel_rfl
theorem Zu0:Zan prog 113=some (.slice none 0 0):=by kernel_rfl
theorem szQT:szOf prog 78=some 4:=by kernel_rfl
theorem byQT:Zd2 prog 78=some 80:=by kernel_rfl
theorem zQT:Zan prog 78=some (.agg #[.bool false,.slice none 0 0,.slice none 0 0,.slice none 0 0]):=by kernel_rfl
theorem Za7:szOf prog 33=some 1:=by kernel_rfl
theorem zSlT:Zan prog 33=some (.slice none 0 0):=by kernel_rfl
theorem szQP:szOf prog 34=some 1:=by kernel_rfl
theorem zQP:Zan prog 34=some (.slice none 0 0):=by kernel_rfl
theorem Zos:szOf prog 227=some 2:=by kernel_rfl
theorem Zjt:szOf prog 164=some 1:=by kernel_rfl
theorem Zoh:Zan prog 164=some (.pointer none):=by kernel_rfl
theorem Zou:szOf prog 225=some 1:=by kernel_rfl
def expOk (x:Int):Bool:=!decide (x < 0) && !decide (1048576 < x)
def rightB (l:List Int):Bool:=decide (l.length≤64) && !(l.getLast?.getD 1 == 0) && l.all expOk
attribute [go_sem] underlying213
def Sm (l:List Int):Prop:=l.length≤1000∧∀j,0≤gI l j∧gI l j≤16777216
def sumT (l:List Int):Nat→Int
 | 0=>0
 | k+1=>sumT l k+gI l k
theorem Zw3 {l:List Int} (h:Sm l):∀k,0≤sumT l k∧sumT l k≤k*16777216
 | 0=>by simp [sumT]
 | k+1=>by
   have h1:=Zw3 h k;have h2:=h.2 k;simp only [sumT];omega
theorem Zpo (l:List Int) (hs:Sm l):Pure prog 283 [ints l] (.v (.int .i64 (sumT l l.length))):=by
 unfold ints;refine Zaa (tok:=0) (rs:=[.tmp 2]) func283 rfl ntmps283 results283 call283 zr zs ?_;have hl:=hs.1;(focus (refine wkap w_t w_t (w_r 0) ?_;(repeat' first|exact w_t|apply w_l);all_goals intros));refine Zta (ι:=Nat) (λk st=>k≤l.length∧st.env 6=.sl 1 (l.map λn=>AV.v (.int .i64 n))∧st.env 7=.v (.int .i64 l.length)∧st.env 8=.v (.int .i64 k)∧st.env 3=.v (.int .i64 (sumT l k))) (λk=>l.length - k) 0 zr ?_ ?_
 ·rintro k st ⟨hk,e6,e7,e8,e3⟩
  by_cases hlt:k < l.length
  ·have b1:=Zw3 hs k;have b2:=hs.2 k;(focus (refine wkap (w_4 e6 e7 e8 e3) w_t (w_r 0) ?_;(repeat' first|exact w_t|apply w_l);all_goals intros));exact⟨k+1,⟨zo,by simp (disch:=omega) only [go_sem,e6],by simp (disch:=omega) only [go_sem,e7],by simp (disch:=omega) only [go_sem,e8];rfl,by simp (disch:=omega) only [go_sem,e3];rfl⟩,zo⟩
  ·have hk':k=l.length:=zo;subst hk';(focus (refine wkap (w_4 e6 e7 e8 e3) w_t (w_r 0) ?_;(repeat' first|exact w_t|apply w_l);all_goals intros));simp (disch:=omega) only [go_sem,e3]
 ·exact⟨ZBw _,by simp (disch:=omega) only [go_sem],by simp (disch:=omega) only [go_sem],by simp (disch:=omega) only [go_sem];rfl,by simp (disch:=omega) only [go_sem];rfl⟩
def expI (l:List Int) (v:Int):Int:=if v < 0 then 0 else gI l v.toNat
theorem exp_of (l:List Int) (k:Nat):expI l (k:Int)=gI l k:=by unfold expI;rw [ZBl zo];rfl
theorem toNat_lt {l:List Int} {v:Int} (h0:0≤v) (h:v < l.length):v.toNat < l.length:=zo
theorem monExp (l:List Int) (v:Int):Pure prog 284 [ints l,.v (.int .i64 v)] (.v (.int .i64 (expI l v))):=by
 unfold ints;refine Zaa (tok:=0) (rs:=[.tmp 4]) func284 rfl ntmps284 results284 call284 zr zs ?_;by_cases h0:v < 0
 ·unfold expI;rw [ZBm h0];(focus (refine wkap w_t w_t (w_r 0) ?_;(repeat' first|exact w_t|apply w_l);all_goals intros));simp (disch:=omega) only [go_sem]
 ·unfold expI;rw [ZBl h0];by_cases h1:v < l.length
  ·have h2:=toNat_lt zo h1;(focus (refine wkap w_t w_t (w_r 0) ?_;(repeat' first|exact w_t|apply w_l);all_goals intros));simp (disch:=omega) only [go_sem]
  ·rw [Zc4 zo];(focus (refine wkap w_t w_t (w_r 0) ?_;(repeat' first|exact w_t|apply w_l);all_goals intros));simp (disch:=omega) only [go_sem]
def sgn (n:Int):Int:=if n < 0 then -1 else if 0 < n then 1 else 0
def Zhu (l:List Int):Nat→Nat
 | 0=>0
 | n+1=>if gI l n=0 then Zhu l n else n+1
theorem Zsw (l:List Int):∀n,Zhu l n≤n
 | 0=>ZBn _
 | n+1=>by
   simp only [Zhu];split
   ·exact ZBs (Zsw l n) zo
   ·omega
def Zj6 (l:List Int):List Int:=l.take (Zhu l l.length)
theorem Zl9 {l:List Int} {k:Nat} (h:0 < k) (hx:gI l (k - 1)≠0):Zhu l k=k:=by
 cases k with
 | zero=>omega
 | succ k=>simp only [Zhu];rw [ZBl (by simpa using hx)]
theorem Zu3 {l:List Int} {k:Nat} (h:0 < k) (hx:gI l (k - 1)=0):Zhu l (k - 1)=Zhu l k:=by
 cases k with
 | zero=>omega
 | succ k=>simp only [Zhu];rw [ZBm (by simpa using hx)];rfl
theorem Zqb {k:Nat} (h:0 < k):(k:Int) - 1=((k - 1:Nat):Int):=zo
theorem monTrim' (l:List Int) (hs:l.length≤1000):Pure prog 280 [ints l] (if Zhu l l.length=0 then .v (.slice none 0 0) else ints (Zj6 l)):=by
 have hle:=Zsw l l.length
 have hcode:∀r:AV,(Zhu l l.length=0→r=.v (.slice none 0 0))→(Zhu l l.length≠0→r=.sl 1 ((l.map λn=>AV.v (.int .i64 n)).take (Zhu l l.length)))→Pure prog 280 [ints l] r:=by
  intro r h1 h2;unfold ints;refine Zaa (tok:=0) (rs:=[.tmp 2]) func280 rfl ntmps280 results280 call280 zr zs ?_;(focus (refine wkap w_t w_t (w_r 0) ?_;(repeat' first|exact w_t|apply w_l);all_goals intros));refine Zta (ι:=Nat) (λk st=>k≤l.length∧st.env 0=.sl 1 (l.map λn=>AV.v (.int .i64 n))∧st.env 3=.v (.int .i64 k)∧Zhu l k=Zhu l l.length) (λk=>k) l.length zr ?_ ?_
  ·rintro k st ⟨hk,e0,e3,ha⟩
   by_cases h0:0 < k
   ·by_cases hx:gI l (k - 1)=0
    ·(focus (refine wkap (w_2 e0 e3) w_t (w_r 0) ?_;(repeat' first|exact w_t|apply w_l);all_goals intros));refine⟨k - 1,⟨zo,by simp (disch:=omega) only [go_sem,e0],by simp (disch:=omega) only [go_sem,e3];rw [Zqb h0],?_⟩,zo⟩;rw [Zu3 h0 hx,ha]
    ·rw [Zl9 h0 hx] at ha;rw [←ha] at h1 h2 hle;rw [h2 zo];(focus (refine wkap (w_2 e0 e3) w_t (w_r 0) ?_;(repeat' first|exact w_t|apply w_l);all_goals intros));simp (disch:=omega) only [go_sem]
   ·have hk0:k=0:=zo;subst hk0;have h3:Zhu l l.length=0:=ha.symm;rw [h1 h3];(focus (refine wkap (w_2 e0 e3) w_t (w_r 0) ?_;(repeat' first|exact w_t|apply w_l);all_goals intros));simp (disch:=omega) only [go_sem]
  ·exact⟨ZBn _,by simp (disch:=omega) only [go_sem],by simp (disch:=omega) only [go_sem],rfl⟩
 refine hcode _ (λh=>by rw [ZBm h]) (λh=>by rw [ZBl h];unfold ints Zj6;rw [List.map_take])
theorem monTrim (l:List Int) (hs:l.length≤1000):Pure prog 280 [ints l] (ints (Zj6 l)):=by
 refine(monTrim' l hs).wk ?_;split
 ·rename_i h;unfold Zj6 ints;rw [h];exact .nil 1
 ·exact .refl _
theorem addF (x y:Int) (h:-9223372036854775808≤x+y∧x+y≤9223372036854775807):Pure prog 282 [.v (.int .i64 x),.v (.int .i64 y)] (.v (.int .i64 (x+y))):=by
 refine Zaa (tok:=0) (rs:=[.tmp 4]) func282 rfl ntmps282 results282 call282 zr zs ?_;(focus (refine wkap w_t w_t (w_r 0) ?_;(repeat' first|exact w_t|apply w_l);all_goals intros));simp (disch:=omega) only [go_sem]
def zipI (F:Int→Int→Int) (a b:List Int):List Int:=(List.range (max a.length b.length)).map λi=>F (gI a i) (gI b i)
def upto (n k:Nat) (F:Nat→Int):List AV:=(List.range n).map λi=>AV.v (.int .i64 (if i < k then F i else 0))
theorem upto_len (n k:Nat) (F:Nat→Int):(upto n k F).length=n:=by simp [upto]
theorem Zom (n:Nat) (F:Nat→Int):List.replicate n (AV.v (.int .i64 0))=upto n 0 F:=by
 refine List.ext_getElem (by simp [upto]) λj h1 h2=>?_;simp [upto]
theorem upto_set {n k:Nat} {F:Nat→Int} (h:k < n):(upto n k F).set k (.v (.int .i64 (F k)))=upto n (k+1) F:=by
 refine List.ext_getElem (by simp [upto]) λj h1 h2=>?_;simp only [upto,List.getElem_set,ZGa,List.getElem_range];by_cases hj:k=j
 ·subst hj;simp
 ·rw [ZBl hj];by_cases h3:j < k
  ·rw [ZBm h3,ZBm zo]
  ·rw [ZBl h3,ZBl zo]
theorem Zwj (n:Nat) (F:Nat→Int):upto n n F=((List.range n).map F).map λx=>AV.v (.int .i64 x):=by
 refine List.ext_getElem (by simp [upto]) λj h1 h2=>?_;have hj:j < n:=by simpa [upto] using h1
 simp [upto,hj]
theorem Zvv (a b:List Int) (g:Nat) (F:Int→Int→Int) (ha:a.length≤1000) (hb:b.length≤1000)
 (hF:∀k,k < max a.length b.length→Pure prog g [.v (.int .i64 (gI a k)),.v (.int .i64 (gI b k))] (.v (.int .i64 (F (gI a k) (gI b k))))):Pure prog 281 [ints a,ints b,.fn g []] (ints (zipI F a b)):=by
 unfold ints;refine Zaa (tok:=0) (rs:=[.tmp 6]) func281 rfl ntmps281 results281 call281 zr zs ?_;obtain⟨n,hn⟩:∃n,n=max a.length b.length:=⟨_,rfl⟩;have hmx:max (a.length:Int) (b.length:Int)=(n:Int):=zo
 (repeat' (first|(with_reducible first|refine stp ?_|apply gx1|apply gx2|apply gx3|apply gx4|apply gx5|apply gx6|apply gx7)|(with_reducible refine Zcl ?_;intro _)|((with_reducible refine gE ?_);(try simp (disch:=omega) only [go_sem,hmx,Zom,ZBu,ZBv,ZBm,ZBl,Int.reduceAdd,Int.reduceSub,Int.reduceToNat,ZB3])<;>first|rfl|omega)|with_reducible refine Zaj zd ?_|((with_reducible first|apply Zek|apply Zel);all_goals (intro hc;(try simp only [bool_to_prop] at hc);try (exfalso;omega)))))
 rename_i sv;refine Zta (ι:=Nat) (λk st=>k≤n∧st.env 0=.sl 1 (a.map λn=>AV.v (.int .i64 n))∧st.env 1=.sl 1 (b.map λn=>AV.v (.int .i64 n))∧st.env 2=.fn g []∧st.env 7=.own 16 sv∧st.env 18=.v (.int .i64 n)∧st.env 19=.v (.int .i64 k)∧st.mem 16=some (.row sv 3 1 (upto n k λi=>F (gI a i) (gI b i)) 0)) (λk=>n - k) 0 zr ?_ ?_
 ·rintro k st ⟨hk,e0,e1,e2,e7,e18,e19,em⟩
  have hu:=upto_len n k λi=>F (gI a i) (gI b i);by_cases hlt:k < n
  ·have hFk:=hF k zo;have hst:=@upto_set n k (λi=>F (gI a i) (gI b i)) hlt;have key:∀(x y:Int) (Q:AE→St→Prop),gI a k=x→gI b k=y→True:=λ_ _ _ _ _=>trivial;by_cases h1:k < a.length<;>by_cases h2:k < b.length
   ·(focus (refine wkap (w_10 e0 e1 e2 e7 e18 e19 em hmx hu hst) (w_1 hFk) (w_r 0) ?_;(repeat' first|exact w_t|apply w_l);all_goals intros));refine⟨k+1,⟨zo,by simp (disch:=omega) only [go_sem,e0],by simp (disch:=omega) only [go_sem,e1],by simp (disch:=omega) only [go_sem,e2],by simp (disch:=omega) only [go_sem,e7],by simp (disch:=omega) only [go_sem,e18],by simp (disch:=omega) only [go_sem,e19];rfl,by simp (disch:=omega) only [go_sem]⟩,zo⟩
   ·have g2:=Zc4 (l:=b) (k:=k) zo;rw [g2] at hFk;rw [g2] at hst;(focus (refine wkap (w_10 e0 e1 e2 e7 e18 e19 em hmx hu hst) (w_1 hFk) (w_r 0) ?_;(repeat' first|exact w_t|apply w_l);all_goals intros));refine⟨k+1,⟨zo,by simp (disch:=omega) only [go_sem,e0],by simp (disch:=omega) only [go_sem,e1],by simp (disch:=omega) only [go_sem,e2],by simp (disch:=omega) only [go_sem,e7],by simp (disch:=omega) only [go_sem,e18],by simp (disch:=omega) only [go_sem,e19];rfl,by simp (disch:=omega) only [go_sem]⟩,zo⟩
   ·have g2:=Zc4 (l:=a) (k:=k) zo;rw [g2] at hFk;rw [g2] at hst;(focus (refine wkap (w_10 e0 e1 e2 e7 e18 e19 em hmx hu hst) (w_1 hFk) (w_r 0) ?_;(repeat' first|exact w_t|apply w_l);all_goals intros));refine⟨k+1,⟨zo,by simp (disch:=omega) only [go_sem,e0],by simp (disch:=omega) only [go_sem,e1],by simp (disch:=omega) only [go_sem,e2],by simp (disch:=omega) only [go_sem,e7],by simp (disch:=omega) only [go_sem,e18],by simp (disch:=omega) only [go_sem,e19];rfl,by simp (disch:=omega) only [go_sem]⟩,zo⟩
   ·exfalso;omega
  ·have hk':k=n:=zo;subst hk';(focus (refine wkap (w_8 e0 e1 e2 e7 e18 e19 em hmx) w_t (w_r 0) ?_;(repeat' first|exact w_t|apply w_l);all_goals intros));unfold zipI;rw [←hn,←Zwj];simp (disch:=omega) only [go_sem,em]
 ·exact⟨ZBw _,by simp (disch:=omega) only [go_sem],by simp (disch:=omega) only [go_sem],by simp (disch:=omega) only [go_sem],by simp (disch:=omega) only [go_sem],by simp (disch:=omega) only [go_sem],by simp (disch:=omega) only [go_sem];rfl,by simp (disch:=omega) only [go_sem,←Zom]⟩
theorem zipI_len (F:Int→Int→Int) (a b:List Int):(zipI F a b).length=max a.length b.length:=by simp [zipI]
def Wd (l:List Int):Prop:=l.length≤1000∧∀j,-4503599627370496≤gI l j∧gI l j≤4503599627370496
theorem Sm.wd {l:List Int} (h:Sm l):Wd l:=⟨h.1,λj=>by have:=h.2 j;omega⟩
theorem monMul (a b:List Int) (ha:Wd a) (hb:Wd b):Pure prog 242 [ints a,ints b] (ints (Zj6 (zipI (·+·) a b))):=by
 have h1:=Zvv a b 282 (·+·) ha.1 hb.1 λk _=>addF _ _ (by have:=ha.2 k;have:=hb.2 k;omega);have h2:=monTrim (zipI (·+·) a b) (by rw [zipI_len];have:=ha.1;have:=hb.1;omega);unfold ints at *;refine Zaa (tok:=0) (rs:=[.tmp 4]) func242 rfl ntmps242 results242 call242 zr zs ?_;(focus (refine wkap w_t (w_2 h1 h2) (w_r 0) ?_;(repeat' first|exact w_t|apply w_l);all_goals intros));simp (disch:=omega) only [go_sem]
def divI (a b:List Int):Bool:=(List.range a.length).all λi=>decide (gI a i≤gI b i)
theorem Zyx (b:List Int) (k:Nat):Pure prog 284 [.sl 1 (b.map λn=>AV.v (.int .i64 n)),.v (.int .i64 k)] (.v (.int .i64 (gI b k))):=by
 have:=monExp b k
 rwa [exp_of] at this
def copI (a b:List Int):Bool:=(List.range a.length).all λi=>decide (gI a i=0∨gI b i=0)
def outL (F:Nat→Int) (k:Nat):List AV:=(List.range k).map λi=>AV.v (.int .i64 (F i))
def quoI (a b:List Int):List Int:=if divI b a=true then Zj6 (zipI (· - ·) a b) else []
def quoR (a b:List Int):List Int:=if divI b a=true then Zj6 ((List.range a.length).map λi=>gI a i - gI b i) else []
section
theorem sz23:szOf prog 213=some 1:=by kernel_rfl
attribute [local go_sem] sz23
def normI (l:List Int):List Int:=if rightB (Zj6 l)=true then Zj6 l else []
def lt1 (x y:Int):Int:=if x < y then -1 else 1
def lexC (a b:List Int):Nat→Int
 | 0=>0
 | n+1=>if gI a n=gI b n then lexC a b n else lt1 (gI a n) (gI b n)
def cmpI (a b:List Int) (o:Int):Int :=
 if o=1∧sumT a a.length≠sumT b b.length then lt1 (sumT a a.length) (sumT b b.length) else lexC a b (max a.length b.length)
theorem Zy8 {a b:List Int} {k:Nat} (h0:0 < k) (h:gI a (k - 1)=gI b (k - 1)):lexC a b (k - 1)=lexC a b k:=by
 cases k with
 | zero=>omega
 | succ k=>simp only [lexC];rw [ZBm (by simpa using h)];rfl
theorem Zza {a b:List Int} {k:Nat} (h0:0 < k) (h:gI a (k - 1)≠gI b (k - 1)):lexC a b k=lt1 (gI a (k - 1)) (gI b (k - 1)):=by
 cases k with
 | zero=>omega
 | succ k=>simp only [lexC];rw [ZBl (by simpa using h)];rfl
theorem monCmp (a b:List Int) (o:Int) (ha:Sm a) (hb:Sm b):Pure prog 243 [ints a,ints b,.v (.int .i64 o)] (.v (.int .i64 (cmpI a b o))):=by
 have hal:=ha.1;have hbl:=hb.1;have d1:=Zpo a ha;have d2:=Zpo b hb;unfold ints at *;refine Zaa (tok:=0) (rs:=[.tmp 6]) func243 rfl ntmps243 results243 call243 zr zs ?_;obtain⟨n,hn⟩:∃n,n=max a.length b.length:=⟨_,rfl⟩;have hmx:max (a.length:Int) (b.length:Int)=(n:Int):=zo;by_cases hbig:o=1∧sumT a a.length≠sumT b b.length
 ·obtain⟨ho,hd⟩:=hbig;have hc:cmpI a b o=lt1 (sumT a a.length) (sumT b b.length):=by unfold cmpI;rw [ZBm ⟨ho,hd⟩]
  rw [hc];unfold lt1;by_cases hlt:sumT a a.length < sumT b b.length
  ·rw [ZBm hlt];(focus (refine wklp w_t (w_2 d1 d2) w_t (w_r 0) ?_;(repeat' first|exact w_t|apply w_l);all_goals intros))
  ·rw [ZBl hlt];(focus (refine wklp w_t (w_2 d1 d2) w_t (w_r 0) ?_;(repeat' first|exact w_t|apply w_l);all_goals intros))
 ·have hc:cmpI a b o=lexC a b n:=by unfold cmpI;rw [ZBl hbig,hn]
  rw [hc];have loop:∀(e:Nat→AV) (m:Mem),e 0=.sl 1 (a.map λn=>AV.v (.int .i64 n))→e 1=.sl 1 (b.map λn=>AV.v (.int .i64 n))→True:=λ_ _ _ _=>trivial;have hd0:o=1→sumT a a.length=sumT b b.length:=λho=>Decidable.byContradiction λh=>hbig ⟨ho,h⟩;by_cases ho:o=1;all_goals
   first
   | (have hd:=hd0 ho
      (focus (refine wkap (w_1 hmx) (w_2 d1 d2) (w_r 0) ?_;(repeat' first|exact w_t|apply w_l);all_goals intros)))
   | ((focus (refine wkap (w_1 hmx) w_t (w_r 0) ?_;(repeat' first|exact w_t|apply w_l);all_goals intros)))
   refine Zad (ι:=Nat) (λk e m=>k≤n∧e 0=.sl 1 (a.map λn=>AV.v (.int .i64 n))∧e 1=.sl 1 (b.map λn=>AV.v (.int .i64 n))∧e 9=.v (.int .i64 ((k:Int) - 1))∧lexC a b k=lexC a b n) (λk=>k) n zr ?_ ?_
   ·rintro k e m ⟨hk,e0,e1,e9,hl⟩
    by_cases hk0:0 < k
    ·have hp:=Zqb hk0;rw [hp] at e9;have x1:=Zyx a (k - 1);have x2:=Zyx b (k - 1);by_cases hx:gI a (k - 1)=gI b (k - 1)
     ·(focus (refine wkap (w_3 e0 e1 e9) (w_2 x1 x2) (w_r 0) ?_;(repeat' first|exact w_t|apply w_l);all_goals intros));exact⟨k - 1,⟨zo,gW e0,gW e1,gW e9,by rw [Zy8 hk0 hx,hl]⟩,zo⟩
     ·rw [←hl,Zza hk0 hx];unfold lt1;by_cases hlt:gI a (k - 1) < gI b (k - 1)
      ·rw [ZBm hlt];(focus (refine wklp (w_3 e0 e1 e9) (w_2 x1 x2) w_t (w_r 0) ?_;(repeat' first|exact w_t|apply w_l);all_goals intros))
      ·rw [ZBl hlt];(focus (refine wklp (w_3 e0 e1 e9) (w_2 x1 x2) w_t (w_r 0) ?_;(repeat' first|exact w_t|apply w_l);all_goals intros))
    ·have hk':k=0:=zo;subst hk';rw [←hl,show lexC a b 0=0 from rfl];(focus (refine wklp (w_3 e0 e1 e9) w_t w_t (w_r 0) ?_;(repeat' first|exact w_t|apply w_l);all_goals intros))
   ·exact⟨ZBn _,gC,gC,gW hmx,rfl⟩
end
attribute [go_sem] sz23
def low (x:Int):Bool:=!decide (262144 < x)
def rightL (ls:List (List Int)):Bool:=ls.all λl=>rightB l && l.all low
def gLs (ls:List (List Int)) (k:Nat):List Int:=ls.getD k []
structure RQ where
 s:Bool
 l:List Nat
 d:List Nat
def RQ.lm (r:RQ) (k:Nat):Prop:=Lm r.l∧Lm r.d∧r.l.length≤k∧r.d.length≤k
abbrev RQ.av (r:RQ):AV:=.agg [.v (.bool r.s),lim r.l,lim r.d]
def RQ.zok (s:Bool) (l:List Nat):Bool:=valL l && !(s && decide (l.length=0))
def RQ.ok (r:RQ):Bool:=RQ.zok r.s r.l && valL r.d && (Nat.gcd (nv r.l) (nv r.d) == 1) && decide (0 < r.d.length)
def RQ.q (r:RQ):Rat:=mkRat (zI r.s (nv r.l)) (nv r.d)
theorem RQ.ok_av {r:RQ} {k:Nat} (hl:r.lm k) (h:r.ok=true):r.av=ratQ r.q∧Sz r.q k:=by
 obtain⟨s,l,d⟩:=r;obtain⟨h1,h2,h3,h4⟩:=hl;simp only [RQ.ok,RQ.zok,ZCd,ZCj,ZD4,ZDw] at h;obtain⟨⟨⟨⟨v1,v2⟩,v3⟩,v4⟩,v5⟩:=h;have e1:=(Zij h1).1 v1;have e2:=(Zij h2).1 v3;simp only [RQ.av,RQ.q] at *;generalize nv l=n at *;generalize nv d=m at *;subst e1;subst e2;have hm:m≠0:=by have:=Zbc.1 v5;omega
 have hs:decide (zI s n < 0)=s:=by
  rw [zI_lt];cases s
  ·rfl
  ·have:(toL n).length≠0:=by simpa using v2
   rw [ZBu (Zbc.1 zo)];rfl
 refine⟨?_,Sz.mk (by rw [Zd4];exact h3) h4 zo⟩;rw [Zrc _ _ hm,Zd4,v4,ZFd,ZFd,hs]
theorem Zqp {a b:Nat}:toL a=toL b↔a=b:=⟨λh=>by rw [←Zap a,h,Zap],λh=>by rw [h]⟩
theorem zRight (s:Bool) (l:List Nat) (hs:l.length≤100000000) (hl:Lm l):Pure prog 123 [.agg [.v (.bool s),lim l]] (.v (.bool (RQ.zok s l))):=by
 have cv:=Zs6 l zo hl;unfold RQ.zok;generalize valL l=v at *;cases v
 ·refine pI func123 rfl ntmps123 results123 call123 ?_
  (refine wkvp (w_1 @ZC1) (w_1 cv) (w_s ?_);intros)
  simp (disch:=omega) only [go_sem,ZC1]
 ·cases s
  ·refine pI func123 rfl ntmps123 results123 call123 ?_
   (refine wkvp (w_1 @ZC1) (w_1 cv) (w_s ?_);intros)
   simp (disch:=omega) only [go_sem,ZC1]
  ·by_cases h0:l.length=0
   ·refine pI func123 rfl ntmps123 results123 call123 ?_
    (refine wkvp (w_2 h0 @ZDm) (w_1 cv) (w_s ?_);intros)
    simp (disch:=omega) only [go_sem,h0]
   ·refine pI func123 rfl ntmps123 results123 call123 ?_
    (refine wkvp w_t (w_1 cv) (w_s ?_);intros)
    simp (disch:=omega) only [go_sem,h0,ZBv h0]
theorem qRight (s:Bool) (l d:List Nat) (h1:Lm l) (h2:Lm d) (h3:l.length≤100000000) (h4:d.length≤100000000):Pure prog 71 [.agg [.v (.bool s),lim l,lim d]] (.v (.bool (RQ.ok ⟨s,l,d⟩))):=by
 have cz:=zRight s l h3 h1;have cv:=Zs6 d zo h2;have cg:=refGcd l d zo zo h1 h2
 have hgl:(toL (Nat.gcd (nv l) (nv d))).length≤100000000:=by
  have l1:=Zav h1;have l2:=Zav h2;by_cases hd:nv d=0
  ·rw [hd,Nat.gcd_zero_right];omega
  ·exact ZBs (Zed (Nat.gcd_le_right _ zo)) zo
 have cs:=refSameN (toL (Nat.gcd (nv l) (nv d))) (toL 1) zo (by rw [Zfs];omega) (Zar _) (Zar _);rw [show decide (toL (Nat.gcd (nv l) (nv d))=toL 1)=(Nat.gcd (nv l) (nv d) == 1) from by rw [ZCh,ZCj,ZDw];exact Zqp] at cs;unfold RQ.ok;generalize RQ.zok s l=v at *;simp only;generalize Nat.gcd (nv l) (nv d)=g at *;cases v
 ·refine pI func71 rfl ntmps71 results71 call71 ?_
  (refine wkvp (w_1 @ZC1) (w_1 cz) (w_s ?_);intros)
  simp (disch:=omega) only [go_sem,ZC1]
 ·generalize valL d=v at *;cases v
  ·refine pI func71 rfl ntmps71 results71 call71 ?_
   (refine wkvp (w_1 @ZC1) (w_2 cz cv) (w_s ?_);intros)
   simp (disch:=omega) only [go_sem,ZC1]
  ·by_cases hg:g=1
   ·have hgb:(g == 1)=true:=by rw [ZDw];exact hg
    rw [hgb] at cs ⊢;by_cases hd:0 < d.length
    ·rw [ZBu hd];refine pI func71 rfl ntmps71 results71 call71 ?_
     (refine wkvp w_t (w_5 cz cv cg (Zo2 1 zo) cs) (w_s ?_);intros)
     simp (disch:=omega) only [go_sem]
    ·rw [ZBv hd];refine pI func71 rfl ntmps71 results71 call71 ?_
     (refine wkvp w_t (w_5 cz cv cg (Zo2 1 zo) cs) (w_s ?_);intros)
     simp (disch:=omega) only [go_sem,ZGm]
   ·have hgb:(g == 1)=false:=by rw [ZF5];exact hg
    rw [hgb] at cs ⊢;refine pI func71 rfl ntmps71 results71 call71 ?_
    (refine wkvp (w_2 @ZGm @ZC1) (w_5 cz cv cg (Zo2 1 zo) cs) (w_s ?_);intros)
    simp (disch:=omega) only [go_sem,ZGm,ZC1]
section
variable {N n:Nat} {cs:List AV}
theorem agN16:Zha prog 161=false:=by kernel_rfl
theorem cs16:prog.cellsOf 161=1:=by kernel_rfl
theorem shNat (h:Zc5 prog N n 24 cs):∃l:List Nat,cs=[lim l]∧Lm l∧l.length≤N:=by
 obtain⟨bs,rfl,hl,hq⟩:=Zf6 (g:=λk:Nat=>[AV.v (.int .u16 (k:Int))]) (Q:=λk=>k < 65536) underlying24 h λm x hx=>by
  obtain⟨i,rfl,hw⟩:=Zkx underlying161 hx;have:=wf_u16 hw;exact⟨i.toNat,by rw [Int.toNat_of_nonneg this.1],zo⟩
 refine⟨bs,?_,hq,hl⟩;rw [cs16];have:(bs.map λb:Nat=>Zds prog 161 [AV.v (.int .u16 (b:Int))])=u16s bs:=ZEd λb _=>Zkp agN16 _;rw [this]
theorem shInt (h:Zc5 prog N n 26 cs):∃(s:Bool) (l:List Nat),cs=[.v (.bool s),lim l]∧Lm l∧l.length≤N:=by
 obtain⟨m,rfl,hs⟩:=Ze8 underlying26 zk h;obtain⟨x,y,rfl,h1,hs⟩:=hs.inv;obtain⟨z,y,rfl,h2,hs⟩:=hs.inv;obtain rfl:=hs.inv0;obtain⟨s,rfl⟩:=Zvd underlying4 h1;obtain⟨l,rfl,h3,h4⟩:=shNat h2;exact⟨s,l,rfl,h3,h4⟩
theorem shRat (h:Zc5 prog N n 28 cs):∃r:RQ,cs=[.v (.bool r.s),lim r.l,lim r.d]∧r.lm N:=by
 obtain⟨m,rfl,hs⟩:=Ze8 underlying28 zk h;obtain⟨x,y,rfl,h1,hs⟩:=hs.inv;obtain⟨z,y,rfl,h2,hs⟩:=hs.inv;obtain rfl:=hs.inv0;obtain⟨s,l,rfl,h3,h4⟩:=shInt h1;obtain⟨d,rfl,h5,h6⟩:=shNat h2;exact⟨⟨s,l,d⟩,rfl,h3,h5,h4,h6⟩
structure RP where
 x:RQ
 y:RQ
abbrev RP.av (p:RP):AV:=.agg [.v (.bool p.x.s),lim p.x.l,lim p.x.d,.v (.bool p.y.s),lim p.y.l,lim p.y.d]
def RP.lm (p:RP) (k:Nat):Prop:=p.x.lm k∧p.y.lm k
theorem shPoint (h:Zc5 prog N n 87 cs):∃p:RP,cs=[.v (.bool p.x.s),lim p.x.l,lim p.x.d,.v (.bool p.y.s),lim p.y.l,lim p.y.d]∧p.lm N:=by
 obtain⟨m,rfl,hs⟩:=Ze8 underlying87 zk h;obtain⟨x,y,rfl,h1,hs⟩:=hs.inv;obtain⟨z,y,rfl,h2,hs⟩:=hs.inv;obtain rfl:=hs.inv0;obtain⟨r,rfl,h3⟩:=shRat h1;obtain⟨q,rfl,h4⟩:=shRat h2;exact⟨⟨r,q⟩,rfl,h3,h4⟩
end
theorem intOfM:Pure prog 67 [iv (-1)] (intZ (-1)):=by
 have hm:=Zji true 1 (by rw [Zfs];omega);have hn:=natOf 1 zo;rw [show zI true 1=-1 from rfl] at hm;rw [show intZ (-1)=.agg [.v (.bool true),lim (toL 1)] from rfl] at hm ⊢;generalize toL 1=l at *;refine pI func67 rfl ntmps67 results67 call67 ?_;exact wklp w_t (w_2 hn hm) w_t (w_r 0) w_z
theorem ratOfM:Pure prog 27 [iv (-1)] (ratQ (-1)):=by
 have c:=intOfM;rw [show intZ (-1)=.agg [.v (.bool true),lim (toL 1)] from rfl] at c;rw [show ratQ (-1)=.agg [.v (.bool true),lim (toL 1),lim (toL 1)] from rfl];have u:=Zrb;generalize toL 1=l at *;refine pI func27 rfl ntmps27 results27 call27 ?_;exact wklp w_t (w_2 c u) w_t (w_r 0) w_z
theorem Zmb:szOf prog 143=some 1:=by kernel_rfl
theorem Zu1:Zan prog 143=some (.pointer none):=by kernel_rfl
theorem Zva:szOf prog 198=some 1:=by kernel_rfl
theorem zFnC:Zan prog 198=some (.nilFunc):=by kernel_rfl
theorem ZA0 (x:Nat) (hx:x < 256):Pure prog 272 [.v (.int .u64 (x:Int))] (iv (len8 x:Nat)):=by
 refine Zaa (tok:=0) (rs:=[.tmp 2]) func272 rfl ntmps272 results272 call272 zr zs ?_;have b:=Zgd (i:=x) zo
 (repeat' (first|(apply Zrl (g:=len8) (n:=256) zk zk zo)|(with_reducible first|refine stp ?_|apply gx1|apply gx2|apply gx3|apply gx4|apply gx5|apply gx6|apply gx7)|(with_reducible refine Zcl ?_;intro _)|((with_reducible refine gE ?_);(try simp (disch:=omega) only [go_sem])<;>first|rfl|omega)|with_reducible refine Zaj zd ?_))
 simp (disch:=omega) only [go_sem,ZB3]
theorem bitsLen (x:Nat) (hx:x < 256):Pure prog 227 [.v (.int .u64 (x:Int))] (iv (len8 x:Nat)):=by
 have c:=ZA0 x hx;generalize ((len8 x:Nat):Int)=r at *;refine pI func227 rfl ntmps227 results227 call227 ?_
 (refine wkap w_t (w_1 c) (w_r 0) (w_s ?_);intros)
 all_goals exact gL
theorem szXs:szOf prog 313=some 1:=by kernel_rfl
theorem byXs:Zd2 prog 313=some 8:=by kernel_rfl
theorem zXs:Zan prog 313=some (.int .u64 0):=by kernel_rfl
theorem zSum:Zan prog 227=some (.agg #[.map none,.slice none 0 0]):=by kernel_rfl
theorem zMap:Zan prog 225=some (.map none):=by kernel_rfl
theorem ratEqual (a b:Rat) {j k:Nat} (ha:Sz a j) (hb:Sz b k) (hj:j≤1000000) (hk:k≤1000000):Pure prog 111 [ratQ a,ratQ b] (.v (.bool (decide (a=b)))):=by
 have c:=ratCmp a b ha hb zo zo
 have e:(cmpQ a b == 0)=decide (a=b):=by
  rw [ZCh,ZDw,ZCj];unfold cmpQ;constructor
  ·intro h;split at h
   ·omega
   ·split at h
    ·omega
    ·rename_i h1 h2;exact Rat.le_antisymm (Rat.not_lt.1 h2) (Rat.not_lt.1 h1)
  ·rintro rfl
   simp
 rw [←e];generalize cmpQ a b=s at *;refine pI func111 rfl ntmps111 results111 call111 ?_
 (refine wkvp w_t (w_1 c) (w_s ?_);intros)
 simp (disch:=omega) only [go_sem]
theorem szOpn:szOf prog 163=some 1:=by kernel_rfl
theorem zOpn:Zan prog 163=some (.agg #[.nilFunc]):=by kernel_rfl
theorem szFnR:szOf prog 93=some 1:=by kernel_rfl
theorem zFnR:Zan prog 93=some (.nilFunc):=by kernel_rfl
theorem undFnR:prog.underlying 93=some (.func #[28,28] #[28] false):=by kernel_rfl
theorem szFr:szOf prog 47=some 2:=by kernel_rfl
theorem byFr:Zd2 prog 47=some 48:=by kernel_rfl
theorem zFr:Zan prog 47=some (.agg #[.slice none 0 0,.slice none 0 0]):=by kernel_rfl
theorem Zce:szOf prog 346=some 1:=by kernel_rfl
theorem Zcj:Zd2 prog 34=some 24:=by kernel_rfl
theorem zSQP:Zan prog 346=some (.slice none 0 0):=by kernel_rfl
section
variable {N n:Nat} {cs:List AV}
theorem shPoints (h:Zc5 prog N n 53 cs):∃ps:List RP,cs=[.sl 6 (ps.map RP.av)]∧ps.length≤N∧∀p∈ps,p.lm N:=by
 obtain⟨bs,rfl,hl,hq⟩:=Zf6 (g:=λp:RP=>[.v (.bool p.x.s),lim p.x.l,lim p.x.d,.v (.bool p.y.s),lim p.y.l,lim p.y.d]) (Q:=λp=>p.lm N) underlying53 h λm x hx=>by
  obtain⟨p,rfl,hp⟩:=shPoint hx;exact⟨p,rfl,hp⟩
 refine⟨bs,?_,hl,hq⟩;rw [show prog.cellsOf 87=6 from by kernel_rfl];have:(bs.map λb:RP=>Zds prog 87 [.v (.bool b.x.s),lim b.x.l,lim b.x.d,.v (.bool b.y.s),lim b.y.l,lim b.y.d])=bs.map RP.av:=ZEd λb _=>Zok underlying87 _;rw [this]
end
attribute [go_sem] underlying76
def RQ.tiny (r:RQ):Bool:=decide (r.l.length≤2) && decide (r.d.length≤2) && r.ok
theorem RQ.tiny_av {r:RQ} (h1:Lm r.l) (h2:Lm r.d) (h:r.tiny=true):r.av=ratQ r.q∧Sz r.q 2:=by
 unfold RQ.tiny at h;simp only [ZCd,ZCj] at h;exact RQ.ok_av ⟨h1,h2,h.1.1,h.1.2⟩ h.2
def RP.tiny (p:RP):Bool:=p.x.tiny && p.y.tiny
def RP.q (p:RP):PQ:=(p.x.q,p.y.q)
theorem RP.tiny_av {p:RP} {k:Nat} (hl:p.lm k) (h:p.tiny=true):p.av=p.q.av∧p.q.sz 2:=by
 unfold RP.tiny at h;simp only [ZCd] at h;obtain⟨ex,sx⟩:=RQ.tiny_av hl.1.1 hl.1.2.1 h.1;obtain⟨ey,sy⟩:=RQ.tiny_av hl.2.1 hl.2.2.1 h.2;refine⟨?_,sx,sy⟩;show AV.agg (p.x.av.cells++p.y.av.cells)=AV.agg ((ratQ p.x.q).cells++(ratQ p.y.q).cells);rw [ex,ey]
theorem Zxj (r:RQ) (h:r.lm 9223372036854775807):Pure prog 44 [.agg [.v (.bool r.s),lim r.l,lim r.d]] (.v (.bool r.tiny)):=by
 obtain⟨s,l,d⟩:=r;obtain⟨h1,h2,h3,h4⟩:=h;unfold RQ.tiny;simp only at *;by_cases hl:l.length≤2
 ·by_cases hd:d.length≤2
  ·have c:=qRight s l d h1 h2 zo zo;generalize RQ.ok ⟨s,l,d⟩=v at *;rw [ZBu hl,ZBu hd];refine pI func44 rfl ntmps44 results44 call44 ?_;exact wklp (w_1 @Zbs) (w_1 c) (w_1 @ZD0) (w_r 0) w_z
  ·rw [ZBu hl,ZBv hd];refine pI func44 rfl ntmps44 results44 call44 ?_;exact wklp (w_1 @Zbs) w_t (w_2 @ZD0 @ZC1) (w_r 0) w_z
 ·rw [ZBv hl];refine pI func44 rfl ntmps44 results44 call44 ?_;exact wklp (w_1 @Zbs) w_t (w_1 @ZC1) (w_r 0) w_z
def Zy2 (ps:List RP) (rs:List RQ):Bool:=decide (ps.length≤10) && decide (rs.length≤10) && ps.all RP.tiny && rs.all RQ.tiny
theorem ZA7 {α:Type} {l:List α} {p:α→Bool} {k:Nat} (h:k < l.length) (hp:p l[k]=false):l.all p=false:=by
 rw [List.all_eq_false];exact⟨l[k],ZBy h,by rw [hp];simp⟩
theorem Zqh {α:Type} {l:List α} {p:α→Bool} {k:Nat} (h:k < l.length) (h1:(l.take k).all p=true) (hp:p l[k]=true):(l.take (k+1)).all p=true:=by
 rw [ZD1 h,List.all_append,h1];simp [hp]
theorem rqMild (ps:List RP) (rs:List RQ) (hp:∀p∈ps,p.lm 9223372036854775807) (hr:∀r∈rs,r.lm 9223372036854775807) (hpl:ps.length≤9223372036854775807) (hrl:rs.length≤9223372036854775807) :
 Pure prog 15 [.sl 6 (ps.map RP.av),.sl 3 (rs.map RQ.av)] (.v (.bool (Zy2 ps rs))):=by
 unfold Zy2;by_cases h1:ps.length≤10
 ·by_cases h2:rs.length≤10
  ·rw [ZBu h1,ZBu h2,ZD0,ZD0];refine pI func15 rfl ntmps15 results15 call15 ?_;(focus (refine wkap (w_1 @Zcg) w_t (w_r 0) ?_;(repeat' first|exact w_t|apply w_l);all_goals intros));refine Zad (ι:=Nat) (λi e m=>i≤ps.length∧e 0=.sl 6 (ps.map RP.av)∧e 1=.sl 3 (rs.map RQ.av)∧e 5=iv i∧(ps.take i).all RP.tiny=true) (λi=>ps.length - i) 0 zr ?_ ?_
   ·rintro i e m ⟨hi,e0,e1,e5,ht⟩
    by_cases hlt:i < ps.length
    ·have hg:=Zaw RP.av hlt;have hsn:=λh=>Zqh (p:=RP.tiny) hlt ht h;have hat:=λh=>ZA7 (p:=RP.tiny) hlt h;have hm:=hp _ (ZBy hlt);generalize ps[i]=p at *;have c1:=Zxj p.x hm.1;have c2:=Zxj p.y hm.2;unfold RP.tiny at hsn hat;obtain⟨px,py⟩:=p;simp only at *;generalize px.tiny=v1 at *;generalize py.tiny=v2 at *;cases v1
     ·rw [show ps.all RP.tiny=false from hat rfl];(focus (refine wklp (w_5 e0 e1 e5 hg @Zcg) (w_2 c1 c2) (w_1 @ZC1) (w_r 0) ?_;(repeat' first|exact w_t|apply w_l);all_goals intros))
     ·cases v2
      ·rw [show ps.all RP.tiny=false from hat rfl];(focus (refine wklp (w_5 e0 e1 e5 hg @Zcg) (w_2 c1 c2) (w_1 @ZC1) (w_r 0) ?_;(repeat' first|exact w_t|apply w_l);all_goals intros))
      ·(focus (refine wkap (w_5 e0 e1 e5 hg @Zcg) (w_2 c1 c2) (w_r 0) ?_;(repeat' first|exact w_t|apply w_l);all_goals intros));exact⟨i+1,⟨zo,gW e0,gW e1,gS,hsn rfl⟩,zo⟩
    ·have hi2:i=ps.length:=zo;subst hi2;rw [ZC8] at ht;rw [ht,ZD0];(focus (refine wkap (w_4 e0 e1 e5 @Zcg) w_t (w_r 0) ?_;(repeat' first|exact w_t|apply w_l);all_goals intros));refine Zad (ι:=Nat) (λi e m=>i≤rs.length∧e 1=.sl 3 (rs.map RQ.av)∧e 6=iv i∧(rs.take i).all RQ.tiny=true) (λi=>rs.length - i) 0 zr ?_ ?_
     ·rintro i e m ⟨hi,e1,e6,ht⟩
      by_cases hlt:i < rs.length
      ·have hg:=Zaw RQ.av hlt;have hsn:=λh=>Zqh (p:=RQ.tiny) hlt ht h;have hat:=λh=>ZA7 (p:=RQ.tiny) hlt h;have hm:=hr _ (ZBy hlt);generalize rs[i]=r at *;have c1:=Zxj r hm;generalize r.tiny=v1 at *;cases v1
       ·rw [hat rfl];(focus (refine wklp (w_4 e1 e6 hg @Zcg) (w_1 c1) w_t (w_r 0) ?_;(repeat' first|exact w_t|apply w_l);all_goals intros))
       ·(focus (refine wkap (w_4 e1 e6 hg @Zcg) (w_1 c1) (w_r 0) ?_;(repeat' first|exact w_t|apply w_l);all_goals intros));exact⟨i+1,⟨zo,gW e1,gS,hsn rfl⟩,zo⟩
      ·have hi2:i=rs.length:=zo;subst hi2;rw [ZC8] at ht;rw [ht];(focus (refine wklp (w_3 e1 e6 @Zcg) w_t w_t (w_r 0) ?_;(repeat' first|exact w_t|apply w_l);all_goals intros))
     ·exact⟨zo,gW e1,gC,by simp⟩
   ·exact⟨zo,gC,gC,gC,by simp⟩
  ·rw [ZBu h1,ZBv h2];refine pI func15 rfl ntmps15 results15 call15 ?_;(focus (refine wklp (w_1 @Zcg) w_t (w_2 @ZC1 @ZD0) (w_r 0) ?_;(repeat' first|exact w_t|apply w_l);all_goals intros))
 ·rw [ZBv h1];refine pI func15 rfl ntmps15 results15 call15 ?_;(focus (refine wklp (w_1 @Zcg) w_t (w_1 @ZC1) (w_r 0) ?_;(repeat' first|exact w_t|apply w_l);all_goals intros))
theorem val_sz {k a b c:Int} {ps:List PQ} {rs:List Rat} {j:Nat} (hp:∀p∈ps,PQ.sz p j) (hq:∀r∈rs,Sz r j) (hj:1≤j) (h:Qt.chk ⟨k,a,b,c⟩ ps.length rs.length=0):Sz (Qt.val ⟨k,a,b,c⟩ ps rs) (8*j+6):=by
 rcases Zsf h with⟨rfl,h1,h2,h3⟩ | ⟨h0,h1,h2,h3,h4⟩
 ·rw [show Qt.val ⟨3,a,b,c⟩ ps rs=rs.getD a.toNat 0 from by unfold Qt.val;rfl];exact(hq _ (Zdr zo)).mono zo
 ·have zx:=hp _ (Zdr (d:=(0,0)) (show a.toNat < ps.length by omega));have zy:=hp _ (Zdr (d:=(0,0)) (show b.toNat < ps.length by omega));have zw:=hp _ (Zdr (d:=(0,0)) (show c.toNat < ps.length by omega));unfold Qt.val;simp only;rw [ZBl h0];split
  ·exact(Ze0 zx zy zx zw).mono zo
  ·exact((Zlg 2 zo).mul (Zda zy zx zy zw)).mono zo
theorem mild_ok {ps:List RP} {rs:List RQ} (hp:∀p∈ps,p.lm 9223372036854775807) (hr:∀r∈rs,r.lm 9223372036854775807) (hb:Zy2 ps rs=true) :
 ∃(qs:List PQ) (us:List Rat),ps.map RP.av=qs.map PQ.av∧rs.map RQ.av=us.map ratQ∧(∀p∈qs,PQ.sz p 2)∧(∀r∈us,Sz r 2)∧qs.length≤10∧us.length≤10:=by
 unfold Zy2 at hb;simp only [ZCd,ZCj,ZFf] at hb;obtain⟨⟨⟨h1,h2⟩,h3⟩,h4⟩:=hb;refine⟨ps.map RP.q,rs.map RQ.q,?_,?_,?_,?_,by rw [ZBt];exact h1,by rw [ZBt];exact h2⟩
 ·rw [List.map_map];exact ZEd λx hx=>(RP.tiny_av (hp x hx) (h3 x hx)).1
 ·rw [List.map_map];exact ZEd λx hx=>(RQ.tiny_av (hr x hx).1 (hr x hx).2.1 (h4 x hx)).1
 ·intro p hp2;obtain⟨x,hx,rfl⟩:=List.mem_map.1 hp2;exact(RP.tiny_av (hp x hx) (h3 x hx)).2
 ·intro r hr2;obtain⟨x,hx,rfl⟩:=List.mem_map.1 hr2;exact(RQ.tiny_av (hr x hx).1 (hr x hx).2.1 (h4 x hx)).2
theorem Zmv (A B C:PQ):Zci A B A C=- Zci B A B C:=by unfold Zci;grind
theorem Zf0 (A B C:PQ):Zci A B A C=Zci B C B A:=by unfold Zci;grind
theorem dot_swap (A B C:PQ):dotP B A B C=dotP B C B A:=by unfold dotP;grind
theorem Zjc {k a b c:Int} {ps:List PQ} {rs:List Rat} (h:Qt.chk ⟨k,a,b,c⟩ ps.length rs.length=0) (hl:ps.length≤40) :
 (Qt.norm ⟨k,a,b,c⟩=(Qt.zero,0)∧Qt.val ⟨k,a,b,c⟩ ps rs=0) ∨
 (∃(k1 a1 b1 c1 s:Int),Qt.norm ⟨k,a,b,c⟩=(⟨k1,a1,b1,c1⟩,s)∧(s=1∨s=-1)∧Qt.norm ⟨k1,a1,b1,c1⟩=(⟨k1,a1,b1,c1⟩,1)∧Qt.chk ⟨k1,a1,b1,c1⟩ ps.length rs.length=0∧Qt.val ⟨k,a,b,c⟩ ps rs=Qt.val ⟨k1,a1,b1,c1⟩ ps rs*(s:Rat)):=by
 have hh:=Zsf h
 have hok:Qt.ok ⟨k,a,b,c⟩=true:=by
  unfold Qt.chk at h;split at h
  ·assumption
  ·omega
 rcases hh with⟨rfl,h1,h2,h3⟩ | ⟨h0,h1,h2,h3,h4⟩
 ·have hn:Qt.norm ⟨3,a,b,c⟩=(⟨3,a,b,c⟩,1):=by
   unfold Qt.norm;rw [ZBm hok];rfl
  refine .inr ⟨3,a,b,c,1,hn,.inl rfl,hn,h,?_⟩;rw [show((1:Int):Rat)=1 from rfl,ZE1]
 ·have okN:∀k x y z:Int,(k=1∨k=2)→(0≤x∧x < ps.length)→(0≤y∧y < ps.length)→(0≤z∧z < ps.length)→Qt.ok ⟨k,x,y,z⟩=true:=by
   intro k x y z hk hx hy hz;unfold Qt.ok;rw [ZCj];simp only;omega
  have chN:∀k x y z:Int,(k=1∨k=2)→(0≤x∧x < ps.length)→(0≤y∧y < ps.length)→(0≤z∧z < ps.length)→Qt.chk ⟨k,x,y,z⟩ ps.length rs.length=0:=by
   intro k x y z hk hx hy hz;unfold Qt.chk;rw [ZBm (okN k x y z hk hx hy hz)];simp only;rw [ZBl zo,ZBl zo]
  rcases h1 with rfl | rfl
  ·have v1:∀x y z:Int,Qt.val ⟨1,x,y,z⟩ ps rs=Zci (ps.getD x.toNat (0,0)) (ps.getD y.toNat (0,0)) (ps.getD x.toNat (0,0)) (ps.getD z.toNat (0,0)):=λx y z=>by unfold Qt.val;rfl
   have nN:∀x y z:Int,(0≤x∧x < ps.length)→(0≤y∧y < ps.length)→(0≤z∧z < ps.length)→Qt.norm ⟨1,x,y,z⟩=Zfh x y z:=by
    intro x y z hx hy hz;unfold Qt.norm;rw [ZBm (okN 1 x y z (.inl rfl) hx hy hz)];rfl
   have nS:∀x y z:Int,x < y→y < z→Zfh x y z=(⟨1,x,y,z⟩,1):=by
    intro x y z hxy hyz;unfold Zfh;rw [ZBl zo,ZBm hxy,ZBm hyz]
   rw [nN a b c h2 h3 h4,v1];have one:∀x:Rat,x=x*((1:Int):Rat):=λx=>by rw [show((1:Int):Rat)=1 from rfl,ZE1]
   have neg:∀x:Rat,-x=x*((-1:Int):Rat):=λx=>by rw [show((-1:Int):Rat)=-1 from rfl];grind
   by_cases he:a=b∨b=c∨a=c
   ·refine .inl ⟨by unfold Zfh;rw [ZBm he],?_⟩;rcases he with rfl | rfl | rfl
    ·unfold Zci;grind
    ·unfold Zci;grind
    ·unfold Zci;grind
   ·have fin:∀(x y z:Int) (s:Int),Zfh a b c=(⟨1,x,y,z⟩,s)→x < y→y < z→(0≤x∧x < ps.length)→(0≤y∧y < ps.length)→(0≤z∧z < ps.length)→(s=1∨s=-1) →
     Zci (ps.getD a.toNat (0,0)) (ps.getD b.toNat (0,0)) (ps.getD a.toNat (0,0)) (ps.getD c.toNat (0,0))=Qt.val ⟨1,x,y,z⟩ ps rs*(s:Rat) →
     ∃(k1 a1 b1 c1 s:Int),Zfh a b c=(⟨k1,a1,b1,c1⟩,s)∧(s=1∨s=-1)∧Qt.norm ⟨k1,a1,b1,c1⟩=(⟨k1,a1,b1,c1⟩,1)∧Qt.chk ⟨k1,a1,b1,c1⟩ ps.length rs.length=0∧Zci (ps.getD a.toNat (0,0)) (ps.getD b.toNat (0,0)) (ps.getD a.toNat (0,0)) (ps.getD c.toNat (0,0))=Qt.val ⟨k1,a1,b1,c1⟩ ps rs*(s:Rat) :=
     λx y z s e hxy hyz hx hy hz hs hv=>⟨1,x,y,z,s,e,hs,by rw [nN x y z hx hy hz,nS x y z hxy hyz],chN 1 x y z (.inl rfl) hx hy hz,hv⟩
    right;by_cases h5:a < b
    ·by_cases h6:b < c
     ·exact fin a b c 1 (by unfold Zfh;rw [ZBl he,ZBm h5,ZBm h6]) h5 h6 h2 h3 h4 (.inl rfl) (by rw [v1];exact one _)
     ·by_cases h7:a < c
      ·exact fin a c b (-1) (by unfold Zfh;rw [ZBl he,ZBm h5,ZBl h6,ZBm h7]) h7 zo h2 h4 h3 (.inr rfl) (by rw [v1,←neg,Zf0,Zmv,Zf0 (ps.getD a.toNat (0,0))])
      ·exact fin c a b 1 (by unfold Zfh;rw [ZBl he,ZBm h5,ZBl h6,ZBl h7]) zo h5 h4 h2 h3 (.inl rfl) (by rw [v1,←one,Zf0,Zf0])
    ·by_cases h6:a < c
     ·exact fin b a c (-1) (by unfold Zfh;rw [ZBl he,ZBl h5,ZBm h6]) zo h6 h3 h2 h4 (.inr rfl) (by rw [v1,←neg];exact Zmv _ _ _)
     ·by_cases h7:b < c
      ·exact fin b c a 1 (by unfold Zfh;rw [ZBl he,ZBl h5,ZBl h6,ZBm h7]) h7 zo h3 h4 h2 (.inl rfl) (by rw [v1,←one];exact Zf0 _ _ _)
      ·exact fin c b a (-1) (by unfold Zfh;rw [ZBl he,ZBl h5,ZBl h6,ZBl h7]) zo zo h4 h3 h2 (.inr rfl) (by rw [v1,←neg];unfold Zci;grind)
  ·have v2:∀x y z:Int,Qt.val ⟨2,x,y,z⟩ ps rs=2*dotP (ps.getD y.toNat (0,0)) (ps.getD x.toNat (0,0)) (ps.getD y.toNat (0,0)) (ps.getD z.toNat (0,0)):=λx y z=>by unfold Qt.val;rfl
   have nN:∀x y z:Int,(0≤x∧x < ps.length)→(0≤y∧y < ps.length)→(0≤z∧z < ps.length)→Qt.norm ⟨2,x,y,z⟩=Zgz x y z:=by
    intro x y z hx hy hz;unfold Qt.norm;rw [ZBm (okN 2 x y z (.inr rfl) hx hy hz)];rfl
   have one:∀x:Rat,x=x*((1:Int):Rat):=λx=>by rw [show((1:Int):Rat)=1 from rfl,ZE1]
   rw [nN a b c h2 h3 h4,v2];by_cases he:a=b∨b=c
   ·refine .inl ⟨by unfold Zgz;rw [ZBm he],?_⟩;rcases he with rfl | rfl
    ·unfold dotP;grind
    ·unfold dotP;grind
   ·right;by_cases h5:a=c∧b < a
    ·obtain⟨rfl,h6⟩:=h5;refine⟨2,b,a,b,1,by unfold Zgz;rw [ZBl he,ZBm ⟨rfl,h6⟩],.inl rfl,?_,chN 2 b a b (.inr rfl) h3 h2 h3,?_⟩
     ·rw [nN b a b h3 h2 h3];unfold Zgz;rw [ZBl zo,ZBl zo,ZBl zo]
     ·rw [v2,←one];unfold dotP;grind
    ·by_cases h6:c < a
     ·refine⟨2,c,b,a,1,by unfold Zgz;rw [ZBl he,ZBl h5,ZBm h6],.inl rfl,?_,chN 2 c b a (.inr rfl) h4 h3 h2,?_⟩
      ·rw [nN c b a h4 h3 h2];unfold Zgz;rw [ZBl zo,ZBl zo,ZBl zo]
      ·rw [v2,←one,dot_swap]
     ·refine⟨2,a,b,c,1,by unfold Zgz;rw [ZBl he,ZBl h5,ZBl h6],.inl rfl,?_,chN 2 a b c (.inr rfl) h2 h3 h4,?_⟩
      ·rw [nN a b c h2 h3 h4];unfold Zgz;rw [ZBl he,ZBl h5,ZBl h6]
      ·rw [v2,←one]
theorem chk_mk {k x y z:Int} {n m:Nat} (hk:k=1∨k=2) (hx:0≤x∧x < n) (hy:0≤y∧y < n) (hz:0≤z∧z < n) (hn:n≤40):Qt.chk ⟨k,x,y,z⟩ n m=0:=by
 have ok:Qt.ok ⟨k,x,y,z⟩=true:=by
  unfold Qt.ok;rw [ZCj];simp only;omega
 unfold Qt.chk;rw [ZBm ok];simp only;rw [ZBl zo,ZBl zo]
def sumV (ps:List PQ) (l:List Qt):Rat:=l.foldl (λs q=>s+Qt.val q ps []) 0
end Go.Proofs.YtkefeinbjbeidaaGreatDoor
namespace Go.Proofs.YtkefeinbjbeidaaGreatDoor
open Go Go.RowKit Go.Pg Go.Proofs.Tryz
theorem ubSize:(prog.info? 268).map (·.size)=some 2:=by kernel_rfl
theorem ubLies:liesAt prog prog.depth 268 (2/prog.cellsOf 268) 0 268 1=true:=by kernel_rfl
theorem ubCells:prog.cellsOf 5=1:=by kernel_rfl
theorem ubUsed (b:Nat) (w:World) (h0:w.cell? ⟨b,0,none⟩=some (.pointer (some ⟨b,0,none⟩))) :
 Calls prog 285 #[.pointer (some ⟨b,0,none⟩)] w λe w'=>e=.returned (.tuple #[])∧w'=w:=by
 obtain⟨j,hj,_⟩:=Option.map_eq_some_iff.1 ubSize
 go_enter func285,ntmps285
 go_wp2
 rw [Lib.run_neq_ptr_same w _ underlying266 hj]
 go_wp2
 go_end0
 exact⟨rfl,rfl⟩
theorem ubFresh (b:Nat) (w:World) (h0:w.cell? ⟨b,0,none⟩=some (.pointer none)) (hsh:w.shape? b=some (268,2)) (hfz:w.frozen? ⟨b,0,none⟩=false) :
 Calls prog 285 #[.pointer (some ⟨b,0,none⟩)] w λe w'=>e=.returned (.tuple #[])∧w'=w.setCell ⟨b,0,none⟩ (.pointer (some ⟨b,0,none⟩)):=by
 obtain⟨j,hj,hjs⟩:=Option.map_eq_some_iff.1 ubSize
 go_enter func285,ntmps285
 go_wp2
 rw [Lib.run_to_unsafe w ⟨b,0,none⟩ underlying266 underlying319 hj (by rw [hjs];decide) hsh (Nat.zero_lt_succ 1)];simp only [Result.andThen];rw [Oper.upon_value]
 go_wp2
 rw [run_callFunc_extern func307 zk zk zk (e:=Extern.AbiNoEscape.same) zk];rw [Lib.run_noEscape];simp only [Result.andThen];rw [Oper.upon_value]
 go_wp2
 rw [Lib.run_from_unsafe w ⟨b,0,none⟩ underlying319 underlying266 hj hsh ubLies];simp only [Result.andThen];rw [Oper.upon_value]
 go_wp2
 go_end0
 exact⟨rfl,rfl⟩
theorem ubString (b g cap:Nat) (p:Value) (cur:Array Value) (l:List UInt8) (w:World) (hbk:w.heap[b]?=some (.cells #[p,.slice (some ⟨g,0,none⟩) l.length cap] 268 (0,0)))
 (hg:w.heap[g]?=some (.cells cur 5 (0,0))) (h0:l≠[]) (hnc:l.length≤cap) (hcm:cap≤maxLen) (hcs:cur.size=cap) (hc:∀j x,l[j]?=some x→w.cell? ((⟨g,0,none⟩:Addr).add j)=some (.int .u8 x.toNat)) :
 Calls prog 246 #[.pointer (some ⟨b,0,none⟩)] w λe w'=>e=.returned (.string ⟨l.toArray⟩)∧w'=w.drew.freeze ⟨g,0,none⟩ l.length:=by
 have hl0:l.length≠0:=by simpa using h0
 have c1:w.drew.cell? ⟨b,1,none⟩=some (.slice (some ⟨g,0,none⟩) l.length cap):=by
  have:w.drew.heap[b]?=some (.cells #[p,.slice (some ⟨g,0,none⟩) l.length cap] 268 (0,0)):=hbk;rw [Lib.cell_of_heap this];rfl
 have hSD:(Builtin.unsafeSliceData_ #[113] 303 #[.slice (some ⟨g,0,none⟩) l.length cap]).run prog w.drew=.ok (.pointer (some ⟨g,0,none⟩)) w.drew :=
  Lib.run_unsafeSliceData_row _ _ _ _ _ _ zo
 have hUS:(Builtin.unsafeString_ #[303,3] 9 #[.pointer (some ⟨g,0,none⟩),.int .i64 l.length]).run prog w.drew=.ok (.string ⟨l.toArray⟩) (w.drew.freeze ⟨g,0,none⟩ l.length) :=
  Lib.run_unsafeString_row w.drew 303 3 9 5 underlying303 ubCells g cur.size (by have hg':w.drew.heap[g]?=some (.cells cur 5 (0,0)):=hg;simp [World.shape?,hg']) l h0 zo (by unfold maxLen at hcm;omega) hc
 have mixed:prog.follows .mixedOrders=true:=by kernel_rfl
 go_enter func246,ntmps246
 go_wp2
 go_region_o
 all_goals (go_wp2;go_ret;exact⟨rfl,rfl⟩)
end Go.Proofs.YtkefeinbjbeidaaGreatDoor
namespace Go.Pol
structure KO {α:Type} (D:α→Prop) (lt:α→α→Prop):Prop where
 irr:∀x,¬lt x x
 tr:∀x y z,lt x y→lt y z→lt x z
 tri:∀x y,D x→D y→lt x y∨x=y∨lt y x
section
variable {α:Type} {D:α→Prop} {lt:α→α→Prop} [DecidableEq α]
def cof:List (Rat × α)→α→Rat
 | [],_=>0
 | t :: p,x=>(if t.2=x then t.1 else 0)+cof p x
end
section
variable {α:Type} {D:α→Prop} {lt:α→α→Prop}
def addP (lt:α→α→Prop) [DecidableRel lt]:List (Rat × α)→List (Rat × α)→List (Rat × α)
 | [],q=>q
 | s :: p,[]=>s :: p
 | s :: p,t :: q =>
   if lt t.2 s.2 then s :: addP lt p (t :: q)
   else if lt s.2 t.2 then t :: addP lt (s :: p) q
   else if s.1+t.1=0 then addP lt p q
   else (s.1+t.1,s.2) :: addP lt p q
termination_by p q=>p.length+q.length
def Srt (D:α→Prop) (lt:α→α→Prop) (p:List (Rat × α)):Prop:=(∀t∈p,t.1≠0∧D t.2)∧p.Pairwise (λs t=>lt t.2 s.2)
end
section
variable {α:Type} {D:α→Prop} {lt:α→α→Prop} [DecidableEq α]
end
section
variable {α:Type} {D:α→Prop} {lt:α→α→Prop} [DecidableRel lt]
theorem Zod (p:List (Rat × α)):addP lt p []=p:=by cases p<;>simp [addP]
theorem Zis {p q:List (Rat × α)} {t:Rat × α} (h:t∈addP lt p q):∃s∈p++q,t.2=s.2:=by
 fun_induction addP lt p q with
 | case1 q=>exact⟨t,by simpa using h,rfl⟩
 | case2 s p=>exact⟨t,by simpa using h,rfl⟩
 | case3 s p u q h1 ih =>
   rcases List.mem_cons.1 h with rfl | h
   ·exact⟨t,by simp,rfl⟩
   ·obtain⟨v,hv,e⟩:=ih h;exact⟨v,by simp only [ZFr,ZE8,ZEu] at hv ⊢;rcases hv with hv | hv | hv<;>simp [hv],e⟩
 | case4 s p u q h1 h2 ih =>
   rcases List.mem_cons.1 h with rfl | h
   ·exact⟨t,by simp,rfl⟩
   ·obtain⟨v,hv,e⟩:=ih h;exact⟨v,by simp only [ZFr,ZE8,ZEu] at hv ⊢;rcases hv with hv | hv | hv<;>simp [hv],e⟩
 | case5 s p u q h1 h2 h3 ih =>
   obtain⟨v,hv,e⟩:=ih h;exact⟨v,by simp only [ZFr,ZE8,ZEu] at hv ⊢;rcases hv with hv | hv<;>simp [hv],e⟩
 | case6 s p u q h1 h2 h3 ih =>
   rcases List.mem_cons.1 h with rfl | h
   ·exact⟨s,by simp,rfl⟩
   ·obtain⟨v,hv,e⟩:=ih h;exact⟨v,by simp only [ZFr,ZE8,ZEu] at hv ⊢;rcases hv with hv | hv<;>simp [hv],e⟩
end
section
variable {α:Type} {D:α→Prop} {lt:α→α→Prop} [DecidableEq α] [DecidableRel lt]
theorem Zgf (o:KO D lt) {p q:List (Rat × α)} (x:α) (hp:∀t∈p,D t.2) (hq:∀t∈q,D t.2):cof (addP lt p q) x=cof p x+cof q x:=by
 fun_induction addP lt p q with
 | case1 q=>show cof q x=0+cof q x;rw [ZFw]
 | case2 s p=>show cof (s :: p) x=cof (s :: p) x+0;rw [ZDj]
 | case3 s p u q h1 ih =>
   have:=ih (λt h=>hp t (.tail _ h)) hq;simp only [cof] at this ⊢;rw [this];grind
 | case4 s p u q h1 h2 ih =>
   have:=ih hp (λt h=>hq t (.tail _ h));simp only [cof] at this ⊢;rw [this];grind
 | case5 s p u q h1 h2 h3 ih =>
   have e:s.2=u.2:=by rcases o.tri s.2 u.2 (hp s (.head _)) (hq u (.head _)) with h | h | h;exact absurd h h2;exact h;exact absurd h h1
   have:=ih (λt h=>hp t (.tail _ h)) (λt h=>hq t (.tail _ h));simp only [cof] at this ⊢;rw [this,e];split<;>grind
 | case6 s p u q h1 h2 h3 ih =>
   have e:s.2=u.2:=by rcases o.tri s.2 u.2 (hp s (.head _)) (hq u (.head _)) with h | h | h;exact absurd h h2;exact h;exact absurd h h1
   have:=ih (λt h=>hp t (.tail _ h)) (λt h=>hq t (.tail _ h));simp only [cof] at this ⊢;rw [this,e];split<;>grind
end
section
variable {α:Type} {D:α→Prop} {lt:α→α→Prop}
theorem Srt.nil:Srt D lt ([]:List (Rat × α)):=⟨by simp,.nil⟩
theorem Srt.tail {t:Rat × α} {p:List (Rat × α)} (h:Srt D lt (t :: p)):Srt D lt p:=⟨λu hu=>h.1 u (.tail _ hu),(List.pairwise_cons.1 h.2).2⟩
theorem Srt.cons {t:Rat × α} {p:List (Rat × α)} (h:Srt D lt p) (h1:t.1≠0) (h2:D t.2) (h3:∀u∈p,lt u.2 t.2):Srt D lt (t :: p) :=
 ⟨λu hu=>by rcases List.mem_cons.1 hu with rfl | hu;exact⟨h1,h2⟩;exact h.1 u hu,List.pairwise_cons.2 ⟨h3,h.2⟩⟩
theorem Srt.dom {p:List (Rat × α)} (h:Srt D lt p):∀t∈p,D t.2:=λt ht=>(h.1 t ht).2
theorem Srt.head_lt {t:Rat × α} {p:List (Rat × α)} (h:Srt D lt (t :: p)):∀u∈p,lt u.2 t.2:=(List.pairwise_cons.1 h.2).1
end
section
variable {α:Type} {D:α→Prop} {lt:α→α→Prop} [DecidableRel lt]
theorem Zc0 (o:KO D lt) {p q:List (Rat × α)} (hp:Srt D lt p) (hq:Srt D lt q):Srt D lt (addP lt p q):=by
 fun_induction addP lt p q with
 | case1 q=>exact hq
 | case2 s p=>exact hp
 | case3 s p u q h1 ih =>
   refine(ih hp.tail hq).cons (hp.1 s (.head _)).1 (hp.1 s (.head _)).2 λv hv=>?_;obtain⟨w,hw,e⟩:=Zis hv;rw [e];rcases List.mem_append.1 hw with hw | hw
   ·exact hp.head_lt w hw
   ·rcases List.mem_cons.1 hw with rfl | hw
    ·exact h1
    ·exact o.tr _ _ _ (hq.head_lt w hw) h1
 | case4 s p u q h1 h2 ih =>
   refine(ih hp hq.tail).cons (hq.1 u (.head _)).1 (hq.1 u (.head _)).2 λv hv=>?_;obtain⟨w,hw,e⟩:=Zis hv;rw [e];rcases List.mem_append.1 hw with hw | hw
   ·rcases List.mem_cons.1 hw with rfl | hw
    ·exact h2
    ·exact o.tr _ _ _ (hp.head_lt w hw) h2
   ·exact hq.head_lt w hw
 | case5 s p u q h1 h2 h3 ih=>exact ih hp.tail hq.tail
 | case6 s p u q h1 h2 h3 ih =>
   have es:s.2=u.2:=by rcases o.tri s.2 u.2 (hp.dom s (.head _)) (hq.dom u (.head _)) with h | h | h;exact absurd h h2;exact h;exact absurd h h1
   refine(ih hp.tail hq.tail).cons h3 (hp.1 s (.head _)).2 λv hv=>?_;obtain⟨w,hw,e⟩:=Zis hv;rw [e];rcases List.mem_append.1 hw with hw | hw
   ·exact hp.head_lt w hw
   ·show lt w.2 s.2;rw [es];exact hq.head_lt w hw
end
section
variable {α:Type} {D:α→Prop} {lt:α→α→Prop} [DecidableEq α]
theorem Zls (o:KO D lt) {p:List (Rat × α)} {x:α} (h:∀t∈p,lt t.2 x):cof p x=0:=by
 induction p with
 | nil=>rfl
 | cons t p ih =>
   show(if t.2=x then t.1 else 0)+cof p x=0;rw [ZBl (by rintro rfl;exact o.irr _ (h t (.head _))),ih λu hu=>h u (.tail _ hu),ZDj]
theorem Zhp (o:KO D lt) {t:Rat × α} {p:List (Rat × α)} (h:Srt D lt (t :: p)):cof (t :: p) t.2=t.1:=by
 show(if t.2=t.2 then t.1 else 0)+cof p t.2=t.1;rw [ZBm rfl,Zls o h.head_lt,ZDj]
theorem Zja (o:KO D lt):∀{p q:List (Rat × α)},Srt D lt p→Srt D lt q→(∀x,cof p x=cof q x)→p=q
 | [],[],_,_,_=>rfl
 | [],t :: q,_,hq,h=>absurd ((Zhp o hq).symm.trans (h t.2).symm) (hq.1 t (.head _)).1
 | s :: p,[],hp,_,h=>absurd ((Zhp o hp).symm.trans (h s.2)) (hp.1 s (.head _)).1
 | s :: p,t :: q,hp,hq,h=>by
   have ks:s.2=t.2:=by
    rcases o.tri s.2 t.2 (hp.dom s (.head _)) (hq.dom t (.head _)) with hl | hl | hl
    ·have h1:cof (s :: p) t.2=0:=Zls o λu hu=>by
      rcases List.mem_cons.1 hu with rfl | hu
      ·exact hl
      ·exact o.tr _ _ _ (hp.head_lt u hu) hl
     exact absurd (((h t.2).symm.trans h1).symm.trans (Zhp o hq)).symm (hq.1 t (.head _)).1
    ·exact hl
    ·have h1:cof (t :: q) s.2=0:=Zls o λu hu=>by
      rcases List.mem_cons.1 hu with rfl | hu
      ·exact hl
      ·exact o.tr _ _ _ (hq.head_lt u hu) hl
     exact absurd (((h s.2).trans h1).symm.trans (Zhp o hp)).symm (hp.1 s (.head _)).1
   have kc:s.1=t.1:=by
    have h1:=h s.2;rw [Zhp o hp,ks,Zhp o hq] at h1;exact h1
   have e:s=t:=Prod.ext kc ks;subst e;congr 1;refine Zja o hp.tail hq.tail λx=>?_;have h1:=h x;simp only [cof] at h1
   grind
end
section
variable {α:Type} {D:α→Prop} {lt:α→α→Prop}
def Zc3 (m:α→α→α) (p:List (Rat × α)) (t:Rat × α):List (Rat × α):=p.map λs=>(s.1*t.1,m s.2 t.2)
structure KM (D:α→Prop) (lt:α→α→Prop) (m:α→α→α):Prop where
 comm:∀x y,m x y=m y x
 dom:∀x y,D x→D y→D (m x y)
 mono:∀x y z,D x→D y→D z→lt x y→lt (m x z) (m y z)
theorem Zwt {m:α→α→α} (k:KM D lt m) {p:List (Rat × α)} {t:Rat × α} (hp:Srt D lt p) (h1:t.1≠0) (h2:D t.2):Srt D lt (Zc3 m p t):=by
 refine⟨λu hu=>?_,?_⟩
 ·obtain⟨s,hs,rfl⟩:=List.mem_map.1 hu;have:=hp.1 s hs;exact⟨by show s.1*t.1≠0;intro h0;rcases Rat.mul_eq_zero.1 h0 with h | h;exact this.1 h;exact h1 h,k.dom _ _ this.2 h2⟩
 ·refine List.pairwise_map.2 (hp.2.imp_of_mem λ{a b} ha hb hl=>k.mono _ _ _ (hp.dom b hb) (hp.dom a ha) h2 hl)
end
section
variable {α:Type} {D:α→Prop} {lt:α→α→Prop} [DecidableEq α]
def cofM (m:α→α→α) (p:List (Rat × α)):List (Rat × α)→α→Rat
 | [],_=>0
 | t :: q,x=>cof (Zc3 m p t) x+cofM m p q x
end
section
variable {α:Type} {D:α→Prop} {lt:α→α→Prop}
def mulR (lt:α→α→Prop) [DecidableRel lt] (m:α→α→α) (p q:List (Rat × α)):List (Rat × α):=q.foldl (λout t=>addP lt out (Zc3 m p t)) []
end
section
variable {α:Type} {D:α→Prop} {lt:α→α→Prop} [DecidableRel lt]
theorem Zp1 (o:KO D lt) {m:α→α→α} (k:KM D lt m) {p:List (Rat × α)} (hp:Srt D lt p):∀(q out:List (Rat × α)),Srt D lt q→Srt D lt out→Srt D lt (q.foldl (λout t=>addP lt out (Zc3 m p t)) out)
 | [],_,_,ho=>ho
 | t :: q,_,hq,ho=>Zp1 o k hp q _ hq.tail (Zc0 o ho (Zwt k hp (hq.1 t (.head _)).1 (hq.1 t (.head _)).2))
end
section
variable {α:Type} {D:α→Prop} {lt:α→α→Prop} [DecidableEq α] [DecidableRel lt]
end
section
variable {α:Type} {D:α→Prop} {lt:α→α→Prop} [DecidableRel lt]
theorem mulR_srt (o:KO D lt) {m:α→α→α} (k:KM D lt m) {p q:List (Rat × α)} (hp:Srt D lt p) (hq:Srt D lt q):Srt D lt (mulR lt m p q):=Zp1 o k hp q [] hq .nil
end
section
variable {α:Type} {D:α→Prop} {lt:α→α→Prop} [DecidableEq α] [DecidableRel lt]
end
section
variable {α:Type} {D:α→Prop} {lt:α→α→Prop}
def sumH (lt:α→α→Prop) [DecidableRel lt]:List (List (Rat × α))→List (Rat × α)
 | []=>[]
 | [p]=>p
 | p :: q :: l=>addP lt (sumH lt ((p :: q :: l).take ((p :: q :: l).length/2))) (sumH lt ((p :: q :: l).drop ((p :: q :: l).length/2)))
termination_by l=>l.length
decreasing_by all_goals (simp only [ZB9,ZDt,ZB5];omega)
end
section
variable {α:Type} {D:α→Prop} {lt:α→α→Prop} [DecidableEq α]
def cofL:List (List (Rat × α))→α→Rat
 | [],_=>0
 | p :: l,x=>cof p x+cofL l x
theorem cofL_app (l k:List (List (Rat × α))) (x:α):cofL (l++k) x=cofL l x+cofL k x:=by
 induction l with
 | nil=>show cofL k x=0+cofL k x;rw [ZFw]
 | cons p l ih=>show _+cofL (l++k) x=(_+cofL l x)+cofL k x;rw [ih,Rat.add_assoc]
end
section
variable {α:Type} {D:α→Prop} {lt:α→α→Prop} [DecidableRel lt]
theorem Zhd (o:KO D lt) (l:List (List (Rat × α))) (h:∀p∈l,Srt D lt p):Srt D lt (sumH lt l):=by
 fun_induction sumH lt l with
 | case1=>exact .nil
 | case2 p=>exact h p (.head _)
 | case3 p q l ih1 ih2=>exact Zc0 o (ih1 λu hu=>h u (ZC3 hu)) (ih2 λu hu=>h u (ZD3 hu))
end
section
variable {α:Type} {D:α→Prop} {lt:α→α→Prop} [DecidableEq α] [DecidableRel lt]
theorem sumH_cof (o:KO D lt) (x:α) (l:List (List (Rat × α))) (h:∀p∈l,Srt D lt p):cof (sumH lt l) x=cofL l x:=by
 fun_induction sumH lt l with
 | case1=>rfl
 | case2 p=>show cof p x=cof p x+0;rw [ZDj]
 | case3 p q l ih1 ih2 =>
   have h1:∀u∈(p :: q :: l).take ((p :: q :: l).length/2),Srt D lt u:=λu hu=>h u (ZC3 hu);have h2:∀u∈(p :: q :: l).drop ((p :: q :: l).length/2),Srt D lt u:=λu hu=>h u (ZD3 hu);rw [Zgf o x (Zhd o _ h1).dom (Zhd o _ h2).dom,ih1 h1,ih2 h2,←cofL_app,ZDo]
end
section
variable {α:Type} {D:α→Prop} {lt:α→α→Prop}
def mulH (lt:α→α→Prop) [DecidableRel lt] (m:α→α→α) (p q:List (Rat × α)):List (Rat × α):=sumH lt (p.map λt=>Zc3 m q t)
end
section
variable {α:Type} {D:α→Prop} {lt:α→α→Prop} [DecidableEq α] [DecidableRel lt]
theorem ZA9 (o:KO D lt) {p q:List (Rat × α)} (hp:Srt D lt p) (hq:Srt D lt q):addP lt p q=addP lt q p :=
 Zja o (Zc0 o hp hq) (Zc0 o hq hp) λx=>by rw [Zgf o x hp.dom hq.dom,Zgf o x hq.dom hp.dom,Rat.add_comm]
theorem Zwb (o:KO D lt) {p q r:List (Rat × α)} (hp:Srt D lt p) (hq:Srt D lt q) (hr:Srt D lt r):addP lt (addP lt p q) r=addP lt p (addP lt q r) :=
 Zja o (Zc0 o (Zc0 o hp hq) hr) (Zc0 o hp (Zc0 o hq hr)) λx=>by
  rw [Zgf o x (Zc0 o hp hq).dom hr.dom,Zgf o x hp.dom hq.dom,Zgf o x hp.dom (Zc0 o hq hr).dom,Zgf o x hq.dom hr.dom,Rat.add_assoc]
end
section
variable {α:Type} {D:α→Prop} {lt:α→α→Prop} [DecidableRel lt]
theorem Zen (p q:List (Rat × α)):(addP lt p q).length≤p.length+q.length:=by
 fun_induction addP lt p q<;>simp_all only [ZB5,ZCf]<;>omega
end
def evl {α:Type} (φ:α→Rat):List (Rat × α)→Rat
 | []=>0
 | t :: p=>t.1*φ t.2+evl φ p
theorem Zsd {α:Type} (φ:α→Rat) (p q:List (Rat × α)):evl φ (p++q)=evl φ p+evl φ q:=by
 induction p with
 | nil=>show evl φ q=0+evl φ q;rw [ZFw]
 | cons t p ih=>show _+evl φ (p++q)=(_+evl φ p)+evl φ q;rw [ih,Rat.add_assoc]
section
variable {α:Type} {D:α→Prop} {lt:α→α→Prop} [DecidableRel lt]
theorem Zue (o:KO D lt) (φ:α→Rat) {p q:List (Rat × α)} (hp:∀t∈p,D t.2) (hq:∀t∈q,D t.2):evl φ (addP lt p q)=evl φ p+evl φ q:=by
 fun_induction addP lt p q with
 | case1 q=>show evl φ q=0+evl φ q;rw [ZFw]
 | case2 s p=>show evl φ (s :: p)=evl φ (s :: p)+0;rw [ZDj]
 | case3 s p u q h1 ih =>
   have:=ih (λt h=>hp t (.tail _ h)) hq;simp only [evl] at this ⊢;rw [this];grind
 | case4 s p u q h1 h2 ih =>
   have:=ih hp (λt h=>hq t (.tail _ h));simp only [evl] at this ⊢;rw [this];grind
 | case5 s p u q h1 h2 h3 ih =>
   have e:s.2=u.2:=by rcases o.tri s.2 u.2 (hp s (.head _)) (hq u (.head _)) with h | h | h;exact absurd h h2;exact h;exact absurd h h1
   have:=ih (λt h=>hp t (.tail _ h)) (λt h=>hq t (.tail _ h));simp only [evl] at this ⊢;have e2:s.1*φ s.2+u.1*φ u.2=0:=by rw [e,←Rat.add_mul,h3,Rat.zero_mul]
   rw [this];grind
 | case6 s p u q h1 h2 h3 ih =>
   have e:s.2=u.2:=by rcases o.tri s.2 u.2 (hp s (.head _)) (hq u (.head _)) with h | h | h;exact absurd h h2;exact h;exact absurd h h1
   have:=ih (λt h=>hp t (.tail _ h)) (λt h=>hq t (.tail _ h));simp only [evl] at this ⊢;rw [this,e];grind
end
section
variable {α:Type} {D:α→Prop} {lt:α→α→Prop}
def Zdc (a:Rat) (p:List (Rat × α)):List (Rat × α):=p.map λs=>(s.1*a,s.2)
theorem Zgs {a:Rat} {p:List (Rat × α)} (hp:Srt D lt p) (h:a≠0):Srt D lt (Zdc a p):=by
 refine⟨λu hu=>?_,List.pairwise_map.2 hp.2⟩;obtain⟨s,hs,rfl⟩:=List.mem_map.1 hu;have:=hp.1 s hs;exact⟨by show s.1*a≠0;intro h0;rcases Rat.mul_eq_zero.1 h0 with h1 | h1;exact this.1 h1;exact h h1,this.2⟩
end
section
variable {α:Type} [DecidableEq α]
end
section
variable {α:Type} {D:α→Prop} {lt:α→α→Prop} [DecidableEq α] [DecidableRel lt]
end
section
variable {α:Type} {lt:α→α→Prop} [DecidableRel lt]
end
section
variable {α:Type} {D:α→Prop} {lt:α→α→Prop} [DecidableRel lt]
def subP (lt:α→α→Prop) [DecidableRel lt] (p q:List (Rat × α)):List (Rat × α):=addP lt p (Zdc (-1) q)
theorem neg1:(-1:Rat)≠0:=by decide
theorem Zw4 (o:KO D lt) {p q:List (Rat × α)} (hp:Srt D lt p) (hq:Srt D lt q):Srt D lt (subP lt p q):=Zc0 o hp (Zgs hq neg1)
end
section
variable {α:Type} {D:α→Prop} {lt:α→α→Prop} [DecidableEq α] [DecidableRel lt]
end
section
variable {α:Type} {lt:α→α→Prop} [DecidableRel lt]
theorem Zg0 {p q:List (Rat × α)} {t:Rat × α} (h:t∈addP lt p q):t∈p∨t∈q∨∃s∈p,∃u∈q,t=(s.1+u.1,s.2):=by
 fun_induction addP lt p q with
 | case1 q=>exact .inr (.inl h)
 | case2 s p=>exact .inl h
 | case3 s p u q h1 ih =>
   rcases List.mem_cons.1 h with rfl | h
   ·exact .inl (.head _)
   ·rcases ih h with h | h | ⟨a,ha,b,hb,e⟩
    ·exact .inl (.tail _ h)
    ·exact .inr (.inl h)
    ·exact .inr (.inr ⟨a,.tail _ ha,b,hb,e⟩)
 | case4 s p u q h1 h2 ih =>
   rcases List.mem_cons.1 h with rfl | h
   ·exact .inr (.inl (.head _))
   ·rcases ih h with h | h | ⟨a,ha,b,hb,e⟩
    ·exact .inl h
    ·exact .inr (.inl (.tail _ h))
    ·exact .inr (.inr ⟨a,ha,b,.tail _ hb,e⟩)
 | case5 s p u q h1 h2 h3 ih =>
   rcases ih h with h | h | ⟨a,ha,b,hb,e⟩
   ·exact .inl (.tail _ h)
   ·exact .inr (.inl (.tail _ h))
   ·exact .inr (.inr ⟨a,.tail _ ha,b,.tail _ hb,e⟩)
 | case6 s p u q h1 h2 h3 ih =>
   rcases List.mem_cons.1 h with rfl | h
   ·exact .inr (.inr ⟨s,.head _,u,.head _,rfl⟩)
   ·rcases ih h with h | h | ⟨a,ha,b,hb,e⟩
    ·exact .inl (.tail _ h)
    ·exact .inr (.inl (.tail _ h))
    ·exact .inr (.inr ⟨a,.tail _ ha,b,.tail _ hb,e⟩)
end
def BQ (D B:Nat) (q:Rat):Prop:=q.den ∣ D∧q.num.natAbs≤B*q.den
theorem Zts {z:Int} {m:Nat} (hm:m≠0) {D B:Nat} (hd:m ∣ D*Nat.gcd z.natAbs m) (hb:z.natAbs≤B*m):BQ D B (mkRat z m):=by
 have h0:0 < Nat.gcd z.natAbs m:=ZG4 _ (ZDg hm);obtain⟨c,hc⟩:=Nat.gcd_dvd_right z.natAbs m;obtain⟨a,ha⟩:=Nat.gcd_dvd_left z.natAbs m;unfold BQ;rw [Rat.num_mkRat,Rat.den_mkRat,ZBl hm,ZFv m z.natAbs];generalize Nat.gcd z.natAbs m=g at *;have e1:m/g=c:=by rw [hc];exact Nat.mul_div_cancel_left _ h0
 have e2:(z/(g:Int)).natAbs=a:=by
  rcases Int.natAbs_eq z with h | h
  ·rw [h,ha,show((g*a:Nat):Int)=(g:Int)*(a:Int) from by simp,ZG5 _ zo];simp
  ·rw [h,ha,show -((g*a:Nat):Int)=(g:Int)*(-(a:Int)) from by simp [Int.mul_neg],ZG5 _ zo];simp
 rw [e1,ZBl hm,e2];constructor
 ·rw [hc,ZCl D] at hd;exact Nat.dvd_of_mul_dvd_mul_left h0 hd
 ·rw [ha,hc,show B*(g*c)=g*(B*c) from by simp only [ZFh]] at hb;exact Nat.le_of_mul_le_mul_left hb h0
theorem BQ.mono {D B E C:Nat} {q:Rat} (h:BQ D B q) (hd:D ∣ E) (hb:B≤C):BQ E C q:=⟨Nat.dvd_trans h.1 hd,ZBs h.2 (ZB4 _ hb)⟩
theorem BQ.mul {D B E C:Nat} {a b:Rat} (h:BQ D B a) (k:BQ E C b):BQ (D*E) (B*C) (a*b):=by
 rw [Rat.mul_def'];refine Zts (ZEq a.den_nz b.den_nz) (Nat.dvd_trans (Nat.mul_dvd_mul h.1 k.1) (ZFm _ _)) ?_;rw [ZEe]
 calc _≤(B*a.den)*(C*b.den):=ZCw h.2 k.2
  _=B*C*(a.den*b.den):=by simp only [ZCv,ZFh]
theorem BQ.add {D B C:Nat} {a b:Rat} (h:BQ D B a) (k:BQ D C b):BQ D (B+C) (a+b):=by
 obtain⟨x,hx⟩:=h.1;obtain⟨y,hy⟩:=k.1;have e:a+b=mkRat (a.num*b.den+b.num*a.den) (a.den*b.den):=Rat.add_def' a b;rw [e];refine Zts (ZEq a.den_nz b.den_nz) ?_ ?_
 ·
  rw [←Nat.gcd_mul_left];refine Nat.dvd_gcd ?_ (ZG8 _ _)
  have e2:((D*(a.num*b.den+b.num*a.den).natAbs:Nat):Int)=((D:Int)*(a.num*b.den+b.num*a.den)).natAbs:=by
   rw [ZEe];simp
  have e3:D*(a.num*b.den+b.num*a.den).natAbs=((D:Int)*(a.num*b.den+b.num*a.den)).natAbs:=zo;rw [e3]
  have e4:(D:Int)*(a.num*b.den+b.num*a.den)=((a.den*b.den:Nat):Int)*(x*a.num+y*b.num):=by
   have h1:(D:Int)=a.den*x:=by rw [hx];simp
   have h2:(D:Int)=b.den*y:=by rw [hy];simp
   rw [Int.mul_add,Int.mul_add,show((a.den*b.den:Nat):Int)=(a.den:Int)*b.den from by simp];congr 1
   ·rw [h1];simp only [Int.mul_assoc,Int.mul_left_comm,Int.mul_comm]
   ·rw [h2];simp only [Int.mul_assoc,Int.mul_left_comm,Int.mul_comm]
  rw [e4,ZEe,ZEm];exact ZFm _ _
 ·have h1:=h.2;have h2:=k.2
  calc _≤(a.num*b.den).natAbs+(b.num*a.den).natAbs:=zo
   _=a.num.natAbs*b.den+b.num.natAbs*a.den:=by rw [ZEe,ZEe,ZEm,ZEm]
   _≤(B*a.den)*b.den+(C*b.den)*a.den:=ZCx (ZB4 _ h1) (ZB4 _ h2)
   _=(B+C)*(a.den*b.den):=by rw [ZCc];simp only [ZCv,ZCl b.den]
theorem BQ.neg {D B:Nat} {a:Rat} (h:BQ D B a):BQ D B (-a):=by
 refine⟨h.1,?_⟩;show(-a.num).natAbs≤B*a.den;rw [ZGl];exact h.2
theorem BQ.int (z:Int) {D B:Nat} (h:z.natAbs≤B):BQ D B (z:Rat):=⟨⟨D,(ZDn D).symm⟩,by show z.natAbs≤B*1;omega⟩
end Go.Pol
section
namespace Go.Pol
structure CO {α:Type} (cmp:α→α→Int):Prop where
 eqz:∀a b,cmp a b=0→a=b
 refl:∀a,cmp a a=0
 flip:∀a b,cmp a b < 0↔0 < cmp b a
 tr:∀a b c,cmp a b < 0→cmp b c < 0→cmp a c < 0
structure CP {α:Type} (cmp:α→α→Int):Prop where
 tr:∀{a b c},cmp a b≤0→cmp b c≤0→cmp a c≤0
 tot:∀a b,¬cmp a b < 0→cmp b a≤0
theorem CP.key {α β:Type} {cmp:α→α→Int} (o:CP cmp) (f:β→α):CP (λs t=>cmp (f s) (f t)):=⟨λh k=>o.tr h k,λ_ _ h=>o.tot _ _ h⟩
namespace CO
variable {α:Type} {cmp:α→α→Int}
theorem le_tr (o:CO cmp) {a b c:α} (h:cmp a b≤0) (k:cmp b c≤0):cmp a c≤0:=by
 by_cases h0:cmp a b=0
 ·rw [o.eqz a b h0];exact k
 ·by_cases k0:cmp b c=0
  ·rw [←o.eqz b c k0];exact h
  ·have:=o.tr a b c zo zo;omega
theorem le_total (o:CO cmp) (a b:α) (h:¬cmp a b < 0):cmp b a≤0:=by
 have:=(o.flip b a);have:=(o.flip a b);omega
theorem anti (o:CO cmp) {a b:α} (h:cmp a b≤0) (k:cmp b a≤0):a=b:=by
 refine o.eqz a b ?_;have:=(o.flip b a);have:=(o.flip a b);omega
theorem cp (o:CO cmp):CP cmp:=⟨λh k=>o.le_tr h k,o.le_total⟩
theorem ko (o:CO cmp):KO (λ_=>True) (λx y=>cmp y x < 0) where
 irr x h:=by rw [o.refl] at h;omega
 tr x y z h k:=o.tr z y x k h
 tri x y _ _:=by
  by_cases h:cmp y x < 0
  ·exact .inl h
  ·by_cases h0:cmp x y < 0
   ·exact .inr (.inr h0)
   ·exact .inr (.inl (o.eqz x y (by have:=o.flip y x;omega)))
end CO
section
variable {α:Type} (cmp:α→α→Int)
def Asc (l:List α):Prop:=l.Pairwise λa b=>cmp a b≤0
def insI (P:List α) (x:α):Nat→List α
 | 0=>x :: P
 | j+1=>if cmp x (P.getD j x) < 0 then insI P x j else P.take (j+1)++x :: P.drop (j+1)
def srtN (L:List α):Nat→List α
 | 0=>[]
 | n+1=>match L[n]? with
   | some x=>insI cmp (srtN L n) x (srtN L n).length
   | none=>srtN L n
def srtQ (L:List α):List α:=srtN cmp L L.length
variable {cmp}
theorem Zlk (P:List α) (x:α):∀j,j≤P.length→(∀t (h:t < P.length),j≤t→cmp x P[t] < 0)→∃k,k≤P.length∧insI cmp P x j=P.take k++x :: P.drop k∧(∀t (h:t < P.length),k≤t→cmp x P[t] < 0)∧∀t (h:t < P.length),t+1=k→¬cmp x P[t] < 0
 | 0,_,h=>⟨0,ZBw _,by simp [insI],h,λt ht e=>zo⟩
 | j+1,hj,h=>by
   have hg:P.getD j x=P[j]'zo:=by rw [ZB6,ZBx zo];rfl
   unfold insI;rw [hg];split
   ·rename_i hc;refine Zlk P x j zo λt ht hjt=>?_;by_cases e:t=j
    ·subst e;exact hc
    ·exact h t ht zo
   ·rename_i hc
    exact⟨j+1,hj,rfl,h,λt ht e=>by have:t=j:=zo
                                   subst this;exact hc⟩
theorem Zzk (P:List α) (x:α):(insI cmp P x P.length).Perm (x :: P):=by
 obtain⟨k,_,e,_⟩:=Zlk (cmp:=cmp) P x P.length (ZBn _) (λt h1 h2=>zo);rw [e];refine(List.perm_middle).trans ?_;rw [ZDo]
theorem insI_asc (o:CP cmp) {P:List α} (hP:Asc cmp P) (x:α):Asc cmp (insI cmp P x P.length):=by
 obtain⟨k,hk,e,h1,h2⟩:=Zlk (cmp:=cmp) P x P.length (ZBn _) (λt h1 h2=>zo);rw [e];unfold Asc at *;have hle:∀a∈P.take k,cmp a x≤0:=λa ha=>by
  obtain⟨t,ht,rfl⟩:=List.mem_iff_getElem.1 ha;rw [ZB9] at ht;rw [List.getElem_take];have hn:=h2 (k - 1) zo zo;have hlast:=o.tot _ _ hn;by_cases et:t=k - 1
  ·subst et;exact hlast
  ·exact o.tr (List.pairwise_iff_getElem.1 hP t (k - 1) zo zo zo) hlast
 have hge:∀b∈P.drop k,cmp x b≤0:=λb hb=>by
  obtain⟨t,ht,rfl⟩:=List.mem_iff_getElem.1 hb;rw [ZDt] at ht;rw [List.getElem_drop];have:=h1 (k+t) zo zo;omega
 refine List.pairwise_append.2 ⟨hP.sublist (List.take_sublist _ _),List.pairwise_cons.2 ⟨hge,hP.sublist (List.drop_sublist _ _)⟩,λa ha b hb=>?_⟩;rcases List.mem_cons.1 hb with rfl | hb
 ·exact hle a ha
 ·exact o.tr (hle a ha) (hge b hb)
theorem Zov (L:List α):∀n,n≤L.length→(srtN cmp L n).Perm (L.take n)
 | 0,_=>by simp [srtN]
 | n+1,h=>by
   have hn:L[n]?=some (L[n]'zo):=ZBx zo;unfold srtN;rw [hn];simp only;rw [ZFl,hn];refine(Zzk _ _).trans ?_;refine(List.Perm.cons _ (Zov L n zo)).trans ?_;simp only [Option.toList_some];exact(List.perm_append_singleton _ _).symm
theorem Zm9 (o:CP cmp) (L:List α):∀n,Asc cmp (srtN cmp L n)
 | 0=>.nil
 | n+1=>by
   unfold srtN;split
   ·exact insI_asc o (Zm9 o L n) _
   ·exact Zm9 o L n
theorem Za1 (L:List α):(srtQ cmp L).Perm L:=by
 have:=Zov (cmp:=cmp) L L.length (ZBn _)
 rwa [ZC8] at this
theorem Zb5 (o:CP cmp) (L:List α):Asc cmp (srtQ cmp L):=Zm9 o L _
theorem srtQ_len (L:List α):(srtQ cmp L).length=L.length:=(Za1 L).length_eq
theorem Zfk (o:CO cmp):∀{l m:List α},Asc cmp l→Asc cmp m→l.Perm m→l=m
 | [],m,_,_,p=>(List.nil_perm.1 p).symm
 | a :: l,[],_,_,p=>by have:=p.length_eq;simp at this
 | a :: l,b :: m,hl,hm,p=>by
   have hl':=List.pairwise_cons.1 hl;have hm':=List.pairwise_cons.1 hm
   have hab:a=b:=by
    have h1:a∈b :: m:=p.mem_iff.1 (.head _);have h2:b∈a :: l:=p.mem_iff.2 (.head _);rcases List.mem_cons.1 h1 with h | h1
    ·exact h
    ·rcases List.mem_cons.1 h2 with h | h2
     ·exact h.symm
     ·exact o.anti (hl'.1 b h2) (hm'.1 a h1)
   subst hab;rw [Zfk o hl'.2 hm'.2 (List.Perm.cons_inv p)]
def putQ (cmp:α→α→Int):List α→α→List α
 | [],q=>[q]
 | a :: l,q=>if cmp a q≤0 then a :: putQ cmp l q else q :: a :: l
theorem Zfp (q:α):∀l:List α,(putQ cmp l q).Perm (q :: l)
 | []=>.refl _
 | a :: l=>by
   unfold putQ;split
   ·exact((Zfp q l).cons a).trans (.swap ..)
   ·exact .refl _
theorem Zkd (o:CP cmp) (q:α):∀{l:List α},Asc cmp l→Asc cmp (putQ cmp l q)
 | [],_=>ZF9 ..
 | a :: l,h=>by
   have h':=List.pairwise_cons.1 h;unfold putQ;split
   ·rename_i hc;refine List.pairwise_cons.2 ⟨λb hb=>?_,Zkd o q h'.2⟩;rcases List.mem_cons.1 ((Zfp q l).mem_iff.1 hb) with rfl | hb
    ·exact hc
    ·exact h'.1 b hb
   ·rename_i hc;have hqa:cmp q a≤0:=o.tot a q zo;refine List.pairwise_cons.2 ⟨λb hb=>?_,h⟩;rcases List.mem_cons.1 hb with rfl | hb
    ·exact hqa
    ·exact o.tr hqa (h'.1 b hb)
theorem Zfi (L:List α):∀acc:List α,(L.foldl (putQ cmp) acc).Perm (L++acc):=by
 induction L with
 | nil=>intro acc;exact .refl _
 | cons a L ih =>
   intro acc;show(L.foldl (putQ cmp) (putQ cmp acc a)).Perm (a :: (L++acc));refine(ih _).trans (((Zfp a acc).append_left L).trans ?_);exact List.perm_middle
theorem Znz (o:CP cmp) (L:List α):∀acc:List α,Asc cmp acc→Asc cmp (L.foldl (putQ cmp) acc):=by
 induction L with
 | nil=>intro acc h;exact h
 | cons a L ih=>intro acc h;exact ih _ (Zkd o a h)
theorem Zp0 (o:CO cmp) (L:List α):L.foldl (putQ cmp) []=srtQ cmp L :=
 Zfk o (Znz o.cp L [] .nil) (Zb5 o.cp L) (by
  have:=Zfi (cmp:=cmp) L [];rw [ZC6] at this;exact this.trans (Za1 L).symm)
end
section
variable {α:Type} (cmp:α→α→Int)
def lexL:List α→List α→Int
 | [],[]=>0
 | [],_ :: _=>-1
 | _ :: _,[]=>1
 | a :: l,b :: m=>if cmp a b=0 then lexL l m else cmp a b
def ordL (l m:List α):Int:=if l.length < m.length then -1 else if m.length < l.length then 1 else lexL cmp l m
variable {cmp}
theorem Zb6 (a b:α) (l m:List α):lexL cmp (a :: l) (b :: m)=if cmp a b=0 then lexL cmp l m else cmp a b:=rfl
theorem Znr (o:CO cmp):CO (lexL cmp) where
 eqz:=by
  intro l
  induction l with
  | nil=>intro m h;cases m with
    | nil=>rfl
    | cons b m=>exact absurd h (by simp [lexL])
  | cons a l ih=>intro m h;cases m with
    | nil=>exact absurd h (by simp [lexL])
    | cons b m =>
      unfold lexL at h;split at h
      ·rename_i h0;rw [o.eqz a b h0,ih m h]
      ·contradiction
 refl:=by
  intro l
  induction l with
  | nil=>rfl
  | cons a l ih=>unfold lexL;rw [ZBm (o.refl a)];exact ih
 flip:=by
  intro l
  induction l with
  | nil=>intro m;cases m<;>simp [lexL]
  | cons a l ih=>intro m;cases m with
    | nil=>simp [lexL]
    | cons b m =>
      have h1:=o.flip a b;have h2:=o.flip b a;unfold lexL;by_cases h:cmp a b=0
      ·rw [ZBm h,ZBm (by rw [o.eqz a b h];exact o.refl b)];exact ih m
      ·rw [ZBl h,ZBl zo];exact h1
 tr:=by
  intro l
  induction l with
  | nil=>intro m n h k;cases n with
    | nil=>cases m with
      | nil=>exact h
      | cons b m=>simp [lexL] at k
    | cons c n=>simp [lexL]
  | cons a l ih=>intro m n h k;cases m with
    | nil=>simp [lexL] at h
    | cons b m=>cases n with
      | nil=>simp [lexL] at k
      | cons c n =>
        rw [Zb6] at *;by_cases hab:cmp a b=0
        ·rw [ZBm hab] at h;by_cases hbc:cmp b c=0
         ·rw [ZBm hbc] at k;rw [ZBm (by rw [o.eqz a b hab,hbc])];exact ih m n h k
         ·rw [ZBl hbc] at k;rw [o.eqz a b hab,ZBl hbc];exact k
        ·rw [ZBl hab] at h;by_cases hbc:cmp b c=0
         ·rw [←o.eqz b c hbc,ZBl hab];exact h
         ·rw [ZBl hbc] at k;have:=o.tr a b c h k;rw [ZBl zo];exact this
theorem ordL_co (o:CO cmp):CO (ordL cmp) where
 eqz l m h:=by
  unfold ordL at h;split at h
  ·omega
  ·split at h
   ·omega
   ·exact(Znr o).eqz l m h
 refl l:=by unfold ordL;rw [ZBl zo,ZBl zo];exact(Znr o).refl l
 flip l m:=by
  have:=(Znr o).flip l m;unfold ordL;by_cases h1:l.length < m.length
  ·rw [ZBm h1,ZBl zo,ZBm h1];omega
  ·by_cases h2:m.length < l.length
   ·rw [ZBl h1,ZBm h2,ZBm h2];omega
   ·rw [ZBl h1,ZBl h2,ZBl h2,ZBl h1];exact this
 tr l m n h k:=by
  have:=(Znr o).tr l m n;unfold ordL at *;by_cases h1:l.length < m.length
  ·by_cases k1:m.length < n.length
   ·rw [ZBm zo];omega
   ·by_cases k2:n.length < m.length
    ·rw [ZBl k1,ZBm k2] at k;omega
    ·rw [ZBm zo];omega
  ·by_cases h2:m.length < l.length
   ·rw [ZBl h1,ZBm h2] at h;omega
   ·by_cases k1:m.length < n.length
    ·rw [ZBm zo];omega
    ·by_cases k2:n.length < m.length
     ·rw [ZBl k1,ZBm k2] at k;omega
     ·rw [ZBl h1,ZBl h2] at h;rw [ZBl k1,ZBl k2] at k;rw [ZBl zo,ZBl zo];exact this h k
end
section
variable {κ:Type} [DecidableEq κ]
def addC:List (Rat × κ)→Rat × κ→List (Rat × κ)
 | [],t=>[t]
 | s :: l,t=>if s.2=t.2 then (s.1+t.1,s.2) :: l else s :: addC l t
theorem cof_addC (l:List (Rat × κ)) (t:Rat × κ) (x:κ):cof (addC l t) x=cof l x+if t.2=x then t.1 else 0:=by
 induction l with
 | nil=>show(if t.2=x then t.1 else 0)+0=0+_;rw [Rat.add_comm]
 | cons s l ih =>
   unfold addC;split
   ·rename_i h;simp only [cof];rw [h];split<;>grind
   ·simp only [cof];rw [ih];grind
theorem addC_key {l:List (Rat × κ)} {t u:Rat × κ} (h:u∈addC l t):u.2=t.2∨∃s∈l,s.2=u.2:=by
 induction l with
 | nil=>rw [List.mem_singleton.1 h];exact .inl rfl
 | cons s l ih =>
   unfold addC at h;split at h
   ·rename_i e;rcases List.mem_cons.1 h with rfl | h
    ·exact .inl e
    ·exact .inr ⟨u,.tail _ h,rfl⟩
   ·rcases List.mem_cons.1 h with rfl | h
    ·exact .inr ⟨u,.head _,rfl⟩
    ·rcases ih h with h | ⟨s',h1,h2⟩
     ·exact .inl h
     ·exact .inr ⟨s',.tail _ h1,h2⟩
def Dst (l:List (Rat × κ)):Prop:=l.Pairwise λs t=>s.2≠t.2
theorem addC_dst {l:List (Rat × κ)} (h:Dst l) (t:Rat × κ):Dst (addC l t):=by
 induction l with
 | nil=>exact ZF9 ..
 | cons s l ih =>
   have h':=List.pairwise_cons.1 h;unfold addC;split
   ·exact List.pairwise_cons.2 ⟨λu hu=>h'.1 u hu,h'.2⟩
   ·rename_i hne;refine List.pairwise_cons.2 ⟨λu hu=>?_,ih h'.2⟩;rcases addC_key hu with e | ⟨v,hv,e⟩
    ·rw [e];exact hne
    ·rw [←e];exact h'.1 v hv
theorem Zmw (l:List (Rat × κ)) (x:κ):cof (l.filter λt=>decide (t.1≠0)) x=cof l x:=by
 induction l with
 | nil=>rfl
 | cons t l ih =>
   rw [ZE0];split
   ·simp only [cof];rw [ih]
   ·rename_i h;have h0:t.1=0:=by simpa using h
    simp only [cof];rw [ih,h0];grind
theorem cof_perm {l m:List (Rat × κ)} (h:l.Perm m) (x:κ):cof l x=cof m x:=by
 induction h with
 | nil=>rfl
 | cons a _ ih=>simp only [cof];rw [ih]
 | swap a b l=>simp only [cof];grind
 | trans _ _ ih1 ih2=>rw [ih1,ih2]
end
section
variable {κ:Type} (cmp:κ→κ→Int)
def sumG (l:List (Rat × κ)):List (Rat × κ):=sumH (λx y=>cmp y x < 0) (l.map λt=>if t.1=0 then [] else [t])
variable {cmp}
theorem Zna (o:CO cmp):∀{l:List (Rat × κ)},Dst l→(srtQ (λs t:Rat × κ=>cmp s.2 t.2) l).Pairwise λs t=>cmp s.2 t.2 < 0:=by
 intro l hd;have hp:=Za1 (cmp:=λs t:Rat × κ=>cmp s.2 t.2) l
 have hd2:Dst (srtQ (λs t:Rat × κ=>cmp s.2 t.2) l):=by
  refine(List.Perm.pairwise_iff ?_ hp).2 hd;intro a b h e;exact h e.symm
 have ha:(srtQ (λs t:Rat × κ=>cmp s.2 t.2) l).Pairwise λs t=>cmp s.2 t.2≤0:=Zb5 (o.cp.key λs:Rat × κ=>s.2) l;exact(ha.and hd2).imp λ{a b} h=>by
  obtain⟨h1,h2⟩:=h;by_cases h0:cmp a.2 b.2=0
  ·exact absurd (o.eqz _ _ h0) h2
  ·omega
theorem Zme (l:List (Rat × κ)):∀p∈l.map (λt=>if t.1=0 then [] else [t]),Srt (λ_=>True) (λx y=>cmp y x < 0) p:=λp hp=>by
 obtain⟨t,_,rfl⟩:=List.mem_map.1 hp;split
 ·exact .nil
 ·rename_i h;exact Srt.nil.cons h trivial (λu hu=>by cases hu)
theorem Zm5 (o:CO cmp) (l:List (Rat × κ)):Srt (λ_=>True) (λx y=>cmp y x < 0) (sumG cmp l):=Zhd o.ko _ (Zme l)
end
section
variable {κ:Type} [DecidableEq κ]
variable (cmp:κ→κ→Int)
def sumC (l:List (Rat × κ)):List (Rat × κ):=srtQ (λs t=>cmp s.2 t.2) ((l.foldl addC []).filter λt=>decide (t.1≠0))
variable {cmp}
theorem Zl5 (L:List (Rat × κ)) (x:κ):∀acc:List (Rat × κ),cof (L.foldl addC acc) x=cof acc x+cof L x:=by
 induction L with
 | nil=>intro acc;show cof acc x=cof acc x+0;rw [ZDj]
 | cons t L ih =>
   intro acc;show cof (L.foldl addC (addC acc t)) x=cof acc x+((if t.2=x then t.1 else 0)+cof L x);rw [ih,cof_addC,Rat.add_assoc]
theorem Zfj (L:List (Rat × κ)):∀acc:List (Rat × κ),Dst acc→Dst (L.foldl addC acc):=by
 induction L with
 | nil=>intro acc h;exact h
 | cons t L ih=>intro acc h;exact ih _ (addC_dst h t)
theorem sumC_srt (o:CO cmp) (l:List (Rat × κ)):Srt (λ_=>True) (λx y=>cmp y x < 0) (sumC cmp l):=by
 have hd:Dst ((l.foldl addC []).filter λt=>decide (t.1≠0)):=List.Pairwise.sublist (List.filter_sublist ..) (Zfj l [] .nil);refine⟨λt ht=>⟨?_,trivial⟩,Zna o hd⟩;have:=((Za1 _).mem_iff.1 ht);have:=(List.mem_filter.1 this).2;exact ZGx this
theorem sumC_cof (l:List (Rat × κ)) (x:κ):cof (sumC cmp l) x=cof l x:=by
 unfold sumC;rw [cof_perm (Za1 _),Zmw,Zl5];show 0+_=_;rw [ZFw]
theorem Zm6 (o:CO cmp) (l:List (Rat × κ)) (x:κ):cof (sumG cmp l) x=cof l x:=by
 unfold sumG;rw [sumH_cof o.ko x _ (Zme l)]
 induction l with
 | nil=>rfl
 | cons t l ih =>
   show cof _ x+cofL (l.map _) x=(if t.2=x then t.1 else 0)+cof l x;rw [ih];congr 1;show cof (if t.1=0 then [] else [t]) x=_;by_cases h:t.1=0
   ·rw [ZBm h,h];show(0:Rat)=_;split<;>rfl
   ·rw [ZBl h];show _+(0:Rat)=_;rw [ZDj]
theorem Zm7 (o:CO cmp) (l:List (Rat × κ)):sumC cmp l=sumG cmp l:=Zja o.ko (sumC_srt o l) (Zm5 o l) λx=>by rw [sumC_cof,Zm6 o]
end
end Go.Pol
end
