/- Contracts of the functions that the law reaches, and the rules by which they are walked. They say what a call hands back for every input within the bounds that each names; no other condition. -/
import Derived.Test.YtimmnimikmnljaaGreatBd7
import Derived.Scope
set_option linter.unusedSimpArgs false
set_option linter.unusedVariables false
set_option maxRecDepth 20000
set_option maxHeartbeats 16000000
namespace Go.Proofs.YtimmnimikmnljaaGreat
open Go Go.RowKit Go.Pg
attribute [-bool_to_prop] Bool.and_eq_decide Bool.or_eq_decide Bool.decide_beq_decide decide_eq_decide
attribute [local go_sem] Tryz.underlying40 Tryz.underlying3 Tryz.underlying104 Tryz.underlying115 Tryz.underlying4 Tryz.underlying42 Tryz.underlying44 Tryz.underlying27 Tryz.underlying141 sz3 by3 z3 szL byL zL szB zB Zce zNat Zcf zInt Zcd zRat
theorem Zh8 (s:Bool) (n:Nat) (hn:(toL n).length≤1000000000):Pure Tryz.prog 167 [.v (.bool s),lim (toL n)] (intZ (zI s n)):=by
 rw [Zh7];have hp:=@Zbo n;cases s
 ·refine Zaa (tok:=0) Tryz.func167 rfl Tryz.ntmps167 Tryz.results167 Tryz.call167 (by rfl) (by simp) ?_;(focus (refine wkvp w_t w_t ?_;(repeat' first|exact w_t|apply w_l);all_goals intros));simp (disch:=omega) only [go_sem,Bool.false_and]
 ·by_cases h:0 < n
  ·refine Zaa (tok:=0) Tryz.func167 rfl Tryz.ntmps167 Tryz.results167 Tryz.call167 (by rfl) (by simp) ?_;(focus (refine wkvp w_t w_t ?_;(repeat' first|exact w_t|apply w_l);all_goals intros));simp (disch:=omega) only [go_sem,decide_eq_true h]
  ·refine Zaa (tok:=0) Tryz.func167 rfl Tryz.ntmps167 Tryz.results167 Tryz.call167 (by rfl) (by simp) ?_;(focus (refine wkvp w_t w_t ?_;(repeat' first|exact w_t|apply w_l);all_goals intros));simp (disch:=omega) only [go_sem,decide_eq_false h]
theorem intOf' (s:Bool) (n:Nat) (hn:(toL n).length≤100000000):Pure Tryz.prog 187 [.v (.bool s),lim (toL n)] (intZ (zI s n)):=by
 rw [Zh7];have hp:=@Zbo n;cases s
 ·refine Zaa (tok:=0) Tryz.func187 rfl Tryz.ntmps187 Tryz.results187 Tryz.call187 (by rfl) (by simp) ?_;(focus (refine wkvp w_t (w_1 (Zo7 n hn)) ?_;(repeat' first|exact w_t|apply w_l);all_goals intros));simp (disch:=omega) only [go_sem,Bool.false_and]
 ·by_cases h:0 < n
  ·refine Zaa (tok:=0) Tryz.func187 rfl Tryz.ntmps187 Tryz.results187 Tryz.call187 (by rfl) (by simp) ?_;(focus (refine wkvp w_t (w_1 (Zo7 n hn)) ?_;(repeat' first|exact w_t|apply w_l);all_goals intros));simp (disch:=omega) only [go_sem,decide_eq_true h]
  ·refine Zaa (tok:=0) Tryz.func187 rfl Tryz.ntmps187 Tryz.results187 Tryz.call187 (by rfl) (by simp) ?_;(focus (refine wkvp w_t (w_1 (Zo7 n hn)) ?_;(repeat' first|exact w_t|apply w_l);all_goals intros));simp (disch:=omega) only [go_sem,decide_eq_false h]
theorem intNorm (s:Bool) (n:Nat) (hn:(toL n).length≤100000000):Pure Tryz.prog 168 [intA s n] (intZ (zI s n)):=by
 refine Zaa (tok:=0) Tryz.func168 rfl Tryz.ntmps168 Tryz.results168 Tryz.call168 (by rfl) (by simp) ?_;(focus (refine wkvp w_t (w_1 (intOf' s n hn)) ?_;(repeat' first|exact w_t|apply w_l);all_goals intros));simp (disch:=omega) only [go_sem]
theorem Zpi (s:Bool) (n:Nat) (hn:(toL n).length≤100000000):Pure Tryz.prog 89 [intA s n] (.v (.int .i64 (zI s n).sign)):=by
 by_cases h:n=0
 ·have hb:Zml n=0:=Zgv.2 h;have hz:(zI s n).sign=0:=by subst h;cases s<;>rfl
  rw [hz];refine Zaa (tok:=0) Tryz.func89 rfl Tryz.ntmps89 Tryz.results89 Tryz.call89 (by rfl) (by simp) ?_;(focus (refine wkvp (w_2 hb @Int.natCast_zero) (w_1 (Zta n hn)) ?_;(repeat' first|exact w_t|apply w_l);all_goals intros));simp (disch:=omega) only [go_sem]
 ·have hb:Zml n≠0:=λe=>h (Zgv.1 e);cases s
  ·have hz:(zI false n).sign=1:=Int.sign_eq_one_of_pos (by simp [zI];omega);rw [hz];refine Zaa (tok:=0) Tryz.func89 rfl Tryz.ntmps89 Tryz.results89 Tryz.call89 (by rfl) (by simp) ?_;(focus (refine wkvp w_t (w_1 (Zta n hn)) ?_;(repeat' first|exact w_t|apply w_l);all_goals intros));simp (disch:=omega) only [go_sem]
  ·have hz:(zI true n).sign=-1:=Int.sign_eq_neg_one_of_neg (by simp [zI];omega);rw [hz];refine Zaa (tok:=0) Tryz.func89 rfl Tryz.ntmps89 Tryz.results89 Tryz.call89 (by rfl) (by simp) ?_;(focus (refine wkvp w_t (w_1 (Zta n hn)) ?_;(repeat' first|exact w_t|apply w_l);all_goals intros));simp (disch:=omega) only [go_sem]
def cmpZ (a b:Int):Int:=if a < b then -1 else if b < a then 1 else 0
theorem Ztl (n m:Nat) (hn:(toL n).length≤100000000) (hm:(toL m).length≤100000000):Pure Tryz.prog 179 [lim (toL n),lim (toL m)] (.v (.int .i64 (cmpN n m))):=by
 refine Zaa (tok:=0) Tryz.func179 rfl Tryz.ntmps179 Tryz.results179 Tryz.call179 (by rfl) (by simp) ?_;(focus (refine wkvp w_t (w_1 (nCmp n m hn hm)) ?_;(repeat' first|exact w_t|apply w_l);all_goals intros));simp (disch:=omega) only [go_sem]
theorem intCmp (s t:Bool) (n m:Nat) (hn:(toL n).length≤100000000) (hm:(toL m).length≤100000000):Pure Tryz.prog 147 [intA s n,intA t m] (.v (.int .i64 (cmpZ (zI s n) (zI t m)))):=by
 have cs:=Zpi s n hn;have ct:=Zpi t m hm;rcases Int.lt_trichotomy (zI s n).sign (zI t m).sign with h | h | h
 ·have hc:cmpZ (zI s n) (zI t m)=-1:=by
   unfold cmpZ;rw [if_pos];rcases Int.lt_trichotomy (zI s n) 0 with h1 | h1 | h1<;>rcases Int.lt_trichotomy (zI t m) 0 with h2 | h2 | h2<;>first
    | omega
    | (exfalso;simp [Int.sign_eq_neg_one_of_neg,Int.sign_eq_one_of_pos,h1,h2] at h)
  rw [hc];refine Zaa (tok:=0) Tryz.func147 rfl Tryz.ntmps147 Tryz.results147 Tryz.call147 (by rfl) (by simp) ?_;(focus (refine wkvd w_t (w_2 cs ct) (w_1 (w_d 1 [(1,.v (.int .i64 (zI s n).sign)),(3,.v (.int .i64 (zI t m).sign))] [] [])) ?_;(repeat' first|exact w_t|apply w_l);all_goals intros));simp (disch:=omega) only [go_sem]
 ·have hcc:cmpZ (zI s n) (zI t m)=if (zI s n).sign < 0 then cmpN m n else cmpN n m:=by
   unfold cmpZ cmpN;cases s<;>cases t<;>simp only [zI,if_true,Bool.false_eq_true,if_false] at h ⊢
   ·have hs0:¬(n:Int).sign < 0:=by
     have:=Int.sign_nonneg_iff.2 (Int.natCast_nonneg n);omega
    simp only [hs0,if_false,Int.ofNat_lt]
   ·have h1:=Int.sign_nonneg_iff.2 (Int.natCast_nonneg n)
    have h2:(-(m:Int)).sign≤0:=by
     rcases Nat.eq_zero_or_pos m with h3 | h3
     ·subst h3;simp
     ·rw [Int.sign_eq_neg_one_of_neg (by omega)];omega
    have h3:(n:Int).sign=0:=by omega
    have h4:n=0:=by have:=Int.sign_eq_zero_iff_zero.1 h3;omega
    have h5:m=0:=by rw [h3] at h;have:=Int.sign_eq_zero_iff_zero.1 h.symm;omega
    subst h4;subst h5;simp
   ·have h1:=Int.sign_nonneg_iff.2 (Int.natCast_nonneg m)
    have h2:(-(n:Int)).sign≤0:=by
     rcases Nat.eq_zero_or_pos n with h3 | h3
     ·subst h3;simp
     ·rw [Int.sign_eq_neg_one_of_neg (by omega)];omega
    have h3:(m:Int).sign=0:=by omega
    have h4:m=0:=by have:=Int.sign_eq_zero_iff_zero.1 h3;omega
    have h5:n=0:=by rw [h3] at h;have:=Int.sign_eq_zero_iff_zero.1 h;omega
    subst h4;subst h5;simp
   ·rcases Nat.eq_zero_or_pos n with h3 | h3
    ·subst h3;have h5:m=0:=by have:=Int.sign_eq_zero_iff_zero.1 h.symm;omega
     subst h5;simp
    ·rw [if_pos (c:=(-(n:Int)).sign < 0) (by rw [Int.sign_eq_neg_one_of_neg (by omega)];omega)];have e1:(-(n:Int) < -(m:Int))↔m < n:=by omega
     have e2:(-(m:Int) < -(n:Int))↔n < m:=by omega
     simp only [e1,e2]
  rw [hcc];by_cases hneg:(zI s n).sign < 0
  ·rw [if_pos hneg];refine Zaa (tok:=0) Tryz.func147 rfl Tryz.ntmps147 Tryz.results147 Tryz.call147 (by rfl) (by simp) ?_;(focus (refine wkvd w_t (w_3 cs ct (Ztl m n hm hn)) (w_1 (w_d 1 [(1,.v (.int .i64 (zI s n).sign)),(3,.v (.int .i64 (zI t m).sign))] [] [])) ?_;(repeat' first|exact w_t|apply w_l);all_goals intros));simp (disch:=omega) only [go_sem]
  ·rw [if_neg hneg];refine Zaa (tok:=0) Tryz.func147 rfl Tryz.ntmps147 Tryz.results147 Tryz.call147 (by rfl) (by simp) ?_;(focus (refine wkvd w_t (w_3 cs ct (Ztl n m hn hm)) (w_1 (w_d 1 [(1,.v (.int .i64 (zI s n).sign)),(3,.v (.int .i64 (zI t m).sign))] [] [])) ?_;(repeat' first|exact w_t|apply w_l);all_goals intros));simp (disch:=omega) only [go_sem]
 ·have hc:cmpZ (zI s n) (zI t m)=1:=by
   have h0:zI t m < zI s n:=by
    rcases Int.lt_trichotomy (zI s n) 0 with h1 | h1 | h1<;>rcases Int.lt_trichotomy (zI t m) 0 with h2 | h2 | h2<;>first
     | omega
     | (exfalso;simp [Int.sign_eq_neg_one_of_neg,Int.sign_eq_one_of_pos,h1,h2] at h)
   unfold cmpZ;rw [if_neg (by omega),if_pos h0]
  rw [hc];refine Zaa (tok:=0) Tryz.func147 rfl Tryz.ntmps147 Tryz.results147 Tryz.call147 (by rfl) (by simp) ?_;(focus (refine wkvd w_t (w_2 cs ct) (w_1 (w_d 1 [(1,.v (.int .i64 (zI s n).sign)),(3,.v (.int .i64 (zI t m).sign))] [] [])) ?_;(repeat' first|exact w_t|apply w_l);all_goals intros));simp (disch:=omega) only [go_sem]
theorem Zqo (s t:Bool) (n m:Nat) (hn:(toL n).length≤100000000) (hm:(toL m).length≤100000000):Pure Tryz.prog 123 [intA s n,intA t m] (intZ (zI s n*zI t m)):=by
 have e:zI s n*zI t m=zI (s != t) (n*m):=by cases s<;>cases t<;>simp [zI,Int.mul_neg,Int.neg_mul]
 have lm:(toL (n*m)).length≤1000000000:=by
  have h5:(toL (n*m)).length≤(toL n).length+(toL m).length:=by
   rw [Zai,Nat.pow_add];exact Nat.mul_lt_mul'' (Zai.1 (Nat.le_refl _)) (Zai.1 (Nat.le_refl _))
  omega
 rw [e];have hne:(!(s == t))=(s != t):=rfl;refine Zaa (tok:=0) Tryz.func123 rfl Tryz.ntmps123 Tryz.results123 Tryz.call123 (by rfl) (by simp) ?_;(focus (refine wkvd (w_1 hne) (w_2 (nMul n m hn hm) (Zh8 (s != t) (n*m) lm)) (w_1 (w_d 1 [(9,lim (toL (n*m))),(10,intZ (zI (s != t) (n*m)))] [11] [])) ?_;(repeat' first|exact w_t|apply w_l);all_goals intros));simp (disch:=omega) only [go_sem]
theorem intAdd (s t:Bool) (n m:Nat) (hn:(toL n).length≤100000000) (hm:(toL m).length≤100000000):Pure Tryz.prog 169 [intA s n,intA t m] (intZ (zI s n+zI t m)):=by
 by_cases hst:s=t
 ·subst hst;have e:zI s n+zI s m=zI s (n+m):=by cases s<;>simp [zI]<;>omega
  have la:(toL (n+m)).length≤1000000000:=by
   have h5:(toL (n+m)).length≤max (toL n).length (toL m).length+1:=by
    rw [Zai,Nat.pow_succ];have h1:=Zai.1 (Nat.le_max_left (toL n).length (toL m).length);have h2:=Zai.1 (Nat.le_max_right (toL n).length (toL m).length);generalize 65536 ^ max (toL n).length (toL m).length=p at *;omega
   omega
  rw [e];have hb:(s == s)=true:=by cases s<;>rfl
  refine Zaa (tok:=0) Tryz.func169 rfl Tryz.ntmps169 Tryz.results169 Tryz.call169 (by rfl) (by simp) ?_;(focus (refine wkvd (w_1 hb) (w_2 (nAdd n m hn hm) (Zh8 s (n+m) la)) (w_1 (w_d 2 [(6,lim (toL (n+m))),(7,intZ (zI s (n+m)))] [8] [])) ?_;(repeat' first|exact w_t|apply w_l);all_goals intros));simp (disch:=omega) only [go_sem]
 ·have hb:(s == t)=false:=by cases s<;>cases t<;>first|rfl|exact absurd rfl hst
  have ht:t=!s:=by cases s<;>cases t<;>first|rfl|exact absurd rfl hst
  by_cases hlt:n < m
  ·have hc:cmpN n m=-1:=if_pos hlt;have e:zI s n+zI t m=zI t (m - n):=by rw [ht];cases s<;>simp [zI]<;>omega
   have ls:(toL (m - n)).length≤1000000000:=Nat.le_trans (Za9 (Nat.sub_le _ _)) (by omega);have cs:=nSub m n hm hn;rw [if_neg (by omega),if_neg (by omega)] at cs;rw [e];refine Zaa (tok:=0) Tryz.func169 rfl Tryz.ntmps169 Tryz.results169 Tryz.call169 (by rfl) (by simp) ?_;(focus (refine wkvd (w_2 hb hc) (w_3 (nCmp n m hn hm) cs (Zh8 t (m - n) ls)) w_t ?_;(repeat' first|exact w_t|apply w_l);all_goals intros));simp (disch:=omega) only [go_sem]
  ·have hc:0≤cmpN n m:=by unfold cmpN;rw [if_neg hlt];split<;>omega
   have e:zI s n+zI t m=zI s (n - m):=by rw [ht];cases s<;>simp [zI]<;>omega
   have ls:(toL (n - m)).length≤1000000000:=Nat.le_trans (Za9 (Nat.sub_le _ _)) (by omega);have cs:=nSub n m hn hm;rw [if_neg (by omega),if_neg (by omega)] at cs;rw [e];refine Zaa (tok:=0) Tryz.func169 rfl Tryz.ntmps169 Tryz.results169 Tryz.call169 (by rfl) (by simp) ?_;(focus (refine wkvd (w_1 hb) (w_3 (nCmp n m hn hm) cs (Zh8 s (n - m) ls)) w_t ?_;(repeat' first|exact w_t|apply w_l);all_goals intros));simp (disch:=omega) only [go_sem]
inductive Vk:AV→AV→Prop
 | refl (a:AV):Vk a a
 | nil (m:Nat):Vk (.v (.slice none 0 0)) (.sl m [])
 | agg (xs ys:List AV) (hl:xs.length=ys.length) (h:∀(j:Nat) (a b:AV),xs[j]?=some a→ys[j]?=some b→Vk a b):Vk (.agg xs) (.agg ys)
 | tup (xs ys:List AV) (hl:xs.length=ys.length) (h:∀(j:Nat) (a b:AV),xs[j]?=some a→ys[j]?=some b→Vk a b):Vk (.tup xs) (.tup ys)
 | sl (m:Nat) (es es':List AV) (hl:es.length=es'.length) (hm:∀e∈es',e.cells.length=m) (hok:∀e∈es',e.ok=true) (hf:(flat es).length=(flat es').length) (h:∀(j:Nat) (a b:AV),(flat es)[j]?=some a→(flat es')[j]?=some b→Vk a b):Vk (.sl m es) (.sl m es')
theorem Vk.rd {w:World} {imm:Imm} {a b:AV} (h:Vk a b):∀{x:Value},Rd w imm a x→Rd w imm b x:=by
 induction h with
 | refl a=>exact λh=>h
 | nil m =>
   intro x h;cases h;exact .sl m [] none 0 (λ_=>undef) (by simp) (by simp) (Nat.le_refl _) (by simp) (by simp) (by simp [flat])
 | agg xs ys hl _ ih =>
   intro x h
   cases h with
   | agg _ vs hl2 hr =>
     refine .agg ys vs (by omega) λj b x h1 h2=>?_;have hj:j < xs.length:=by rw [hl];exact(List.getElem?_eq_some_iff.1 h1).1
     exact ih j xs[j] b (List.getElem?_eq_getElem hj) h1 (hr j xs[j] x (List.getElem?_eq_getElem hj) h2)
 | tup xs ys hl _ ih =>
   intro x h
   cases h with
   | tup _ vs hl2 hr =>
     refine .tup ys vs (by omega) λj b x h1 h2=>?_;have hj:j < xs.length:=by rw [hl];exact(List.getElem?_eq_some_iff.1 h1).1
     exact ih j xs[j] b (List.getElem?_eq_getElem hj) h1 (hr j xs[j] x (List.getElem?_eq_getElem hj) h2)
 | sl m es es' hl hm hok hf _ ih =>
   intro x h;obtain⟨A,cap,f,rfl,hcap,_,_,hn,hA,hr⟩:=(Rs.pure h).sl_inv;rw [hl];refine .sl m es' A cap f hm hok (by omega) (λh=>hn (by omega)) (λj hj=>hA j (by rw [hl];exact hj)) λj b hb=>?_;have hj:j < (flat es).length:=by rw [hf];exact(List.getElem?_eq_some_iff.1 hb).1
   exact ih j _ b (List.getElem?_eq_getElem hj) hb (hr j _ (List.getElem?_eq_getElem hj))
def VkL (xs ys:List AV):Prop:=xs.length=ys.length∧∀(j:Nat) (a b:AV),xs[j]?=some a→ys[j]?=some b→Vk a b
theorem VkL.nil:VkL [] []:=⟨rfl,λj a b h=>by simp at h⟩
theorem VkL.cons {a b:AV} {xs ys:List AV} (h:Vk a b) (t:VkL xs ys):VkL (a :: xs) (b :: ys):=by
 refine⟨by simp [t.1],λj x y h1 h2=>?_⟩
 cases j with
 | zero=>simp at h1 h2;subst h1;subst h2;exact h
 | succ j=>exact t.2 j x y (by simpa using h1) (by simpa using h2)
theorem VkL.refl (xs:List AV):VkL xs xs:=⟨rfl,λj a b h1 h2=>by rw [h1] at h2;cases h2;exact .refl _⟩
theorem Vk.aggL {xs ys:List AV} (h:VkL xs ys):Vk (.agg xs) (.agg ys):=.agg xs ys h.1 h.2
theorem Vk.tupL {xs ys:List AV} (h:VkL xs ys):Vk (.tup xs) (.tup ys):=.tup xs ys h.1 h.2
theorem Zst {P:Program} {f:FuncId} {args args':List AV} {r r':AV} (h:Pure P f args' r) (ha:VkL args args') (hw:Vk r r'):Pure P f args r':=by
 refine⟨h.1,λw imm vs h1 h2 h3=>(h.2 w imm vs h1 (by rw [←ha.1];exact h2) λj b x e1 e2=>?_).mono λe w' he=>?_⟩
 ·have hj:j < args.length:=by rw [ha.1];exact(List.getElem?_eq_some_iff.1 e1).1
  exact(ha.2 j args[j] b (List.getElem?_eq_getElem hj) e1).rd (h3 j args[j] x (List.getElem?_eq_getElem hj) e2)
 ·obtain⟨x,imm',e1,e2,e3⟩:=he;exact⟨x,imm',e1,hw.rd e2,e3⟩
theorem Zfn {P:Program} {f:FuncId} {args args':List AV} {r:AV} (h:Pure P f args' r) (ha:VkL args args'):Pure P f args r:=Zst h ha (.refl _)
theorem Zho {P:Program} {f:FuncId} {args:List AV} {r r':AV} (h:Pure P f args r) (hw:Vk r r'):Pure P f args r':=Zst h (.refl _) hw
theorem Zfc (n m:Nat):(toL (n*m)).length≤(toL n).length+(toL m).length:=by
 rw [Zai,Nat.pow_add];exact Nat.mul_lt_mul'' (Zai.1 (Nat.le_refl _)) (Zai.1 (Nat.le_refl _))
theorem Znp (n m:Nat):(toL (n+m)).length≤max ((toL n).length) ((toL m).length)+1:=by
 rw [Zai,Nat.pow_succ];have h1:=Zai.1 (Nat.le_max_left ((toL n).length) ((toL m).length));have h2:=Zai.1 (Nat.le_max_right ((toL n).length) ((toL m).length));generalize 65536 ^ max ((toL n).length) ((toL m).length)=p at *;omega
theorem Zdl {n m:Nat} (h:n≤m):(toL n).length≤(toL m).length:=Za9 h
theorem Zfw:(toL 1).length=1:=by rw [Ze3 (by omega)];simp [Za3]
theorem toL_one:toL 1=[1]:=by rw [Ze3 (by omega)];simp [Za3]
abbrev ratQ (q:Rat):AV:=.agg [.v (.bool (decide (q.num < 0))),lim (toL q.num.natAbs),lim (toL q.den)]
abbrev ratA (s:Bool) (n d:Nat):AV:=.agg [.v (.bool s),lim (toL n),lim (toL d)]
def Sz (q:Rat) (k:Nat):Prop:=(toL q.num.natAbs).length≤k∧(toL q.den).length≤k
theorem Sz.mono {q:Rat} {k j:Nat} (h:Sz q k) (hk:k≤j):Sz q j:=⟨Nat.le_trans h.1 hk,Nat.le_trans h.2 hk⟩
theorem Zop (z:Int) (m:Nat) (hm:m≠0):ratQ (mkRat z m)=.agg [.v (.bool (decide (z < 0))),lim (toL (z.natAbs/Nat.gcd z.natAbs m)),lim (toL (m/Nat.gcd z.natAbs m))]:=by
 unfold ratQ;rw [Rat.num_mkRat,Rat.den_mkRat,if_neg hm,if_neg hm,Nat.gcd_comm m z.natAbs];have hg:0 < Nat.gcd z.natAbs m:=Nat.gcd_pos_of_pos_right _ (by omega);have hd:((Nat.gcd z.natAbs m:Nat):Int) ∣ z:=Int.ofNat_dvd_left.2 (Nat.gcd_dvd_left _ _);generalize Nat.gcd z.natAbs m=g at *;obtain⟨k,hk⟩:=hd;have hgz:(g:Int)≠0:=by omega
 have e1:z/(g:Int)=k:=by rw [hk,Int.mul_ediv_cancel_left _ hgz]
 have e2:z.natAbs/g=k.natAbs:=by rw [hk,Int.natAbs_mul,Int.natAbs_natCast,Nat.mul_div_cancel_left _ hg]
 have e3:(z < 0)↔(k < 0):=by
  rw [hk];constructor
  ·intro h;rcases (by omega:k < 0∨0≤k) with h1 | h1
   ·exact h1
   ·have:=Int.mul_nonneg (show(0:Int)≤g by omega) h1;omega
  ·intro h;exact Int.mul_neg_of_pos_of_neg (by omega) h
 rw [e1,e2];simp only [e3]
theorem Sz.mk {z:Int} {m k:Nat} (hz:(toL z.natAbs).length≤k) (hm:(toL m).length≤k) (hk:1≤k):Sz (mkRat z m) k:=by
 unfold Sz;rw [Rat.num_mkRat,Rat.den_mkRat];by_cases h:m=0
 ·rw [if_pos h,if_pos h];refine⟨?_,by rw [Zfw];exact hk⟩;show(toL 0).length≤k;rw [Za3];simp
 ·rw [if_neg h,if_neg h];refine⟨Nat.le_trans (Zdl ?_) hz,Nat.le_trans (Zdl (Nat.div_le_self _ _)) hm⟩;have hd:((Nat.gcd m z.natAbs:Nat):Int) ∣ z:=Int.ofNat_dvd_left.2 (Nat.gcd_dvd_right _ _);have hg:0 < Nat.gcd m z.natAbs:=Nat.gcd_pos_of_pos_left _ (by omega);generalize Nat.gcd m z.natAbs=g at *;obtain⟨c,hc⟩:=hd;rw [hc,Int.mul_ediv_cancel_left _ (by omega),Int.natAbs_mul,Int.natAbs_natCast];exact Nat.le_mul_of_pos_left _ hg
theorem Zd5 (a b:Int):(a+b).natAbs≤a.natAbs+b.natAbs:=by omega
theorem Sz.pos {q:Rat} {k:Nat} (h:Sz q k):1≤k:=by
 have h1:=Zbo.2 q.den_pos;have h2:=h.2;omega
theorem Zc3 (a b:Rat) {j k:Nat} (ha:Sz a j) (hb:Sz b k):(toL (a.num*b.den).natAbs).length≤j+k:=by
 rw [Int.natAbs_mul,Int.natAbs_natCast];exact Nat.le_trans (Zfc _ _) (Nat.add_le_add ha.1 hb.2)
theorem Sz.mul {a b:Rat} {j k:Nat} (ha:Sz a j) (hb:Sz b k):Sz (a*b) (j+k):=by
 rw [Rat.mul_def'];refine Sz.mk ?_ (Nat.le_trans (Zfc _ _) (Nat.add_le_add ha.2 hb.2)) (by have:=ha.pos;omega);rw [Int.natAbs_mul];exact Nat.le_trans (Zfc _ _) (Nat.add_le_add ha.1 hb.1)
theorem Sz.add {a b:Rat} {j k:Nat} (ha:Sz a j) (hb:Sz b k):Sz (a+b) (j+k+1):=by
 rw [Rat.add_def'];refine Sz.mk ?_ (Nat.le_trans (Zfc _ _) (by have:=ha.2;have:=hb.2;omega)) (by omega);have h1:=Zc3 a b ha hb;have h2:=Zc3 b a hb ha;have h3:=Zdl (Zd5 (a.num*b.den) (b.num*a.den));have h4:=Znp (a.num*b.den).natAbs (b.num*a.den).natAbs;omega
theorem Sz.neg {a:Rat} {j:Nat} (ha:Sz a j):Sz (-a) j:=by
 unfold Sz;rw [Rat.neg_num,Rat.neg_den,Int.natAbs_neg];exact ha
theorem Sz.sub {a b:Rat} {j k:Nat} (ha:Sz a j) (hb:Sz b k):Sz (a - b) (j+k+1):=by
 rw [Rat.sub_eq_add_neg];exact ha.add hb.neg
theorem Sz.inv {a:Rat} {j:Nat} (ha:Sz a j):Sz (a⁻¹) j:=by
 unfold Sz;rw [Rat.num_inv,Rat.den_inv];by_cases h:a.num=0
 ·rw [if_pos h,h];refine⟨?_,by rw [Zfw];exact ha.pos⟩;have:(Int.sign 0*(a.den:Int)).natAbs=0:=by simp
  rw [this];show(toL 0).length≤j;rw [Za3];simp
 ·rw [if_neg h];refine⟨?_,ha.1⟩;rw [Int.natAbs_mul,Int.natAbs_natCast,Int.natAbs_sign_of_ne_zero h,Nat.one_mul];exact ha.2
theorem Sz.div {a b:Rat} {j k:Nat} (ha:Sz a j) (hb:Sz b k):Sz (a/b) (j+k):=ha.mul hb.inv
theorem Sz.int {z:Int} {k:Nat} (h:(toL z.natAbs).length≤k) (hk:1≤k):Sz (z:Rat) k:=⟨h,by show(toL 1).length≤k;rw [Zfw];exact hk⟩
def cmpQ (a b:Rat):Int:=if a < b then -1 else if b < a then 1 else 0
theorem cmpQ_z (a b:Rat):cmpQ a b=cmpZ (a.num*b.den) (b.num*a.den):=by
 unfold cmpQ cmpZ;simp only [Rat.lt_iff]
theorem iMul (z w:Int) (hz:(toL z.natAbs).length≤100000000) (hw:(toL w.natAbs).length≤100000000):Pure Tryz.prog 123 [intZ z,intZ w] (intZ (z*w)):=by
 have:=Zqo (decide (z < 0)) (decide (w < 0)) z.natAbs w.natAbs hz hw
 rwa [Zch,Zch] at this
theorem iMulN (z:Int) (d:Nat) (hz:(toL z.natAbs).length≤100000000) (hw:(toL d).length≤100000000):Pure Tryz.prog 123 [intZ z,intA false d] (intZ (z*d)):=by
 have:=Zqo (decide (z < 0)) false z.natAbs d hz hw;rw [Zch] at this;exact this
theorem iAddA (z:Int) (t:Bool) (m:Nat) (hz:(toL z.natAbs).length≤100000000) (hm:(toL m).length≤100000000):Pure Tryz.prog 169 [intZ z,intA t m] (intZ (z+zI t m)):=by
 have:=intAdd (decide (z < 0)) t z.natAbs m hz hm
 rwa [Zch] at this
theorem iAdd0 (t:Bool) (m:Nat) (hm:(toL m).length≤100000000):Pure Tryz.prog 169 [.agg [.v (.bool false),.v (.slice none 0 0)],intA t m] (intZ (zI t m)):=by
 have h:=iAddA 0 t m (by show(toL 0).length≤_;rw [Za3];simp) hm;rw [Int.zero_add] at h;refine Zfn h (.cons (.aggL (.cons (.refl _) (.cons ?_ .nil))) (.cons (.refl _) .nil));show Vk _ (.sl 1 (u16s (toL 0)));rw [Za3];exact .nil 1
theorem iCmp (z w:Int) (hz:(toL z.natAbs).length≤100000000) (hw:(toL w.natAbs).length≤100000000):Pure Tryz.prog 147 [intZ z,intZ w] (.v (.int .i64 (cmpZ z w))):=by
 have:=intCmp (decide (z < 0)) (decide (w < 0)) z.natAbs w.natAbs hz hw
 rwa [Zch,Zch] at this
theorem iSign (z:Int) (hz:(toL z.natAbs).length≤100000000):Pure Tryz.prog 89 [intZ z] (.v (.int .i64 z.sign)):=by
 have:=Zpi (decide (z < 0)) z.natAbs hz
 rwa [Zch] at this
def sumC (z w:Int):Nat→List AV
 | 0=>[.v (.bool false),.v (.slice none 0 0)]
 | 1=>[.v (.bool (decide (z < 0))),lim (toL z.natAbs)]
 | _=>[.v (.bool (decide (z+w < 0))),lim (toL (z+w).natAbs)]
theorem u16s_c (x:Nat) (l:List Nat):u16s (x :: l)=AV.v (.int .u16 (x:Int)) :: u16s l:=rfl
theorem szShape:szOf Tryz.prog 141=some 2:=by kernel_rfl
theorem zShape:Zb4 Tryz.prog 141=some (.agg #[.int .i64 0,.int .u16 0]):=by kernel_rfl
theorem eqShape:eqTy Tryz.prog 141=true:=by kernel_rfl
theorem Zo3 (n:Nat) (h:n < 65536):Sz (n:Rat) 1:=⟨Zai.2 (by show((n:Int)).natAbs < _;simpa using h),Zai.2 (by show 1 < 65536 ^ 1;decide)⟩
end Go.Proofs.YtimmnimikmnljaaGreat
namespace Go.Proofs.YtimmnimikmnljaaGreat
open Go Go.RowKit Go.Pg
section
variable {P:Program} {n:Nat} {Q:AE→St→Prop}
theorem r_label {l:Nat} {e:Nat→AV} {m:Mem} (h:Q .normal ⟨e,m⟩):Za8 P 0 n (.label l) Q ⟨e,m⟩:=λc a w imm hr=>wp_label ⟨.normal,⟨e,m⟩,imm,rfl,h,hr⟩
instance {l:Nat} {e:Nat→AV} {m:Mem}:Stp (Za8 P 0 n (.label l) Q ⟨e,m⟩) (Q .normal ⟨e,m⟩):=⟨r_label⟩
theorem Zoq {x:Code} {st:St} (hf:Zbx n x=true) (h:Za8 P 0 n x Q st):Za8 P 0 n (.scope x) Q st:=λc a w imm hr =>
 wp_scope_straight (Code.wp_mono (λe a' w' hp=>by
  obtain⟨ae,st',imm',rfl,h2,h3⟩:=hp
  cases ae with
  | normal=>exact⟨.normal,st',imm',rfl,h2,h3⟩
  | exit i=>exact⟨.exit i,st',imm',rfl,h2,h3⟩
  | ret=>exact⟨.ret,st',imm',rfl,h2,h3⟩) (Zb6 x Q st hf h c a w imm hr))
theorem row_mx {c:Cx} {w:World} {imm:Imm} {K pub mm:Nat} {sv:Value} {ty:TypeId} {m:Mem} {es es':List AV} (h0:Mx c m w imm) (hK:m K=some (.row sv ty mm es pub)) (hl:es.length=es'.length) (hm:∀x∈es',x.cells.length=mm) (hok:∀x∈es',x.ok=true) (h:VkL (flat es) (flat es')) :
 Mx c (upd m K (some (.row sv ty mm es' pub))) w imm:=by
 have hb:∀k e',upd m K (some (.row sv ty mm es' pub)) k=some e'→∃e0,m k=some e0∧e'.blk=e0.blk:=λk e' hk=>by
  rw [Zaz] at hk;split at hk
  ·subst_vars;cases hk;exact⟨_,hK,rfl⟩
  ·exact⟨e',hk,rfl⟩
 refine⟨⟨λk e' hk=>?_,λk k' e1 e2 b hk hk' h1 h2=>?_,h0.ok.lt,h0.ok.spot⟩,h0.below,h0.lt,h0.old,h0.new,h0.cells⟩
 ·rw [Zaz] at hk;split at hk
  ·subst_vars;cases hk
   obtain⟨xs,g1,g2,g3,g4,g5,g6,g7⟩:=h0.ok.ent _ _ hK;refine⟨xs,by rw [←hl];exact g1,hm,hok,λj a x ha hx=>?_,by rw [←hl];exact g5,g6,g7⟩;have hj:j < (flat es).length:=by rw [h.1];exact(List.getElem?_eq_some_iff.1 ha).1
   exact(h.2 j (flat es)[j] a (List.getElem?_eq_getElem hj) ha).rd (g4 j _ x (List.getElem?_eq_getElem hj) hx)
  ·exact h0.ok.ent _ _ hk
 ·obtain⟨e3,h3,h4⟩:=hb k e1 hk;obtain⟨e5,h5,h6⟩:=hb k' e2 hk';exact h0.ok.apart k k' e3 e5 b h3 h5 (by rw [←h4];exact h1) (by rw [←h6];exact h2)
theorem Frz.rowVk {K pub mm:Nat} {sv:Value} {ty:TypeId} {e:Nat→AV} {m:Mem} {es es':List AV} (hK:m K=some (.row sv ty mm es pub)) (hl:es.length=es'.length) (hm:∀x∈es',x.cells.length=mm) (hok:∀x∈es',x.ok=true) (h:VkL (flat es) (flat es')) :
 Frz n ⟨e,m⟩ ⟨e,upd m K (some (.row sv ty mm es' pub))⟩:=λc a w imm hr=>⟨imm,hr.env,hr.size,hr.defers,row_mx hr.mem hK hl hm hok h⟩
theorem Zp9 {id:Nat} {ops:Array Oper} {st st':St} (h:Frz n st st') (k:Za8 P 0 n (.region id ops true) Q st'):Za8 P 0 n (.region id ops true) Q st:=λc a w imm hr=>by
 obtain⟨i,h1⟩:=h c a w imm hr;exact k c a w i h1
theorem Frz.mark {K:Nat} {e:Nat→AV} {m:Mem}:Frz n ⟨e,m⟩ ⟨e,Go.Pg.mark m K⟩:=λc a w imm hr=>by
 obtain⟨i,h1,h2⟩:=Zl0 hr.mem K;exact⟨i,λt=>h2.rs (hr.env t),hr.size,hr.defers,h1⟩
theorem box_mx {c:Cx} {w:World} {imm:Imm} {k g j:Nat} {bt:TypeId} {m:Mem} {cs:List AV} {x y:AV} (h:Mx c m w imm) (hK:m k=some (.box g bt cs false)) (hj:cs[j]?=some x) (hy:y.one=true) (hr:∀v,Rs w imm x v→Rs w imm y v):Mx c (upd m k (some (.box g bt (cs.set j y) false))) w imm:=by
 have hb:∀k' e',upd m k (some (.box g bt (cs.set j y) false)) k'=some e'→∃e0,m k'=some e0∧e'.blk=e0.blk:=λk' e' hk=>by
  rw [Zaz] at hk;split at hk
  ·subst_vars;cases hk;exact⟨_,hK,rfl⟩
  ·exact⟨e',hk,rfl⟩
 refine⟨⟨λk' e' hk=>?_,λk1 k' e1 e2 b hk hk' h1 h2=>?_,h.ok.lt,h.ok.spot⟩,h.below,h.lt,h.old,h.new,h.cells⟩
 ·rw [Zaz] at hk;split at hk
  ·subst_vars;cases hk
   obtain⟨cur,k1,k2,k3,k4,k5,k6,k7⟩:=h.ok.ent _ _ hK;have hjl:j < cs.length:=(List.getElem?_eq_some_iff.1 hj).1;refine⟨cur,k1,k2,by rw [List.length_set];exact k3,λz hz=>?_,λi a v ha hv=>?_,k6,λhp=>by cases hp⟩
   ·rcases List.mem_or_eq_of_mem_set hz with hz | rfl
    ·exact k4 z hz
    ·exact hy
   ·rw [List.getElem?_set] at ha;split at ha
    ·rename_i hij;subst hij;cases ha;exact hr v (k5 j x v hj hv)
    ·exact k5 i a v ha hv
  ·exact h.ok.ent _ _ hk
 ·obtain⟨e3,h3,h4⟩:=hb k1 e1 hk;obtain⟨e5,h5,h6⟩:=hb k' e2 hk';exact h.ok.apart k1 k' e3 e5 b h3 h5 (by rw [←h4];exact h1) (by rw [←h6];exact h2)
theorem Frz.boxPub {k g j K mm pub:Nat} {bt ty:TypeId} {e:Nat→AV} {m:Mem} {cs el:List AV} {sv:Value} (hm:m k=some (.box g bt cs false)) (hj:cs[j]?=some (.own K sv)) (hK:m K=some (.row sv ty mm el pub)) (hne:K≠k) :
 Frz n ⟨e,m⟩ ⟨e,upd (upd m K (some (.row sv ty mm el el.length))) k (some (.box g bt (cs.set j (.sl mm el)) false))⟩:=by
 intro c a w imm h;obtain⟨i,h1,h2⟩:=Zl0 h.mem K;have em:Go.Pg.mark m K=upd m K (some (.row sv ty mm el el.length)):=by unfold Go.Pg.mark;rw [hK];rfl
 have h1:Mx c (Go.Pg.mark m K) w i:=h1;rw [em] at h1;refine⟨i,λt=>h2.rs (h.env t),h.size,h.defers,box_mx h1 (by rw [Zaz,if_neg (Ne.symm hne)];exact hm) hj rfl λv hv=>?_⟩;rw [hv.own_inv];exact .pure (Zp1 (k:=K) (e:=ty) (pub:=el.length) h1 (by rw [Zaz,if_pos rfl]) rfl)
theorem rdc_pub {f:FuncId} {K mm:Nat} {sv:Value} {ty:TypeId} {es:List AV} {a b r:AV} (h:Pure P f [a,.sl mm es,b] r) (ha:a.toks=[]) (hb:b.toks=[]) (ha2:∀σ,Zer σ a∧pubV σ a=a) (hb2:∀σ,Zer σ b∧pubV σ b=b):RdC P [(K,.row sv ty mm es es.length)] f [a,.own K sv,b] r:=λσ hσ=>by
 have hK:σ K=some (.row sv ty mm es es.length):=hσ.1;have ht:AV.toksL [a,.own K sv,b]=[K]:=by simp only [AV.toksL,ha,hb,AV.toks,List.nil_append,List.append_nil]
 have hm:marks σ [K]=σ:=by
  show Go.Pg.mark σ K=σ;unfold Go.Pg.mark;rw [hK]
  funext j
  rw [Zaz];split
  ·subst_vars;rw [hK];rfl
  ·rfl
 refine Zbe h ?_ ?_ ?_
 ·rw [ht,hm];simp only [Zdv,ha2,hb2,Zer,Zfe,hK,and_self]
 ·rw [ht,hm];simp only [Zdt,ha2,hb2,pubV,Zjt,hK]
 ·rw [ht,hm];exact⟨rfl,rfl⟩
end
section
variable {P:Program} {f:FuncId} {args:List AV} {all:List Oper} {rs:Nat→AV} {bar:List Nat} {σs:Mem} {fu k d:Nat} {K:St→Prop} {e:Nat→AV} {m:Mem} {ty:TypeId} {pos:String} {af:Array Edge}
theorem gyrG {x:AV} {L:List (Nat × Ent)} {g:Operand} {aS:Array Operand} {ts:Array TypeId} {j:Nat} {want:Bool} {v:Value} (c:RdC P L f args x) (hb:bar.contains k=false) (ho:all[k]?=some ⟨some d,.call ⟨.value g,aS,ts⟩,ty,pos,af,some (j,want)⟩) (hg:Ev (Zbj all ⟨e,Zan⟩ j=.v v)) (hs:says (.v v) want=true)
 (h:Ev (Zal P ⟨e,Zan⟩ (.call ⟨.value g,aS,ts⟩)=.call f args)) (hL:Ev (hasAll σs L)) (hx:Ev (rs k=x)) (hk:Zb0 P 0 all rs bar σs fu (k+1) K ⟨upd e d x,m⟩):Zb0 P 0 all rs bar σs (fu+1) k K ⟨e,m⟩:=by
 rw [Zcn];unfold Zdr;rw [ho];simp only [Zb7,hb,Bool.false_eq_true,if_false];unfold Zcm;have hg:Zbj all ⟨e,Zan⟩ j=.v v:=hg;have hx:rs k=x:=hx;have hL:hasAll σs L:=hL;have hs2:opS P 0 σs ⟨e,m⟩ (.call ⟨.value g,aS,ts⟩)=.call f args:=h;simp only [hg];refine⟨trivial,?_⟩;rw [if_pos hs];simp only [Zc8,Zdg,Zaw,isVC,Bool.false_eq_true,if_false,hs2,Option.getD_some,Nat.zero_add,hx];exact⟨.inr ⟨trivial,λσ hp=>c σ (hL.part hp)⟩,trivial,hk⟩
end
end Go.Proofs.YtimmnimikmnljaaGreat
namespace Go.Pol
structure KO {α:Type} (D:α→Prop) (lt:α→α→Prop):Prop where
 irr:∀x,¬lt x x
 tr:∀x y z,lt x y→lt y z→lt x z
 tri:∀x y,D x→D y→lt x y∨x=y∨lt y x
section
variable {α:Type} {D:α→Prop} {lt:α→α→Prop} [DecidableEq α]
def cof:List (Rat × α)→α→Rat
 | [],_=>0
 | t :: p,x=>(if t.2=x then t.1 else 0)+cof p x
end
section
variable {α:Type} {D:α→Prop} {lt:α→α→Prop}
def addP (lt:α→α→Prop) [DecidableRel lt]:List (Rat × α)→List (Rat × α)→List (Rat × α)
 | [],q=>q
 | s :: p,[]=>s :: p
 | s :: p,t :: q =>
   if lt t.2 s.2 then s :: addP lt p (t :: q)
   else if lt s.2 t.2 then t :: addP lt (s :: p) q
   else if s.1+t.1=0 then addP lt p q
   else (s.1+t.1,s.2) :: addP lt p q
termination_by p q=>p.length+q.length
def Srt (D:α→Prop) (lt:α→α→Prop) (p:List (Rat × α)):Prop:=(∀t∈p,t.1≠0∧D t.2)∧p.Pairwise (λs t=>lt t.2 s.2)
end
section
variable {α:Type} {D:α→Prop} {lt:α→α→Prop} [DecidableEq α]
end
section
variable {α:Type} {D:α→Prop} {lt:α→α→Prop} [DecidableRel lt]
theorem addP_nil (p:List (Rat × α)):addP lt p []=p:=by cases p<;>simp [addP]
theorem Ziu {p q:List (Rat × α)} {t:Rat × α} (h:t∈addP lt p q):∃s∈p++q,t.2=s.2:=by
 fun_induction addP lt p q with
 | case1 q=>exact⟨t,by simpa using h,rfl⟩
 | case2 s p=>exact⟨t,by simpa using h,rfl⟩
 | case3 s p u q h1 ih =>
   rcases List.mem_cons.1 h with rfl | h
   ·exact⟨t,by simp,rfl⟩
   ·obtain⟨v,hv,e⟩:=ih h;exact⟨v,by simp only [List.cons_append,List.mem_cons,List.mem_append] at hv ⊢;rcases hv with hv | hv | hv<;>simp [hv],e⟩
 | case4 s p u q h1 h2 ih =>
   rcases List.mem_cons.1 h with rfl | h
   ·exact⟨t,by simp,rfl⟩
   ·obtain⟨v,hv,e⟩:=ih h;exact⟨v,by simp only [List.cons_append,List.mem_cons,List.mem_append] at hv ⊢;rcases hv with hv | hv | hv<;>simp [hv],e⟩
 | case5 s p u q h1 h2 h3 ih =>
   obtain⟨v,hv,e⟩:=ih h;exact⟨v,by simp only [List.cons_append,List.mem_cons,List.mem_append] at hv ⊢;rcases hv with hv | hv<;>simp [hv],e⟩
 | case6 s p u q h1 h2 h3 ih =>
   rcases List.mem_cons.1 h with rfl | h
   ·exact⟨s,by simp,rfl⟩
   ·obtain⟨v,hv,e⟩:=ih h;exact⟨v,by simp only [List.cons_append,List.mem_cons,List.mem_append] at hv ⊢;rcases hv with hv | hv<;>simp [hv],e⟩
end
section
variable {α:Type} {D:α→Prop} {lt:α→α→Prop} [DecidableEq α] [DecidableRel lt]
theorem Zgu (o:KO D lt) {p q:List (Rat × α)} (x:α) (hp:∀t∈p,D t.2) (hq:∀t∈q,D t.2):cof (addP lt p q) x=cof p x+cof q x:=by
 fun_induction addP lt p q with
 | case1 q=>show cof q x=0+cof q x;rw [Rat.zero_add]
 | case2 s p=>show cof (s :: p) x=cof (s :: p) x+0;rw [Rat.add_zero]
 | case3 s p u q h1 ih =>
   have:=ih (λt h=>hp t (.tail _ h)) hq;simp only [cof] at this ⊢;rw [this];grind
 | case4 s p u q h1 h2 ih =>
   have:=ih hp (λt h=>hq t (.tail _ h));simp only [cof] at this ⊢;rw [this];grind
 | case5 s p u q h1 h2 h3 ih =>
   have e:s.2=u.2:=by rcases o.tri s.2 u.2 (hp s (.head _)) (hq u (.head _)) with h | h | h;exact absurd h h2;exact h;exact absurd h h1
   have:=ih (λt h=>hp t (.tail _ h)) (λt h=>hq t (.tail _ h));simp only [cof] at this ⊢;rw [this,e];split<;>grind
 | case6 s p u q h1 h2 h3 ih =>
   have e:s.2=u.2:=by rcases o.tri s.2 u.2 (hp s (.head _)) (hq u (.head _)) with h | h | h;exact absurd h h2;exact h;exact absurd h h1
   have:=ih (λt h=>hp t (.tail _ h)) (λt h=>hq t (.tail _ h));simp only [cof] at this ⊢;rw [this,e];split<;>grind
end
section
variable {α:Type} {D:α→Prop} {lt:α→α→Prop}
theorem Srt.nil:Srt D lt ([]:List (Rat × α)):=⟨by simp,.nil⟩
theorem Srt.tail {t:Rat × α} {p:List (Rat × α)} (h:Srt D lt (t :: p)):Srt D lt p:=⟨λu hu=>h.1 u (.tail _ hu),(List.pairwise_cons.1 h.2).2⟩
theorem Srt.cons {t:Rat × α} {p:List (Rat × α)} (h:Srt D lt p) (h1:t.1≠0) (h2:D t.2) (h3:∀u∈p,lt u.2 t.2):Srt D lt (t :: p) :=
 ⟨λu hu=>by rcases List.mem_cons.1 hu with rfl | hu;exact⟨h1,h2⟩;exact h.1 u hu,List.pairwise_cons.2 ⟨h3,h.2⟩⟩
theorem Srt.dom {p:List (Rat × α)} (h:Srt D lt p):∀t∈p,D t.2:=λt ht=>(h.1 t ht).2
theorem Srt.head_lt {t:Rat × α} {p:List (Rat × α)} (h:Srt D lt (t :: p)):∀u∈p,lt u.2 t.2:=(List.pairwise_cons.1 h.2).1
end
section
variable {α:Type} {D:α→Prop} {lt:α→α→Prop} [DecidableRel lt]
theorem Zd8 (o:KO D lt) {p q:List (Rat × α)} (hp:Srt D lt p) (hq:Srt D lt q):Srt D lt (addP lt p q):=by
 fun_induction addP lt p q with
 | case1 q=>exact hq
 | case2 s p=>exact hp
 | case3 s p u q h1 ih =>
   refine(ih hp.tail hq).cons (hp.1 s (.head _)).1 (hp.1 s (.head _)).2 λv hv=>?_;obtain⟨w,hw,e⟩:=Ziu hv;rw [e];rcases List.mem_append.1 hw with hw | hw
   ·exact hp.head_lt w hw
   ·rcases List.mem_cons.1 hw with rfl | hw
    ·exact h1
    ·exact o.tr _ _ _ (hq.head_lt w hw) h1
 | case4 s p u q h1 h2 ih =>
   refine(ih hp hq.tail).cons (hq.1 u (.head _)).1 (hq.1 u (.head _)).2 λv hv=>?_;obtain⟨w,hw,e⟩:=Ziu hv;rw [e];rcases List.mem_append.1 hw with hw | hw
   ·rcases List.mem_cons.1 hw with rfl | hw
    ·exact h2
    ·exact o.tr _ _ _ (hp.head_lt w hw) h2
   ·exact hq.head_lt w hw
 | case5 s p u q h1 h2 h3 ih=>exact ih hp.tail hq.tail
 | case6 s p u q h1 h2 h3 ih =>
   have es:s.2=u.2:=by rcases o.tri s.2 u.2 (hp.dom s (.head _)) (hq.dom u (.head _)) with h | h | h;exact absurd h h2;exact h;exact absurd h h1
   refine(ih hp.tail hq.tail).cons h3 (hp.1 s (.head _)).2 λv hv=>?_;obtain⟨w,hw,e⟩:=Ziu hv;rw [e];rcases List.mem_append.1 hw with hw | hw
   ·exact hp.head_lt w hw
   ·show lt w.2 s.2;rw [es];exact hq.head_lt w hw
end
section
variable {α:Type} {D:α→Prop} {lt:α→α→Prop} [DecidableEq α]
theorem Zj7 (o:KO D lt) {p:List (Rat × α)} {x:α} (h:∀t∈p,lt t.2 x):cof p x=0:=by
 induction p with
 | nil=>rfl
 | cons t p ih =>
   show(if t.2=x then t.1 else 0)+cof p x=0;rw [if_neg (by rintro rfl;exact o.irr _ (h t (.head _))),ih λu hu=>h u (.tail _ hu),Rat.add_zero]
theorem Zft (o:KO D lt) {t:Rat × α} {p:List (Rat × α)} (h:Srt D lt (t :: p)):cof (t :: p) t.2=t.1:=by
 show(if t.2=t.2 then t.1 else 0)+cof p t.2=t.1;rw [if_pos rfl,Zj7 o h.head_lt,Rat.add_zero]
theorem Zle (o:KO D lt):∀{p q:List (Rat × α)},Srt D lt p→Srt D lt q→(∀x,cof p x=cof q x)→p=q
 | [],[],_,_,_=>rfl
 | [],t :: q,_,hq,h=>absurd ((Zft o hq).symm.trans (h t.2).symm) (hq.1 t (.head _)).1
 | s :: p,[],hp,_,h=>absurd ((Zft o hp).symm.trans (h s.2)) (hp.1 s (.head _)).1
 | s :: p,t :: q,hp,hq,h=>by
   have ks:s.2=t.2:=by
    rcases o.tri s.2 t.2 (hp.dom s (.head _)) (hq.dom t (.head _)) with hl | hl | hl
    ·have h1:cof (s :: p) t.2=0:=Zj7 o λu hu=>by
      rcases List.mem_cons.1 hu with rfl | hu
      ·exact hl
      ·exact o.tr _ _ _ (hp.head_lt u hu) hl
     exact absurd (((h t.2).symm.trans h1).symm.trans (Zft o hq)).symm (hq.1 t (.head _)).1
    ·exact hl
    ·have h1:cof (t :: q) s.2=0:=Zj7 o λu hu=>by
      rcases List.mem_cons.1 hu with rfl | hu
      ·exact hl
      ·exact o.tr _ _ _ (hq.head_lt u hu) hl
     exact absurd (((h s.2).trans h1).symm.trans (Zft o hp)).symm (hp.1 s (.head _)).1
   have kc:s.1=t.1:=by
    have h1:=h s.2;rw [Zft o hp,ks,Zft o hq] at h1;exact h1
   have e:s=t:=Prod.ext kc ks;subst e;congr 1;refine Zle o hp.tail hq.tail λx=>?_;have h1:=h x;simp only [cof] at h1
   grind
end
section
variable {α:Type} {D:α→Prop} {lt:α→α→Prop}
def Zao (m:α→α→α) (p:List (Rat × α)) (t:Rat × α):List (Rat × α):=p.map λs=>(s.1*t.1,m s.2 t.2)
structure KM (D:α→Prop) (lt:α→α→Prop) (m:α→α→α):Prop where
 comm:∀x y,m x y=m y x
 dom:∀x y,D x→D y→D (m x y)
 mono:∀x y z,D x→D y→D z→lt x y→lt (m x z) (m y z)
theorem Zds {m:α→α→α} (k:KM D lt m) {p:List (Rat × α)} {t:Rat × α} (hp:Srt D lt p) (h1:t.1≠0) (h2:D t.2):Srt D lt (Zao m p t):=by
 refine⟨λu hu=>?_,?_⟩
 ·obtain⟨s,hs,rfl⟩:=List.mem_map.1 hu;have:=hp.1 s hs;exact⟨by show s.1*t.1≠0;intro h0;rcases Rat.mul_eq_zero.1 h0 with h | h;exact this.1 h;exact h1 h,k.dom _ _ this.2 h2⟩
 ·refine List.pairwise_map.2 (hp.2.imp_of_mem λ{a b} ha hb hl=>k.mono _ _ _ (hp.dom b hb) (hp.dom a ha) h2 hl)
end
section
variable {α:Type} {D:α→Prop} {lt:α→α→Prop} [DecidableEq α]
def cofM (m:α→α→α) (p:List (Rat × α)):List (Rat × α)→α→Rat
 | [],_=>0
 | t :: q,x=>cof (Zao m p t) x+cofM m p q x
theorem cofM_nil {m:α→α→α} (q:List (Rat × α)) (x:α):cofM m [] q x=0:=by
 induction q with
 | nil=>rfl
 | cons t q ih=>show 0+cofM m [] q x=0;rw [ih,Rat.add_zero]
theorem Zt3 {m:α→α→α} (hm:∀x y,m x y=m y x) (s:Rat × α) (p q:List (Rat × α)) (x:α):cofM m (s :: p) q x=cof (Zao m q s) x+cofM m p q x:=by
 induction q with
 | nil=>show(0:Rat)=0+0;rw [Rat.add_zero]
 | cons t q ih =>
   show cof (Zao m (s :: p) t) x+cofM m (s :: p) q x=cof (Zao m (t :: q) s) x+(cof (Zao m p t) x+cofM m p q x);rw [ih];show((if m s.2 t.2=x then s.1*t.1 else 0)+cof (Zao m p t) x)+_=((if m t.2 s.2=x then t.1*s.1 else 0)+cof (Zao m q s) x)+_;rw [hm t.2 s.2,Rat.mul_comm t.1 s.1]
   grind
theorem Zn4 {m:α→α→α} (hm:∀x y,m x y=m y x) (p q:List (Rat × α)) (x:α):cofM m p q x=cofM m q p x:=by
 induction p with
 | nil=>exact cofM_nil q x
 | cons s p ih=>rw [Zt3 hm,ih];rfl
end
section
variable {α:Type} {D:α→Prop} {lt:α→α→Prop}
def mulR (lt:α→α→Prop) [DecidableRel lt] (m:α→α→α) (p q:List (Rat × α)):List (Rat × α):=q.foldl (λout t=>addP lt out (Zao m p t)) []
end
section
variable {α:Type} {D:α→Prop} {lt:α→α→Prop} [DecidableRel lt]
theorem Znw (o:KO D lt) {m:α→α→α} (k:KM D lt m) {p:List (Rat × α)} (hp:Srt D lt p):∀(q out:List (Rat × α)),Srt D lt q→Srt D lt out→Srt D lt (q.foldl (λout t=>addP lt out (Zao m p t)) out)
 | [],_,_,ho=>ho
 | t :: q,_,hq,ho=>Znw o k hp q _ hq.tail (Zd8 o ho (Zds k hp (hq.1 t (.head _)).1 (hq.1 t (.head _)).2))
end
section
variable {α:Type} {D:α→Prop} {lt:α→α→Prop} [DecidableEq α] [DecidableRel lt]
theorem Znx (o:KO D lt) {m:α→α→α} (k:KM D lt m) {p:List (Rat × α)} (hp:Srt D lt p) (x:α):∀(q out:List (Rat × α)),Srt D lt q→Srt D lt out→cof (q.foldl (λout t=>addP lt out (Zao m p t)) out) x=cof out x+cofM m p q x
 | [],out,_,_=>by show cof out x=cof out x+0;rw [Rat.add_zero]
 | t :: q,out,hq,ho=>by
   have ht:=Zds k hp (hq.1 t (.head _)).1 (hq.1 t (.head _)).2;show cof (q.foldl _ (addP lt out (Zao m p t))) x=cof out x+(cof (Zao m p t) x+cofM m p q x);rw [Znx o k hp x q _ hq.tail (Zd8 o ho ht),Zgu o x ho.dom ht.dom,Rat.add_assoc]
end
section
variable {α:Type} {D:α→Prop} {lt:α→α→Prop} [DecidableRel lt]
theorem Zgp (o:KO D lt) {m:α→α→α} (k:KM D lt m) {p q:List (Rat × α)} (hp:Srt D lt p) (hq:Srt D lt q):Srt D lt (mulR lt m p q):=Znw o k hp q [] hq .nil
end
section
variable {α:Type} {D:α→Prop} {lt:α→α→Prop} [DecidableEq α] [DecidableRel lt]
theorem Zit (o:KO D lt) {m:α→α→α} (k:KM D lt m) {p q:List (Rat × α)} (hp:Srt D lt p) (hq:Srt D lt q) (x:α):cof (mulR lt m p q) x=cofM m p q x:=by
 unfold mulR;rw [Znx o k hp x q [] hq .nil];show 0+_=_;rw [Rat.zero_add]
end
section
variable {α:Type} {D:α→Prop} {lt:α→α→Prop}
def sumH (lt:α→α→Prop) [DecidableRel lt]:List (List (Rat × α))→List (Rat × α)
 | []=>[]
 | [p]=>p
 | p :: q :: l=>addP lt (sumH lt ((p :: q :: l).take ((p :: q :: l).length/2))) (sumH lt ((p :: q :: l).drop ((p :: q :: l).length/2)))
termination_by l=>l.length
decreasing_by all_goals (simp only [List.length_take,List.length_drop,List.length_cons];omega)
end
section
variable {α:Type} {D:α→Prop} {lt:α→α→Prop} [DecidableEq α]
def cofL:List (List (Rat × α))→α→Rat
 | [],_=>0
 | p :: l,x=>cof p x+cofL l x
theorem cofL_app (l k:List (List (Rat × α))) (x:α):cofL (l++k) x=cofL l x+cofL k x:=by
 induction l with
 | nil=>show cofL k x=0+cofL k x;rw [Rat.zero_add]
 | cons p l ih=>show _+cofL (l++k) x=(_+cofL l x)+cofL k x;rw [ih,Rat.add_assoc]
end
section
variable {α:Type} {D:α→Prop} {lt:α→α→Prop} [DecidableRel lt]
theorem Zhj (o:KO D lt) (l:List (List (Rat × α))) (h:∀p∈l,Srt D lt p):Srt D lt (sumH lt l):=by
 fun_induction sumH lt l with
 | case1=>exact .nil
 | case2 p=>exact h p (.head _)
 | case3 p q l ih1 ih2=>exact Zd8 o (ih1 λu hu=>h u (List.mem_of_mem_take hu)) (ih2 λu hu=>h u (List.mem_of_mem_drop hu))
end
section
variable {α:Type} {D:α→Prop} {lt:α→α→Prop} [DecidableEq α] [DecidableRel lt]
theorem sumH_cof (o:KO D lt) (x:α) (l:List (List (Rat × α))) (h:∀p∈l,Srt D lt p):cof (sumH lt l) x=cofL l x:=by
 fun_induction sumH lt l with
 | case1=>rfl
 | case2 p=>show cof p x=cof p x+0;rw [Rat.add_zero]
 | case3 p q l ih1 ih2 =>
   have h1:∀u∈(p :: q :: l).take ((p :: q :: l).length/2),Srt D lt u:=λu hu=>h u (List.mem_of_mem_take hu);have h2:∀u∈(p :: q :: l).drop ((p :: q :: l).length/2),Srt D lt u:=λu hu=>h u (List.mem_of_mem_drop hu);rw [Zgu o x (Zhj o _ h1).dom (Zhj o _ h2).dom,ih1 h1,ih2 h2,←cofL_app,List.take_append_drop]
end
section
variable {α:Type} {D:α→Prop} {lt:α→α→Prop}
def mulH (lt:α→α→Prop) [DecidableRel lt] (m:α→α→α) (p q:List (Rat × α)):List (Rat × α):=sumH lt (p.map λt=>Zao m q t)
end
section
variable {α:Type} {D:α→Prop} {lt:α→α→Prop} [DecidableEq α] [DecidableRel lt]
theorem mulH_eq (o:KO D lt) {m:α→α→α} (k:KM D lt m) {p q:List (Rat × α)} (hp:Srt D lt p) (hq:Srt D lt q):mulH lt m p q=mulR lt m q p:=by
 have hs:∀u∈p.map (λt=>Zao m q t),Srt D lt u:=λu hu=>by
  obtain⟨t,ht,rfl⟩:=List.mem_map.1 hu;exact Zds k hq (hp.1 t ht).1 (hp.1 t ht).2
 refine Zle o (Zhj o _ hs) (Zgp o k hq hp) λx=>?_;rw [Zit o k hq hp];unfold mulH;rw [sumH_cof o x _ hs];clear hs hp
 induction p with
 | nil=>rfl
 | cons t p ih=>show cof _ x+cofL (p.map _) x=cof _ x+cofM m q p x;rw [ih]
theorem Znj (o:KO D lt) {m:α→α→α} (k:KM D lt m) {p q:List (Rat × α)} (hp:Srt D lt p) (hq:Srt D lt q):mulR lt m p q=mulR lt m q p :=
 Zle o (Zgp o k hp hq) (Zgp o k hq hp) λx=>by rw [Zit o k hp hq,Zit o k hq hp,Zn4 k.comm]
end
section
variable {α:Type} {D:α→Prop} {lt:α→α→Prop} [DecidableRel lt]
theorem Ziy (p q:List (Rat × α)):(addP lt p q).length≤p.length+q.length:=by
 fun_induction addP lt p q<;>simp_all only [List.length_cons,List.length_nil]<;>omega
end
end Go.Pol
namespace Go.Proofs.YtimmnimikmnljaaGreat
open Go Go.RowKit Go.Pg
attribute [-bool_to_prop] Bool.and_eq_decide Bool.or_eq_decide Bool.decide_beq_decide decide_eq_decide
def Zfz (x:Int):Bool:=!decide (x < 0) && !decide (1048576 < x)
def Zb8 (l:List Int):Bool:=decide (l.length≤64) && !(l.getLast?.getD 1 == 0) && l.all Zfz
theorem Zmt {l:List Int} {p:Int→Bool} {k:Nat} (h:k < l.length):(l.take (k+1)).all p=((l.take k).all p && p (gI l k)):=by
 rw [Zfr h,List.take_succ_eq_append_getElem h];simp only [List.all_append,List.all_cons,List.all_nil,Bool.and_true]
theorem Zlh {l:List Int} (h:l.length≤64) (hlast:(l.getLast?.getD 1 == 0)=false):Zb8 l=l.all Zfz:=by
 unfold Zb8;simp [h,hlast]
theorem Zkc {l:List Int} {p:Int→Bool} {k:Nat} (h:¬k < l.length) (ha:(l.take k).all p=true):l.all p=true:=by
 rwa [List.take_of_length_le (by omega)] at ha
theorem Zmn {l:List Int} {p:Int→Bool} {k:Nat} (h:k < l.length) (hx:p (gI l k)=false):l.all p=false:=by
 rw [List.all_eq_false];exact⟨l[k],List.getElem_mem _,by rw [←Zfr h];simp [hx]⟩
theorem Zea {l:List Int} (h:0 < l.length):l.getLast?.getD 1=gI l (l.length - 1):=by
 rw [List.getLast?_eq_getElem?,Zfr (by omega),List.getElem?_eq_getElem (by omega)];rfl
theorem Zp7 (l:List Int):Pure Tryz.prog 82 [ints l] (.v (.bool (Zb8 l))):=by
 unfold ints;refine Zaa (tok:=0) (rs:=[.tmp 2]) Tryz.func82 rfl Tryz.ntmps82 Tryz.results82 Tryz.call82 (by rfl) (by simp) ?_;by_cases hbig:64 < l.length
 ·have hr:Zb8 l=false:=by unfold Zb8;simp;omega
  rw [hr]
  repeat' (first|with_reducible refine Za6 ?_|with_reducible refine Zak ?_|with_reducible refine Zar ?_|with_reducible refine Za7 ?_|with_reducible refine Zas ?_|with_reducible refine Zap ?_|with_reducible refine Zac ?_|with_reducible refine Zab ?_|with_reducible refine t_in ?_|with_reducible refine Zae ?_|with_reducible refine Zad ?_|with_reducible refine Zaq ?_|with_reducible refine Zaj ?_|(with_reducible refine Za1 ?_;intro K hK;simp (disch:=omega) only [go_sem,Tryz.underlying46,Tryz.underlying3,sz3];(repeat (first|(refine⟨by omega,?_⟩)|intro _));refine hK _ ?_;clear K hK)|(with_reducible refine Zav ?_ ?_;(focus (simp (disch:=omega) only [go_sem,Tryz.underlying46,Tryz.underlying3,sz3];done)))|(with_reducible refine Zam ?_ ?_;(focus (simp (disch:=omega) only [go_sem,Tryz.underlying46,Tryz.underlying3,sz3];done))))
  simp (disch:=omega) only [go_sem]
 ·by_cases hlast:l.getLast?.getD 1=0
  ·have h0:0 < l.length:=by
    rcases l with _ | ⟨a,r⟩
    ·simp at hlast
    ·simp
   have h5:gI l (l.length - 1)=0:=by rw [Zea (by omega)] at hlast;exact hlast
   have hr:Zb8 l=false:=by unfold Zb8;simp [hlast]
   rw [hr]
   repeat' (first|with_reducible refine Za6 ?_|with_reducible refine Zak ?_|with_reducible refine Zar ?_|with_reducible refine Za7 ?_|with_reducible refine Zas ?_|with_reducible refine Zap ?_|with_reducible refine Zac ?_|with_reducible refine Zab ?_|with_reducible refine t_in ?_|with_reducible refine Zae ?_|with_reducible refine Zad ?_|with_reducible refine Zaq ?_|with_reducible refine Zaj ?_|(with_reducible refine Za1 ?_;intro K hK;simp (disch:=omega) only [go_sem,Tryz.underlying46,Tryz.underlying3,sz3];(repeat (first|(refine⟨by omega,?_⟩)|intro _));refine hK _ ?_;clear K hK)|(with_reducible refine Zav ?_ ?_;(focus (simp (disch:=omega) only [go_sem,Tryz.underlying46,Tryz.underlying3,sz3];done)))|(with_reducible refine Zam ?_ ?_;(focus (simp (disch:=omega) only [go_sem,Tryz.underlying46,Tryz.underlying3,sz3];done))))
   simp (disch:=omega) only [go_sem]
  ·rw [Zlh (by omega) (by simpa using hlast)];have h5:0 < l.length→gI l (l.length - 1)≠0:=λh=>by rw [Zea (by omega)] at hlast;exact hlast
   by_cases h0:0 < l.length
   ·have h5:=h5 h0
    repeat' (first|with_reducible refine Za6 ?_|with_reducible refine Zak ?_|with_reducible refine Zar ?_|with_reducible refine Za7 ?_|with_reducible refine Zas ?_|with_reducible refine Zap ?_|with_reducible refine Zac ?_|with_reducible refine Zab ?_|with_reducible refine t_in ?_|with_reducible refine Zae ?_|with_reducible refine Zad ?_|with_reducible refine Zaq ?_|with_reducible refine Zaj ?_|(with_reducible refine Za1 ?_;intro K hK;simp (disch:=omega) only [go_sem,Tryz.underlying46,Tryz.underlying3,sz3];(repeat (first|(refine⟨by omega,?_⟩)|intro _));refine hK _ ?_;clear K hK)|(with_reducible refine Zav ?_ ?_;(focus (simp (disch:=omega) only [go_sem,Tryz.underlying46,Tryz.underlying3,sz3];done)))|(with_reducible refine Zam ?_ ?_;(focus (simp (disch:=omega) only [go_sem,Tryz.underlying46,Tryz.underlying3,sz3];done))))
    refine Zfu (ι:=Nat) (λk st=>k≤l.length∧st.env 0=.sl 1 (l.map λn=>AV.v (.int .i64 n))∧st.env 3=.v (.int .i64 k)∧(l.take k).all Zfz=true) (λk=>l.length - k) 0 (by rfl) ?_ ?_
    ·rintro k st ⟨hk,e0,e3,ha⟩
     by_cases hlt:k < l.length
     ·by_cases p1:gI l k < 0
      ·repeat' (first|with_reducible refine Za6 ?_|with_reducible refine Zak ?_|with_reducible refine Zar ?_|with_reducible refine Za7 ?_|with_reducible refine Zas ?_|with_reducible refine Zap ?_|with_reducible refine Zac ?_|with_reducible refine Zab ?_|with_reducible refine t_in ?_|with_reducible refine Zae ?_|with_reducible refine Zad ?_|with_reducible refine Zaq ?_|with_reducible refine Zaj ?_|(with_reducible refine Za1 ?_;intro K hK;simp (disch:=omega) only [go_sem,Tryz.underlying46,Tryz.underlying3,sz3,e0,e3];(repeat (first|(refine⟨by omega,?_⟩)|intro _));refine hK _ ?_;clear K hK)|(with_reducible refine Zav ?_ ?_;(focus (simp (disch:=omega) only [go_sem,Tryz.underlying46,Tryz.underlying3,sz3,e0,e3];done)))|(with_reducible refine Zam ?_ ?_;(focus (simp (disch:=omega) only [go_sem,Tryz.underlying46,Tryz.underlying3,sz3,e0,e3];done))))
       rw [Zmn (p:=Zfz) (k:=k) hlt (by unfold Zfz;simp [p1])];simp (disch:=omega) only [go_sem]
      ·by_cases p2:1048576 < gI l k
       ·repeat' (first|with_reducible refine Za6 ?_|with_reducible refine Zak ?_|with_reducible refine Zar ?_|with_reducible refine Za7 ?_|with_reducible refine Zas ?_|with_reducible refine Zap ?_|with_reducible refine Zac ?_|with_reducible refine Zab ?_|with_reducible refine t_in ?_|with_reducible refine Zae ?_|with_reducible refine Zad ?_|with_reducible refine Zaq ?_|with_reducible refine Zaj ?_|(with_reducible refine Za1 ?_;intro K hK;simp (disch:=omega) only [go_sem,Tryz.underlying46,Tryz.underlying3,sz3,e0,e3];(repeat (first|(refine⟨by omega,?_⟩)|intro _));refine hK _ ?_;clear K hK)|(with_reducible refine Zav ?_ ?_;(focus (simp (disch:=omega) only [go_sem,Tryz.underlying46,Tryz.underlying3,sz3,e0,e3];done)))|(with_reducible refine Zam ?_ ?_;(focus (simp (disch:=omega) only [go_sem,Tryz.underlying46,Tryz.underlying3,sz3,e0,e3];done))))
        rw [Zmn (p:=Zfz) (k:=k) hlt (by unfold Zfz;simp [p2])];simp (disch:=omega) only [go_sem]
       ·repeat' (first|with_reducible refine Za6 ?_|with_reducible refine Zak ?_|with_reducible refine Zar ?_|with_reducible refine Za7 ?_|with_reducible refine Zas ?_|with_reducible refine Zap ?_|with_reducible refine Zac ?_|with_reducible refine Zab ?_|with_reducible refine t_in ?_|with_reducible refine Zae ?_|with_reducible refine Zad ?_|with_reducible refine Zaq ?_|with_reducible refine Zaj ?_|(with_reducible refine Za1 ?_;intro K hK;simp (disch:=omega) only [go_sem,Tryz.underlying46,Tryz.underlying3,sz3,e0,e3];(repeat (first|(refine⟨by omega,?_⟩)|intro _));refine hK _ ?_;clear K hK)|(with_reducible refine Zav ?_ ?_;(focus (simp (disch:=omega) only [go_sem,Tryz.underlying46,Tryz.underlying3,sz3,e0,e3];done)))|(with_reducible refine Zam ?_ ?_;(focus (simp (disch:=omega) only [go_sem,Tryz.underlying46,Tryz.underlying3,sz3,e0,e3];done))))
        refine⟨k+1,⟨by omega,by simp (disch:=omega) only [go_sem,e0],by simp (disch:=omega) only [go_sem,e3];rfl,?_⟩,by omega⟩;rw [Zmt (by omega),ha];unfold Zfz;simp [p1,p2]
     ·repeat' (first|with_reducible refine Za6 ?_|with_reducible refine Zak ?_|with_reducible refine Zar ?_|with_reducible refine Za7 ?_|with_reducible refine Zas ?_|with_reducible refine Zap ?_|with_reducible refine Zac ?_|with_reducible refine Zab ?_|with_reducible refine t_in ?_|with_reducible refine Zae ?_|with_reducible refine Zad ?_|with_reducible refine Zaq ?_|with_reducible refine Zaj ?_|(with_reducible refine Za1 ?_;intro K hK;simp (disch:=omega) only [go_sem,Tryz.underlying46,Tryz.underlying3,sz3,e0,e3];(repeat (first|(refine⟨by omega,?_⟩)|intro _));refine hK _ ?_;clear K hK)|(with_reducible refine Zav ?_ ?_;(focus (simp (disch:=omega) only [go_sem,Tryz.underlying46,Tryz.underlying3,sz3,e0,e3];done)))|(with_reducible refine Zam ?_ ?_;(focus (simp (disch:=omega) only [go_sem,Tryz.underlying46,Tryz.underlying3,sz3,e0,e3];done))))
      rw [Zkc (by omega) ha];simp (disch:=omega) only [go_sem]
    ·refine⟨Nat.zero_le _,by simp (disch:=omega) only [go_sem],by simp (disch:=omega) only [go_sem];rfl,by simp⟩
   ·have hnil:l=[]:=List.length_eq_zero_iff.1 (by omega);subst hnil
    repeat' (first|with_reducible refine Za6 ?_|with_reducible refine Zak ?_|with_reducible refine Zar ?_|with_reducible refine Za7 ?_|with_reducible refine Zas ?_|with_reducible refine Zap ?_|with_reducible refine Zac ?_|with_reducible refine Zab ?_|with_reducible refine t_in ?_|with_reducible refine Zae ?_|with_reducible refine Zad ?_|with_reducible refine Zaq ?_|with_reducible refine Zaj ?_|(with_reducible refine Za1 ?_;intro K hK;simp (disch:=omega) only [go_sem,Tryz.underlying46,Tryz.underlying3,sz3];(repeat (first|(refine⟨by omega,?_⟩)|intro _));refine hK _ ?_;clear K hK)|(with_reducible refine Zav ?_ ?_;(focus (simp (disch:=omega) only [go_sem,Tryz.underlying46,Tryz.underlying3,sz3];done)))|(with_reducible refine Zam ?_ ?_;(focus (simp (disch:=omega) only [go_sem,Tryz.underlying46,Tryz.underlying3,sz3];done))))
    refine Zfu (ι:=Unit) (λ_ st=>st.env 0=.sl 1 []∧st.env 3=.v (.int .i64 0)) (λ_=>0) () (by rfl) ?_ ?_
    ·rintro _ st ⟨e0,e3⟩
     repeat' (first|with_reducible refine Za6 ?_|with_reducible refine Zak ?_|with_reducible refine Zar ?_|with_reducible refine Za7 ?_|with_reducible refine Zas ?_|with_reducible refine Zap ?_|with_reducible refine Zac ?_|with_reducible refine Zab ?_|with_reducible refine t_in ?_|with_reducible refine Zae ?_|with_reducible refine Zad ?_|with_reducible refine Zaq ?_|with_reducible refine Zaj ?_|(with_reducible refine Za1 ?_;intro K hK;simp (disch:=omega) only [go_sem,Tryz.underlying46,Tryz.underlying3,sz3,e0,e3];(repeat (first|(refine⟨by omega,?_⟩)|intro _));refine hK _ ?_;clear K hK)|(with_reducible refine Zav ?_ ?_;(focus (simp (disch:=omega) only [go_sem,Tryz.underlying46,Tryz.underlying3,sz3,e0,e3];done)))|(with_reducible refine Zam ?_ ?_;(focus (simp (disch:=omega) only [go_sem,Tryz.underlying46,Tryz.underlying3,sz3,e0,e3];done))))
     simp (disch:=omega) only [go_sem]
    ·refine⟨by simp (disch:=omega) only [go_sem],by simp (disch:=omega) only [go_sem]⟩
attribute [local go_sem] Tryz.underlying46 Tryz.underlying3 sz3 by3 z3
def Sm (l:List Int):Prop:=l.length≤1000∧∀j,0≤gI l j∧gI l j≤16777216
def sumT (l:List Int):Nat→Int
 | 0=>0
 | k+1=>sumT l k+gI l k
theorem Zi1 {l:List Int} (h:Sm l):∀k,0≤sumT l k∧sumT l k≤k*16777216
 | 0=>by simp [sumT]
 | k+1=>by
   have h1:=Zi1 h k;have h2:=h.2 k;simp only [sumT];omega
theorem Znk (l:List Int) (hs:Sm l):Pure Tryz.prog 92 [ints l] (.v (.int .i64 (sumT l l.length))):=by
 unfold ints;refine Zaa (tok:=0) (rs:=[.tmp 2]) Tryz.func92 rfl Tryz.ntmps92 Tryz.results92 Tryz.call92 (by rfl) (by simp) ?_;have hl:=hs.1
 repeat' (first|with_reducible refine Za6 ?_|with_reducible refine Zak ?_|with_reducible refine Zar ?_|with_reducible refine Za7 ?_|with_reducible refine Zas ?_|with_reducible refine Zap ?_|with_reducible refine Zac ?_|with_reducible refine Zab ?_|with_reducible refine t_in ?_|with_reducible refine Zae ?_|with_reducible refine Zad ?_|with_reducible refine Zaq ?_|with_reducible refine Zaj ?_|(with_reducible refine Za1 ?_;intro K hK;simp (disch:=omega) only [go_sem];(repeat (first|(refine⟨by omega,?_⟩)|intro _));refine hK _ ?_;clear K hK)|(with_reducible refine Zav ?_ ?_;(focus (simp (disch:=omega) only [go_sem];done)))|(with_reducible refine Zam ?_ ?_;(focus (simp (disch:=omega) only [go_sem];done))))
 refine Zfu (ι:=Nat) (λk st=>k≤l.length∧st.env 6=.sl 1 (l.map λn=>AV.v (.int .i64 n))∧st.env 7=.v (.int .i64 l.length)∧st.env 8=.v (.int .i64 k)∧st.env 3=.v (.int .i64 (sumT l k))) (λk=>l.length - k) 0 (by rfl) ?_ ?_
 ·rintro k st ⟨hk,e6,e7,e8,e3⟩
  by_cases hlt:k < l.length
  ·have b1:=Zi1 hs k;have b2:=hs.2 k
   repeat' (first|with_reducible refine Za6 ?_|with_reducible refine Zak ?_|with_reducible refine Zar ?_|with_reducible refine Za7 ?_|with_reducible refine Zas ?_|with_reducible refine Zap ?_|with_reducible refine Zac ?_|with_reducible refine Zab ?_|with_reducible refine t_in ?_|with_reducible refine Zae ?_|with_reducible refine Zad ?_|with_reducible refine Zaq ?_|with_reducible refine Zaj ?_|(with_reducible refine Za1 ?_;intro K hK;simp (disch:=omega) only [go_sem,e6,e7,e8,e3];(repeat (first|(refine⟨by omega,?_⟩)|intro _));refine hK _ ?_;clear K hK)|(with_reducible refine Zav ?_ ?_;(focus (simp (disch:=omega) only [go_sem,e6,e7,e8,e3];done)))|(with_reducible refine Zam ?_ ?_;(focus (simp (disch:=omega) only [go_sem,e6,e7,e8,e3];done))))
   exact⟨k+1,⟨by omega,by simp (disch:=omega) only [go_sem,e6],by simp (disch:=omega) only [go_sem,e7],by simp (disch:=omega) only [go_sem,e8];rfl,by simp (disch:=omega) only [go_sem,e3];rfl⟩,by omega⟩
  ·have hk':k=l.length:=by omega
   subst hk'
   repeat' (first|with_reducible refine Za6 ?_|with_reducible refine Zak ?_|with_reducible refine Zar ?_|with_reducible refine Za7 ?_|with_reducible refine Zas ?_|with_reducible refine Zap ?_|with_reducible refine Zac ?_|with_reducible refine Zab ?_|with_reducible refine t_in ?_|with_reducible refine Zae ?_|with_reducible refine Zad ?_|with_reducible refine Zaq ?_|with_reducible refine Zaj ?_|(with_reducible refine Za1 ?_;intro K hK;simp (disch:=omega) only [go_sem,e6,e7,e8,e3];(repeat (first|(refine⟨by omega,?_⟩)|intro _));refine hK _ ?_;clear K hK)|(with_reducible refine Zav ?_ ?_;(focus (simp (disch:=omega) only [go_sem,e6,e7,e8,e3];done)))|(with_reducible refine Zam ?_ ?_;(focus (simp (disch:=omega) only [go_sem,e6,e7,e8,e3];done))))
   simp (disch:=omega) only [go_sem,e3]
 ·exact⟨Nat.zero_le _,by simp (disch:=omega) only [go_sem],by simp (disch:=omega) only [go_sem],by simp (disch:=omega) only [go_sem];rfl,by simp (disch:=omega) only [go_sem];rfl⟩
theorem Zi8 (l:List Int) (hs:Sm l):Pure Tryz.prog 54 [ints l] (.v (.int .i64 (sumT l l.length))):=by
 unfold ints;refine Zaa (tok:=0) (rs:=[.tmp 2]) Tryz.func54 rfl Tryz.ntmps54 Tryz.results54 Tryz.call54 (by rfl) (by simp) ?_;have hl:=hs.1
 repeat' (first|with_reducible refine Za6 ?_|with_reducible refine Zak ?_|with_reducible refine Zar ?_|with_reducible refine Za7 ?_|with_reducible refine Zas ?_|with_reducible refine Zap ?_|with_reducible refine Zac ?_|with_reducible refine Zab ?_|with_reducible refine t_in ?_|with_reducible refine Zae ?_|with_reducible refine Zad ?_|with_reducible refine Zaq ?_|with_reducible refine Zaj ?_|(with_reducible refine Za1 ?_;intro K hK;simp (disch:=omega) only [go_sem];(repeat (first|(refine⟨by omega,?_⟩)|intro _));refine hK _ ?_;clear K hK)|(with_reducible refine Zav ?_ ?_;(focus (simp (disch:=omega) only [go_sem];done)))|(with_reducible refine Zam ?_ ?_;(focus (simp (disch:=omega) only [go_sem];done))))
 refine Zfu (ι:=Nat) (λk st=>k≤l.length∧st.env 0=.sl 1 (l.map λn=>AV.v (.int .i64 n))∧st.env 4=.v (.int .i64 k)∧st.env 3=.v (.int .i64 (sumT l k))) (λk=>l.length - k) 0 (by rfl) ?_ ?_
 ·rintro k st ⟨hk,e0,e4,e3⟩
  by_cases hlt:k < l.length
  ·have b1:=Zi1 hs k;have b2:=hs.2 k
   repeat' (first|with_reducible refine Za6 ?_|with_reducible refine Zak ?_|with_reducible refine Zar ?_|with_reducible refine Za7 ?_|with_reducible refine Zas ?_|with_reducible refine Zap ?_|with_reducible refine Zac ?_|with_reducible refine Zab ?_|with_reducible refine t_in ?_|with_reducible refine Zae ?_|with_reducible refine Zad ?_|with_reducible refine Zaq ?_|with_reducible refine Zaj ?_|(with_reducible refine Za1 ?_;intro K hK;simp (disch:=omega) only [go_sem,e0,e4,e3];(repeat (first|(refine⟨by omega,?_⟩)|intro _));refine hK _ ?_;clear K hK)|(with_reducible refine Zav ?_ ?_;(focus (simp (disch:=omega) only [go_sem,e0,e4,e3];done)))|(with_reducible refine Zam ?_ ?_;(focus (simp (disch:=omega) only [go_sem,e0,e4,e3];done))))
   exact⟨k+1,⟨by omega,by simp (disch:=omega) only [go_sem,e0],by simp (disch:=omega) only [go_sem,e4];rfl,by simp (disch:=omega) only [go_sem,e3];rfl⟩,by omega⟩
  ·have hk':k=l.length:=by omega
   subst hk'
   repeat' (first|with_reducible refine Za6 ?_|with_reducible refine Zak ?_|with_reducible refine Zar ?_|with_reducible refine Za7 ?_|with_reducible refine Zas ?_|with_reducible refine Zap ?_|with_reducible refine Zac ?_|with_reducible refine Zab ?_|with_reducible refine t_in ?_|with_reducible refine Zae ?_|with_reducible refine Zad ?_|with_reducible refine Zaq ?_|with_reducible refine Zaj ?_|(with_reducible refine Za1 ?_;intro K hK;simp (disch:=omega) only [go_sem,e0,e4,e3];(repeat (first|(refine⟨by omega,?_⟩)|intro _));refine hK _ ?_;clear K hK)|(with_reducible refine Zav ?_ ?_;(focus (simp (disch:=omega) only [go_sem,e0,e4,e3];done)))|(with_reducible refine Zam ?_ ?_;(focus (simp (disch:=omega) only [go_sem,e0,e4,e3];done))))
   simp (disch:=omega) only [go_sem,e3]
 ·exact⟨Nat.zero_le _,by simp (disch:=omega) only [go_sem],by simp (disch:=omega) only [go_sem];rfl,by simp (disch:=omega) only [go_sem];rfl⟩
def expI (l:List Int) (v:Int):Int:=if v < 0 then 0 else gI l v.toNat
theorem exp_of (l:List Int) (k:Nat):expI l (k:Int)=gI l k:=by unfold expI;rw [if_neg (by omega)];rfl
theorem Zpu {l:List Int} {v:Int} (h0:0≤v) (h:v < l.length):v.toNat < l.length:=by omega
theorem monExp (l:List Int) (v:Int):Pure Tryz.prog 93 [ints l,.v (.int .i64 v)] (.v (.int .i64 (expI l v))):=by
 unfold ints;refine Zaa (tok:=0) (rs:=[.tmp 4]) Tryz.func93 rfl Tryz.ntmps93 Tryz.results93 Tryz.call93 (by rfl) (by simp) ?_;by_cases h0:v < 0
 ·unfold expI;rw [if_pos h0]
  repeat' (first|with_reducible refine Za6 ?_|with_reducible refine Zak ?_|with_reducible refine Zar ?_|with_reducible refine Za7 ?_|with_reducible refine Zas ?_|with_reducible refine Zap ?_|with_reducible refine Zac ?_|with_reducible refine Zab ?_|with_reducible refine t_in ?_|with_reducible refine Zae ?_|with_reducible refine Zad ?_|with_reducible refine Zaq ?_|with_reducible refine Zaj ?_|(with_reducible refine Za1 ?_;intro K hK;simp (disch:=omega) only [go_sem];(repeat (first|(refine⟨by omega,?_⟩)|intro _));refine hK _ ?_;clear K hK)|(with_reducible refine Zav ?_ ?_;(focus (simp (disch:=omega) only [go_sem];done)))|(with_reducible refine Zam ?_ ?_;(focus (simp (disch:=omega) only [go_sem];done))))
  simp (disch:=omega) only [go_sem]
 ·unfold expI;rw [if_neg h0];by_cases h1:v < l.length
  ·have h2:=Zpu (by omega) h1
   repeat' (first|with_reducible refine Za6 ?_|with_reducible refine Zak ?_|with_reducible refine Zar ?_|with_reducible refine Za7 ?_|with_reducible refine Zas ?_|with_reducible refine Zap ?_|with_reducible refine Zac ?_|with_reducible refine Zab ?_|with_reducible refine t_in ?_|with_reducible refine Zae ?_|with_reducible refine Zad ?_|with_reducible refine Zaq ?_|with_reducible refine Zaj ?_|(with_reducible refine Za1 ?_;intro K hK;simp (disch:=omega) only [go_sem];(repeat (first|(refine⟨by omega,?_⟩)|intro _));refine hK _ ?_;clear K hK)|(with_reducible refine Zav ?_ ?_;(focus (simp (disch:=omega) only [go_sem];done)))|(with_reducible refine Zam ?_ ?_;(focus (simp (disch:=omega) only [go_sem];done))))
   simp (disch:=omega) only [go_sem]
  ·rw [Zbi (by omega)]
   repeat' (first|with_reducible refine Za6 ?_|with_reducible refine Zak ?_|with_reducible refine Zar ?_|with_reducible refine Za7 ?_|with_reducible refine Zas ?_|with_reducible refine Zap ?_|with_reducible refine Zac ?_|with_reducible refine Zab ?_|with_reducible refine t_in ?_|with_reducible refine Zae ?_|with_reducible refine Zad ?_|with_reducible refine Zaq ?_|with_reducible refine Zaj ?_|(with_reducible refine Za1 ?_;intro K hK;simp (disch:=omega) only [go_sem];(repeat (first|(refine⟨by omega,?_⟩)|intro _));refine hK _ ?_;clear K hK)|(with_reducible refine Zav ?_ ?_;(focus (simp (disch:=omega) only [go_sem];done)))|(with_reducible refine Zam ?_ ?_;(focus (simp (disch:=omega) only [go_sem];done))))
   simp (disch:=omega) only [go_sem]
theorem refExp (l:List Int) (v:Int):Pure Tryz.prog 52 [ints l,.v (.int .i64 v)] (.v (.int .i64 (expI l v))):=by
 unfold ints;refine Zaa (tok:=0) (rs:=[.tmp 4]) Tryz.func52 rfl Tryz.ntmps52 Tryz.results52 Tryz.call52 (by rfl) (by simp) ?_;by_cases h0:v < 0
 ·unfold expI;rw [if_pos h0]
  repeat' (first|with_reducible refine Za6 ?_|with_reducible refine Zak ?_|with_reducible refine Zar ?_|with_reducible refine Za7 ?_|with_reducible refine Zas ?_|with_reducible refine Zap ?_|with_reducible refine Zac ?_|with_reducible refine Zab ?_|with_reducible refine t_in ?_|with_reducible refine Zae ?_|with_reducible refine Zad ?_|with_reducible refine Zaq ?_|with_reducible refine Zaj ?_|(with_reducible refine Za1 ?_;intro K hK;simp (disch:=omega) only [go_sem];(repeat (first|(refine⟨by omega,?_⟩)|intro _));refine hK _ ?_;clear K hK)|(with_reducible refine Zav ?_ ?_;(focus (simp (disch:=omega) only [go_sem];done)))|(with_reducible refine Zam ?_ ?_;(focus (simp (disch:=omega) only [go_sem];done))))
  simp (disch:=omega) only [go_sem]
 ·unfold expI;rw [if_neg h0];by_cases h1:v < l.length
  ·have h2:=Zpu (by omega) h1
   repeat' (first|with_reducible refine Za6 ?_|with_reducible refine Zak ?_|with_reducible refine Zar ?_|with_reducible refine Za7 ?_|with_reducible refine Zas ?_|with_reducible refine Zap ?_|with_reducible refine Zac ?_|with_reducible refine Zab ?_|with_reducible refine t_in ?_|with_reducible refine Zae ?_|with_reducible refine Zad ?_|with_reducible refine Zaq ?_|with_reducible refine Zaj ?_|(with_reducible refine Za1 ?_;intro K hK;simp (disch:=omega) only [go_sem];(repeat (first|(refine⟨by omega,?_⟩)|intro _));refine hK _ ?_;clear K hK)|(with_reducible refine Zav ?_ ?_;(focus (simp (disch:=omega) only [go_sem];done)))|(with_reducible refine Zam ?_ ?_;(focus (simp (disch:=omega) only [go_sem];done))))
   simp (disch:=omega) only [go_sem]
  ·rw [Zbi (by omega)]
   repeat' (first|with_reducible refine Za6 ?_|with_reducible refine Zak ?_|with_reducible refine Zar ?_|with_reducible refine Za7 ?_|with_reducible refine Zas ?_|with_reducible refine Zap ?_|with_reducible refine Zac ?_|with_reducible refine Zab ?_|with_reducible refine t_in ?_|with_reducible refine Zae ?_|with_reducible refine Zad ?_|with_reducible refine Zaq ?_|with_reducible refine Zaj ?_|(with_reducible refine Za1 ?_;intro K hK;simp (disch:=omega) only [go_sem];(repeat (first|(refine⟨by omega,?_⟩)|intro _));refine hK _ ?_;clear K hK)|(with_reducible refine Zav ?_ ?_;(focus (simp (disch:=omega) only [go_sem];done)))|(with_reducible refine Zam ?_ ?_;(focus (simp (disch:=omega) only [go_sem];done))))
   simp (disch:=omega) only [go_sem]
def sgn (n:Int):Int:=if n < 0 then -1 else if 0 < n then 1 else 0
theorem Zsm (n:Int):Pure Tryz.prog 109 [.v (.int .i64 n)] (.v (.int .i64 (sgn n))):=by
 refine Zaa (tok:=0) (rs:=[.tmp 2]) Tryz.func109 rfl Tryz.ntmps109 Tryz.results109 Tryz.call109 (by rfl) (by simp) ?_;unfold sgn;by_cases h0:n < 0
 ·rw [if_pos h0]
  repeat' (first|with_reducible refine Za6 ?_|with_reducible refine Zak ?_|with_reducible refine Zar ?_|with_reducible refine Za7 ?_|with_reducible refine Zas ?_|with_reducible refine Zap ?_|with_reducible refine Zac ?_|with_reducible refine Zab ?_|with_reducible refine t_in ?_|with_reducible refine Zae ?_|with_reducible refine Zad ?_|with_reducible refine Zaq ?_|with_reducible refine Zaj ?_|(with_reducible refine Za1 ?_;intro K hK;simp (disch:=omega) only [go_sem];(repeat (first|(refine⟨by omega,?_⟩)|intro _));refine hK _ ?_;clear K hK)|(with_reducible refine Zav ?_ ?_;(focus (simp (disch:=omega) only [go_sem];done)))|(with_reducible refine Zam ?_ ?_;(focus (simp (disch:=omega) only [go_sem];done))))
  simp (disch:=omega) only [go_sem]
 ·rw [if_neg h0];by_cases h1:0 < n
  ·rw [if_pos h1]
   repeat' (first|with_reducible refine Za6 ?_|with_reducible refine Zak ?_|with_reducible refine Zar ?_|with_reducible refine Za7 ?_|with_reducible refine Zas ?_|with_reducible refine Zap ?_|with_reducible refine Zac ?_|with_reducible refine Zab ?_|with_reducible refine t_in ?_|with_reducible refine Zae ?_|with_reducible refine Zad ?_|with_reducible refine Zaq ?_|with_reducible refine Zaj ?_|(with_reducible refine Za1 ?_;intro K hK;simp (disch:=omega) only [go_sem];(repeat (first|(refine⟨by omega,?_⟩)|intro _));refine hK _ ?_;clear K hK)|(with_reducible refine Zav ?_ ?_;(focus (simp (disch:=omega) only [go_sem];done)))|(with_reducible refine Zam ?_ ?_;(focus (simp (disch:=omega) only [go_sem];done))))
   simp (disch:=omega) only [go_sem]
  ·rw [if_neg h1]
   repeat' (first|with_reducible refine Za6 ?_|with_reducible refine Zak ?_|with_reducible refine Zar ?_|with_reducible refine Za7 ?_|with_reducible refine Zas ?_|with_reducible refine Zap ?_|with_reducible refine Zac ?_|with_reducible refine Zab ?_|with_reducible refine t_in ?_|with_reducible refine Zae ?_|with_reducible refine Zad ?_|with_reducible refine Zaq ?_|with_reducible refine Zaj ?_|(with_reducible refine Za1 ?_;intro K hK;simp (disch:=omega) only [go_sem];(repeat (first|(refine⟨by omega,?_⟩)|intro _));refine hK _ ?_;clear K hK)|(with_reducible refine Zav ?_ ?_;(focus (simp (disch:=omega) only [go_sem];done)))|(with_reducible refine Zam ?_ ?_;(focus (simp (disch:=omega) only [go_sem];done))))
   simp (disch:=omega) only [go_sem]
attribute [local go_sem] Tryz.underlying45
def Zdj (l:List Int):Nat→Nat
 | 0=>0
 | n+1=>if gI l n=0 then Zdj l n else n+1
theorem Zk9 (l:List Int):∀n,Zdj l n≤n
 | 0=>Nat.le_refl _
 | n+1=>by
   simp only [Zdj];split
   ·exact Nat.le_trans (Zk9 l n) (by omega)
   ·omega
def Zcx (l:List Int):List Int:=l.take (Zdj l l.length)
theorem Zh0 {l:List Int} {k:Nat} (h:0 < k) (hx:gI l (k - 1)≠0):Zdj l k=k:=by
 cases k with
 | zero=>omega
 | succ k=>simp only [Zdj];rw [if_neg (by simpa using hx)]
theorem Zkj {l:List Int} {k:Nat} (h:0 < k) (hx:gI l (k - 1)=0):Zdj l (k - 1)=Zdj l k:=by
 cases k with
 | zero=>omega
 | succ k=>simp only [Zdj];rw [if_pos (by simpa using hx)];rfl
theorem Zhx {k:Nat} (h:0 < k):(k:Int) - 1=((k - 1:Nat):Int):=by omega
theorem monTrim' (l:List Int) (hs:l.length≤1000):Pure Tryz.prog 119 [ints l] (if Zdj l l.length=0 then .v (.slice none 0 0) else ints (Zcx l)):=by
 have hle:=Zk9 l l.length
 have hcode:∀r:AV,(Zdj l l.length=0→r=.v (.slice none 0 0))→(Zdj l l.length≠0→r=.sl 1 ((l.map λn=>AV.v (.int .i64 n)).take (Zdj l l.length)))→Pure Tryz.prog 119 [ints l] r:=by
  intro r h1 h2;unfold ints;refine Zaa (tok:=0) (rs:=[.tmp 2]) Tryz.func119 rfl Tryz.ntmps119 Tryz.results119 Tryz.call119 (by rfl) (by simp) ?_
  repeat' (first|with_reducible refine Za6 ?_|with_reducible refine Zak ?_|with_reducible refine Zar ?_|with_reducible refine Za7 ?_|with_reducible refine Zas ?_|with_reducible refine Zap ?_|with_reducible refine Zac ?_|with_reducible refine Zab ?_|with_reducible refine t_in ?_|with_reducible refine Zae ?_|with_reducible refine Zad ?_|with_reducible refine Zaq ?_|with_reducible refine Zaj ?_|(with_reducible refine Za1 ?_;intro K hK;simp (disch:=omega) only [go_sem];(repeat (first|(refine⟨by omega,?_⟩)|intro _));refine hK _ ?_;clear K hK)|(with_reducible refine Zav ?_ ?_;(focus (simp (disch:=omega) only [go_sem];done)))|(with_reducible refine Zam ?_ ?_;(focus (simp (disch:=omega) only [go_sem];done))))
  refine Zfu (ι:=Nat) (λk st=>k≤l.length∧st.env 0=.sl 1 (l.map λn=>AV.v (.int .i64 n))∧st.env 3=.v (.int .i64 k)∧Zdj l k=Zdj l l.length) (λk=>k) l.length (by rfl) ?_ ?_
  ·rintro k st ⟨hk,e0,e3,ha⟩
   by_cases h0:0 < k
   ·by_cases hx:gI l (k - 1)=0
    ·repeat' (first|with_reducible refine Za6 ?_|with_reducible refine Zak ?_|with_reducible refine Zar ?_|with_reducible refine Za7 ?_|with_reducible refine Zas ?_|with_reducible refine Zap ?_|with_reducible refine Zac ?_|with_reducible refine Zab ?_|with_reducible refine t_in ?_|with_reducible refine Zae ?_|with_reducible refine Zad ?_|with_reducible refine Zaq ?_|with_reducible refine Zaj ?_|(with_reducible refine Za1 ?_;intro K hK;simp (disch:=omega) only [go_sem,e0,e3];(repeat (first|(refine⟨by omega,?_⟩)|intro _));refine hK _ ?_;clear K hK)|(with_reducible refine Zav ?_ ?_;(focus (simp (disch:=omega) only [go_sem,e0,e3];done)))|(with_reducible refine Zam ?_ ?_;(focus (simp (disch:=omega) only [go_sem,e0,e3];done))))
     refine⟨k - 1,⟨by omega,by simp (disch:=omega) only [go_sem,e0],by simp (disch:=omega) only [go_sem,e3];rw [Zhx h0],?_⟩,by omega⟩;rw [Zkj h0 hx,ha]
    ·rw [Zh0 h0 hx] at ha;rw [←ha] at h1 h2 hle;rw [h2 (by omega)]
     repeat' (first|with_reducible refine Za6 ?_|with_reducible refine Zak ?_|with_reducible refine Zar ?_|with_reducible refine Za7 ?_|with_reducible refine Zas ?_|with_reducible refine Zap ?_|with_reducible refine Zac ?_|with_reducible refine Zab ?_|with_reducible refine t_in ?_|with_reducible refine Zae ?_|with_reducible refine Zad ?_|with_reducible refine Zaq ?_|with_reducible refine Zaj ?_|(with_reducible refine Za1 ?_;intro K hK;simp (disch:=omega) only [go_sem,e0,e3];(repeat (first|(refine⟨by omega,?_⟩)|intro _));refine hK _ ?_;clear K hK)|(with_reducible refine Zav ?_ ?_;(focus (simp (disch:=omega) only [go_sem,e0,e3];done)))|(with_reducible refine Zam ?_ ?_;(focus (simp (disch:=omega) only [go_sem,e0,e3];done))))
     simp (disch:=omega) only [go_sem]
   ·have hk0:k=0:=by omega
    subst hk0;have h3:Zdj l l.length=0:=ha.symm;rw [h1 h3]
    repeat' (first|with_reducible refine Za6 ?_|with_reducible refine Zak ?_|with_reducible refine Zar ?_|with_reducible refine Za7 ?_|with_reducible refine Zas ?_|with_reducible refine Zap ?_|with_reducible refine Zac ?_|with_reducible refine Zab ?_|with_reducible refine t_in ?_|with_reducible refine Zae ?_|with_reducible refine Zad ?_|with_reducible refine Zaq ?_|with_reducible refine Zaj ?_|(with_reducible refine Za1 ?_;intro K hK;simp (disch:=omega) only [go_sem,e0,e3];(repeat (first|(refine⟨by omega,?_⟩)|intro _));refine hK _ ?_;clear K hK)|(with_reducible refine Zav ?_ ?_;(focus (simp (disch:=omega) only [go_sem,e0,e3];done)))|(with_reducible refine Zam ?_ ?_;(focus (simp (disch:=omega) only [go_sem,e0,e3];done))))
    simp (disch:=omega) only [go_sem]
  ·exact⟨Nat.le_refl _,by simp (disch:=omega) only [go_sem],by simp (disch:=omega) only [go_sem],rfl⟩
 refine hcode _ (λh=>by rw [if_pos h]) (λh=>by rw [if_neg h];unfold ints Zcx;rw [List.map_take])
theorem Zlx (l:List Int) (hs:l.length≤1000):Pure Tryz.prog 119 [ints l] (ints (Zcx l)):=by
 refine(monTrim' l hs).wk ?_;split
 ·rename_i h;unfold Zcx ints;rw [h];exact .nil 1
 ·exact .refl _
theorem refCut (l:List Int) (hs:l.length≤1000):Pure Tryz.prog 131 [ints l] (ints (Zcx l)):=by
 have hle:=Zk9 l l.length
 have hcode:∀r:AV,(r=.sl 1 ((l.map λn=>AV.v (.int .i64 n)).take (Zdj l l.length)))→Pure Tryz.prog 131 [ints l] r:=by
  intro r h2;unfold ints;refine Zaa (tok:=0) (rs:=[.tmp 2]) Tryz.func131 rfl Tryz.ntmps131 Tryz.results131 Tryz.call131 (by rfl) (by simp) ?_
  repeat' (first|with_reducible refine Za6 ?_|with_reducible refine Zak ?_|with_reducible refine Zar ?_|with_reducible refine Za7 ?_|with_reducible refine Zas ?_|with_reducible refine Zap ?_|with_reducible refine Zac ?_|with_reducible refine Zab ?_|with_reducible refine t_in ?_|with_reducible refine Zae ?_|with_reducible refine Zad ?_|with_reducible refine Zaq ?_|with_reducible refine Zaj ?_|(with_reducible refine Za1 ?_;intro K hK;simp (disch:=omega) only [go_sem];(repeat (first|(refine⟨by omega,?_⟩)|intro _));refine hK _ ?_;clear K hK)|(with_reducible refine Zav ?_ ?_;(focus (simp (disch:=omega) only [go_sem];done)))|(with_reducible refine Zam ?_ ?_;(focus (simp (disch:=omega) only [go_sem];done))))
  refine Zfu (ι:=Nat) (λk st=>k≤l.length∧st.env 0=.sl 1 (l.map λn=>AV.v (.int .i64 n))∧st.env 3=.v (.int .i64 k)∧Zdj l k=Zdj l l.length∧st.mem=Zan) (λk=>k) l.length (by rfl) ?_ ?_
  ·rintro k st ⟨hk,e0,e3,ha,em⟩
   by_cases h0:0 < k
   ·by_cases hx:gI l (k - 1)=0
    ·repeat' (first|with_reducible refine Za6 ?_|with_reducible refine Zak ?_|with_reducible refine Zar ?_|with_reducible refine Za7 ?_|with_reducible refine Zas ?_|with_reducible refine Zap ?_|with_reducible refine Zac ?_|with_reducible refine Zab ?_|with_reducible refine t_in ?_|with_reducible refine Zae ?_|with_reducible refine Zad ?_|with_reducible refine Zaq ?_|with_reducible refine Zaj ?_|(with_reducible refine Za1 ?_;intro K hK;simp (disch:=omega) only [go_sem,e0,e3];(repeat (first|(refine⟨by omega,?_⟩)|intro _));refine hK _ ?_;clear K hK)|(with_reducible refine Zav ?_ ?_;(focus (simp (disch:=omega) only [go_sem,e0,e3];done)))|(with_reducible refine Zam ?_ ?_;(focus (simp (disch:=omega) only [go_sem,e0,e3];done))))
     refine⟨k - 1,⟨by omega,by simp (disch:=omega) only [go_sem,e0],by simp (disch:=omega) only [go_sem,e3];rw [Zhx h0],?_,by simp (disch:=omega) only [go_sem,em]⟩,by omega⟩;rw [Zkj h0 hx,ha]
    ·rw [Zh0 h0 hx] at ha;rw [←ha] at h2 hle;rw [h2]
     repeat' (first|with_reducible refine Za6 ?_|with_reducible refine Zak ?_|with_reducible refine Zar ?_|with_reducible refine Za7 ?_|with_reducible refine Zas ?_|with_reducible refine Zap ?_|with_reducible refine Zac ?_|with_reducible refine Zab ?_|with_reducible refine t_in ?_|with_reducible refine Zae ?_|with_reducible refine Zad ?_|with_reducible refine Zaq ?_|with_reducible refine Zaj ?_|(with_reducible refine Za1 ?_;intro K hK;simp (disch:=omega) only [go_sem,e0,e3,em];(repeat (first|(refine⟨by omega,?_⟩)|intro _));refine hK _ ?_;clear K hK)|(with_reducible refine Zav ?_ ?_;(focus (simp (disch:=omega) only [go_sem,e0,e3,em];done)))|(with_reducible refine Zam ?_ ?_;(focus (simp (disch:=omega) only [go_sem,e0,e3,em];done))))
     simp (disch:=omega) only [go_sem]
   ·have hk0:k=0:=by omega
    subst hk0;have h3:Zdj l l.length=0:=ha.symm;rw [h2,h3]
    repeat' (first|with_reducible refine Za6 ?_|with_reducible refine Zak ?_|with_reducible refine Zar ?_|with_reducible refine Za7 ?_|with_reducible refine Zas ?_|with_reducible refine Zap ?_|with_reducible refine Zac ?_|with_reducible refine Zab ?_|with_reducible refine t_in ?_|with_reducible refine Zae ?_|with_reducible refine Zad ?_|with_reducible refine Zaq ?_|with_reducible refine Zaj ?_|(with_reducible refine Za1 ?_;intro K hK;simp (disch:=omega) only [go_sem,e0,e3,em];(repeat (first|(refine⟨by omega,?_⟩)|intro _));refine hK _ ?_;clear K hK)|(with_reducible refine Zav ?_ ?_;(focus (simp (disch:=omega) only [go_sem,e0,e3,em];done)))|(with_reducible refine Zam ?_ ?_;(focus (simp (disch:=omega) only [go_sem,e0,e3,em];done))))
    simp (disch:=omega) only [go_sem]
  ·exact⟨Nat.le_refl _,by simp (disch:=omega) only [go_sem],by simp (disch:=omega) only [go_sem],rfl,by simp (disch:=omega) only [go_sem]⟩
 refine hcode _ (by unfold ints Zcx;rw [List.map_take])
end Go.Proofs.YtimmnimikmnljaaGreat
