/- Contracts of the functions that the law reaches, and the rules by which they are walked. They say what a call hands back for every input within the bounds that each names; no other condition. -/
import Derived.Test.YtjekhacnoopdpaaGreatDoorBz2
set_option linter.unusedSimpArgs false
set_option linter.unusedVariables false
set_option maxRecDepth 20000
set_option maxHeartbeats 16000000
namespace Go.Proofs.YtjekhacnoopdpaaGreatDoor
open Go Go.RowKit Go.Pg
attribute [-bool_to_prop] Bool.and_eq_decide Bool.or_eq_decide Bool.decide_beq_decide decide_eq_decide
attribute [local go_sem] Tryz.underlying41 Tryz.underlying3 Tryz.underlying169 Tryz.underlying192 Tryz.underlying153 Tryz.underlying21 Tryz.underlying9 Tryz.underlying5 Tryz.underlying172 sz3 by3 z3 szL byL zL
theorem Zoq (x:Nat) (hx:x < 65536):Pure Tryz.prog 241 [.v (.int .u16 (x:Int))] (.v (.int .i64 (Zek x:Nat))):=by
 refine Zaa (tok:=0) (rs:=[.tmp 2]) Tryz.func241 rfl Tryz.ntmps241 Tryz.results241 Tryz.call241 (by rfl) (by simp) ?_;by_cases h:256≤x
 ·have b:=Zfn (i:=x/256) (by omega);have e:Zek x=8+len8 (x/256):=if_pos h
  (repeat' (first|(apply Zpq (g:=len8) (n:=256) (by kernel_rfl) (by kernel_rfl) (by omega))|(with_reducible first|refine stp ?_|apply gx1|apply gx2|apply gx3|apply gx4|apply gx5|apply gx6|apply gx7)|(with_reducible refine Zao ?_;intro _)|((with_reducible refine gE ?_);(try simp (disch:=omega) only [go_sem])<;>first|rfl|omega)|with_reducible refine Zab (by decide) ?_))
  simp (disch:=omega) only [go_sem,e,Int.natCast_add,Int.cast_ofNat_Int]
 ·have b:=Zfn (i:=x) (by omega);have e:Zek x=len8 x:=if_neg h
  (repeat' (first|(apply Zpq (g:=len8) (n:=256) (by kernel_rfl) (by kernel_rfl) (by omega))|(with_reducible first|refine stp ?_|apply gx1|apply gx2|apply gx3|apply gx4|apply gx5|apply gx6|apply gx7)|(with_reducible refine Zao ?_;intro _)|((with_reducible refine gE ?_);(try simp (disch:=omega) only [go_sem])<;>first|rfl|omega)|with_reducible refine Zab (by decide) ?_))
  simp (disch:=omega) only [go_sem,e,Int.zero_add]
theorem bitsLz16 (x:Nat) (hx:x < 65536):Pure Tryz.prog 244 [.v (.int .u16 (x:Int))] (.v (.int .i64 ((16 - Zek x:Nat):Int))):=by
 refine Zaa (tok:=0) (rs:=[.tmp 2]) Tryz.func244 rfl Tryz.ntmps244 Tryz.results244 Tryz.call244 (by rfl) (by simp) ?_;have b:=Zhy hx;have w:(16:Int) - (Zek x:Int)=((16 - Zek x:Nat):Int):=by omega
 (focus (refine wkvp (w_1 w) (w_1 (Zoq x hx)) ?_;(repeat' first|exact w_t|apply w_l);all_goals intros));simp (disch:=omega) only [go_sem]
def Zmo (n:Nat):Nat:=if n=0 then 0 else 16*((toL n).length - 1)+Zek (gN (toL n) ((toL n).length - 1))
theorem Zgz {n:Nat}:Zmo n=0↔n=0:=by
 constructor
 ·intro h;unfold Zmo at h;split at h
  ·assumption
  ·rename_i h0;have h1:=Zdt h0;have:=(Zhy (Zbv (Zam n) ((toL n).length - 1))).2 h1.2;omega
 ·rintro rfl;rfl
theorem natBits (l:List Nat) (hs:l.length≤1000000000) (hl:Lm l):Pure Tryz.prog 165 [lim l] (.v (.int .i64 (Zmo (nv l):Nat))):=by
 have h1:=Zaq hl;refine Zaa (tok:=0) (rs:=[.tmp 2]) Tryz.func165 rfl Tryz.ntmps165 Tryz.results165 Tryz.call165 (by rfl) (by simp) ?_;by_cases h0:nv l=0
 ·have h2:=Zbo.2 h0;have h3:=Zgz.2 h0;(focus (refine wkvp (w_1 h2) (w_1 (Zaz l hs hl)) ?_;(repeat' first|exact w_t|apply w_l);all_goals intros));simp (disch:=omega) only [go_sem,h3];rfl
 ·obtain⟨h2,h3⟩:=Zdt h0;have hb:Zmo (nv l)=16*((toL (nv l)).length - 1)+Zek (gN (toL (nv l)) ((toL (nv l)).length - 1)):=if_neg h0;have b:=Zhy (Zbv (Zam (nv l)) ((toL (nv l)).length - 1));have w:(16:Int)*(((toL (nv l)).length:Int) - 1)+(Zek (gN (toL (nv l)) ((toL (nv l)).length - 1)):Nat)=(Zmo (nv l):Nat):=by omega
  (repeat' (first|(with_reducible first|refine stp ?_|apply gx1|apply gx2|apply gx3|apply gx4|apply gx5|apply gx6|apply gx7|refine gw0 (Zaz l hs hl) ?_ ?_|refine gw0 (Zoq (gN (toL (nv l)) ((toL (nv l)).length - 1)) (Zbv (Zam (nv l)) _)) ?_ ?_)|(with_reducible refine Zao ?_;intro _)|((with_reducible refine gE ?_);(try simp (disch:=omega) only [go_sem,w])<;>first|rfl|omega)|with_reducible refine Zab (by decide) ?_))
  simp (disch:=omega) only [go_sem,w]
theorem Znz (a:List Nat) (d:Nat) (ha:a.length≤1000000000) (la:Lm a) (hd0:0 < d) (hd:d < 65536):Pure Tryz.prog 243 [lim a,.v (.int .u16 (d:Int))] (.tup [lim (toL (nv a/d)),.v (.int .u16 ((nv a%d:Nat):Int))]):=by
 refine Zaa (tok:=0) (rs:=[.tmp 4,.tmp 5]) Tryz.func243 rfl Tryz.ntmps243 Tryz.results243 Tryz.call243 (by rfl) (by simp) ?_;(focus (refine wkvp w_t w_t ?_;(repeat' first|exact w_t|apply w_l);all_goals intros));refine Zad (ι:=Nat) (λk e m=>k≤a.length∧(e 0=lim a∧e 1=.v (.int .u16 (d:Int))∧e 8=.v (.int .i64 ((k:Int) - 1)))∧∃sv q r,(e 6=.own 11 sv∧e 7=.v (.int .u32 (r:Nat))∧m 11=some (.row sv 169 1 (u16s q) 0))∧q.length=a.length∧Lm q∧r < d∧(∀j,j < k→gN q j=0)∧nv (a.drop k)=d*nv (q.drop k)+r) (λk=>k) a.length (by rfl) ?_ ?_
 ·rintro k e m ⟨hk,⟨e0,e1,e8⟩,sv,q,r,⟨e6,e7,em⟩,hql,hLq,hr,hz,hv⟩
  by_cases h0:k=0
  ·subst h0;rw [List.drop_zero,List.drop_zero] at hv;have h2:nv a/d=nv q:=by rw [hv,Nat.mul_add_div hd0,Nat.div_eq_of_lt hr,Nat.add_zero]
   have h3:nv a%d=r:=by rw [hv,Nat.mul_add_mod,Nat.mod_eq_of_lt hr]
   (repeat' (first|(with_reducible first|refine stp ?_|apply gx1|apply gx2|apply gx3|apply gx4|apply gx5|apply gx6|apply gx7|apply gw1 (Zaz q (by omega) hLq))|(with_reducible refine Zao ?_;intro _)|((with_reducible refine gE ?_);(try simp (disch:=omega) only [go_sem,e0,e1,e8,e6,e7,em,hql])<;>first|rfl|omega)|with_reducible refine Zab (by decide) ?_))
   simp (disch:=omega) only [go_sem,h2,h3]
  ·have ga:=Zbv la (k - 1);have hd1:=div_step (x:=gN a (k - 1)) rfl hv
   have w1:(r*65536+gN a (k - 1))/d < 65536:=by
    rw [Nat.div_lt_iff_lt_mul hd0];have:(r+1)*65536≤d*65536:=Nat.mul_le_mul_right _ hr;rw [Nat.mul_comm 65536 d];omega
   have w2:(r*65536+gN a (k - 1))%d < d:=Nat.mod_lt _ hd0;have hk1:k - 1+1=k:=by omega
   have hrr:r < 65536:=by omega
   have w3:((r*65536+gN a (k - 1))/d)%65536=(r*65536+gN a (k - 1))/d:=Nat.mod_eq_of_lt w1;(focus (refine wkvp (w_11 e0 e1 e8 e6 e7 em hql @Zc7 @Zec @Zba w3) w_t ?_;(repeat' first|exact w_t|apply w_l);all_goals intros));refine⟨k - 1,⟨by omega,⟨by exact gW e0,by exact gW e1,by(simp (disch:=omega) only [go_sem,e8];congr 2;omega)⟩,sv,_,_,⟨by exact gW e6,by exact gC,by exact gC⟩,by simpa using hql,hLq.set _ w1,w2,λj hj=>?_,?_⟩,by omega⟩
   ·rw [Ze8 (by omega),if_neg (by omega)];exact hz j (by omega)
   ·rw [Zb2,hk1,hd1,Zb2 (q.set _ _),hk1,Ze8 (by omega),if_pos rfl,List.drop_set_of_lt (by omega)]
 ·exact⟨Nat.le_refl _,by exact gC,_,List.replicate a.length 0,0,⟨by exact gC,by exact gC,by exact gC⟩,by simp,Lm.zeros _,hd0,λj hj=>Zgw _ _,by rw [List.drop_eq_nil_of_le (Nat.le_refl _),List.drop_eq_nil_of_le (by simp)];simp [nv]⟩
theorem natUint (l:List Nat) (hs:l.length≤1000000000) (hl:Lm l):Pure Tryz.prog 219 [lim l] (.tup [.v (.int .u64 (if nv l < 18446744073709551616 then (nv l:Int) else 0)),.v (.bool (decide (nv l < 18446744073709551616)))]):=by
 have h1:=Zaq hl;have hk:=Zag (n:=nv l) (k:=4);have va:=Zal (nv l);have ma:=Zam (nv l);refine Zaa (tok:=0) (rs:=[.tmp 2,.tmp 3]) Tryz.func219 rfl Tryz.ntmps219 Tryz.results219 Tryz.call219 (by rfl) (by simp) ?_;by_cases hb:nv l < 18446744073709551616
 ·have h4:=hk.2 hb;generalize hA:toL (nv l)=A at *;(focus (refine wkvp (w_1 hA) (w_1 (Zaz l hs hl)) ?_;(repeat' first|exact w_t|apply w_l);all_goals intros));rw [hA];refine Zad (ι:=Nat) (λk e m=>k≤A.length∧(e 12=lim A∧e 13=.v (.int .i64 A.length)∧e 14=.v (.int .i64 k)∧e 4=.v (.int .u64 (nv (A.take k):Nat)))) (λk=>A.length - k) 0 (by rfl) ?_ ?_
  ·rintro k e m ⟨hk,⟨e12,e13,e14,e4⟩⟩
   have ga:=Zbv ma k;by_cases hlt:k < A.length
   ·have b1:nv (A.take k) < 65536 ^ k:=Nat.lt_of_lt_of_le (Zg5 (ma.take k)) (Nat.pow_le_pow_right (by omega) (by rw [List.length_take];omega));rw [Znm] at b1;have w:=orS_64 (n:=nv (A.take k)) (x:=gN A k) (s:=16*k) b1 (by omega) ga;rw [←Znm,←Zat,Znm] at w
    have w2:shlI .u64 (gN A k:Int) ((16:Int)*(k:Int))=((gN A k*2 ^ (16*k):Nat):Int):=by
     have e:(16:Int)*(k:Int)=((16*k:Nat):Int):=by omega
     rw [e];refine shl_64 (by omega) ?_;have:(2:Nat) ^ (16*k)≤2 ^ 48:=Nat.pow_le_pow_right (by omega) (by omega);have h5:gN A k*2 ^ (16*k)≤65535*2 ^ 48:=Nat.mul_le_mul (by omega) this;omega
    (focus (refine wkvp (w_6 e12 e13 e14 e4 w2 w) w_t ?_;(repeat' first|exact w_t|apply w_l);all_goals intros));exact⟨k+1,⟨by omega,by exact gV (And.intro e12 (And.intro e13 (And.intro e14 e4)))⟩,by omega⟩
   ·rw [Zbi (by omega),va] at e4;(focus (refine wkvp (w_4 e12 e13 e14 e4) w_t ?_;(repeat' first|exact w_t|apply w_l);all_goals intros));simp (disch:=omega) only [go_sem,if_pos hb,decide_eq_true hb]
  ·exact⟨Nat.zero_le _,by exact gC⟩
 ·have h4:4 < (toL (nv l)).length:=by
   rcases Nat.lt_or_ge 4 (toL (nv l)).length with h | h
   ·exact h
   ·exact absurd (hk.1 h) hb
  (focus (refine wkvp w_t (w_1 (Zaz l hs hl)) ?_;(repeat' first|exact w_t|apply w_l);all_goals intros));simp (disch:=omega) only [go_sem,if_neg hb,decide_eq_false hb]
theorem natRight (a:List Nat) (n:Nat) (ha:a.length≤1000000000) (la:Lm a) (hn:n≤1048576):Pure Tryz.prog 291 [lim a,.v (.int .i64 (n:Int))] (lim (toL (nv a/2 ^ n))):=by
 have hns:n=16*(n/16)+n%16:=by omega
 have q1:(n:Int).tdiv 16=((n/16:Nat):Int):=Zc7 n 16;have q2:(n:Int).tmod 16=((n%16:Nat):Int):=Zec n 16;have hs:n%16 < 16:=Nat.mod_lt _ (by omega);rw [hns,Zs4,Zvw la,←hns];generalize n/16=l at *;generalize n%16=s at *;by_cases hl:a.length≤l
 ·have hz:toL (nv (a.drop l)/2 ^ s)=[]:=by rw [List.drop_eq_nil_of_le hl];simp [nv,Zax]
  rw [slN hz];refine Pure.wk (r:=.v (.slice none 0 0)) ?_ (.nil 1);refine Zaa (tok:=0) (rs:=[.tmp 4]) Tryz.func291 rfl Tryz.ntmps291 Tryz.results291 Tryz.call291 (by rfl) (by simp) ?_;(focus (refine wkvp (w_2 q1 q2) w_t ?_;(repeat' first|exact w_t|apply w_l);all_goals intros));simp (disch:=omega) only [go_sem]
 ·have hc:(a.length:Int) - (l:Int)=((a.length - l:Nat):Int):=by omega
  refine Zaa (tok:=0) (rs:=[.tmp 4]) Tryz.func291 rfl Tryz.ntmps291 Tryz.results291 Tryz.call291 (by rfl) (by simp) ?_;(focus (refine wkvp (w_3 q1 q2 hc) w_t ?_;(repeat' first|exact w_t|apply w_l);all_goals intros));refine Zad (ι:=Nat) (λk e m=>k≤a.length - l∧(e 0=lim a∧e 5=.v (.int .i64 (l:Int))∧e 6=.v (.int .i64 (s:Int))∧e 24=.v (.int .i64 (a.length - l:Nat))∧e 25=.v (.int .i64 (k:Int)))∧∃sv o,(e 7=.own 22 sv∧m 22=some (.row sv 169 1 (u16s o) 0))∧o.length=a.length - l∧Lm o∧nv (o.take k)=(nv (a.drop l)/2 ^ s)%65536 ^ k) (λk=>a.length - l - k) 0 (by rfl) ?_ ?_
  ·rintro k e m ⟨hk,⟨e0,e5,e6,e24,e25⟩,sv,o,⟨e7,em⟩,hol,hLo,hv⟩
   by_cases hlt:k < a.length - l
   ·have ga:=Zbv la (k+l);have gb:=Zbv la (k+l+1)
    have hd:((gN a (k+l)+65536*gN a (k+l+1))/2 ^ s)%65536=(nv (a.drop l)/65536 ^ k/2 ^ s)%65536:=by
     rw [Zvw (la.drop l),List.drop_drop,Zb2,Zb2 a (l+k+1),shr_dig (by omega),Nat.add_comm l k]
    have hst:=shr_step hv hd;have w0:((gN a (k+l)+65536*gN a (k+l+1))/2 ^ s)%65536 < 65536:=Nat.mod_lt _ (by omega);have sh:=λx=>shr_32 (x:=x) (s:=s) (by omega);by_cases hmore:k+l+1 < a.length
    ·(repeat' (first|(with_reducible first|refine stp ?_|apply gx1|apply gx2|apply gx3|apply gx4|apply gx5|apply gx6|apply gx7)|(with_reducible refine Zao ?_;intro _)|((with_reducible refine gE ?_);(try simp (disch:=omega) only [go_sem,e0,e5,e6,e24,e25,e7,em,hol,Zas,Zbw,Zba,or16_32',sh])<;>first|rfl|omega)|with_reducible refine Zab (by decide) ?_))
     exact⟨k+1,⟨by omega,by exact gV (And.intro e0 (And.intro e5 (And.intro e6 (And.intro e24 e25)))),sv,_,⟨by exact gW e7,by exact gC⟩,by simpa using hol,hLo.set _ w0,by rw [Zcw (by omega)];exact hst⟩,by omega⟩
    ·have g0:gN a (k+l+1)=0:=Zdy (by omega);simp only [g0,Nat.mul_zero,Nat.add_zero] at hst w0;(focus (refine wkvp (w_12 e0 e5 e6 e24 e25 e7 em hol @Zas @Zbw @Zba sh) w_t ?_;(repeat' first|exact w_t|apply w_l);all_goals intros));exact⟨k+1,⟨by omega,by exact gV (And.intro e0 (And.intro e5 (And.intro e6 (And.intro e24 e25)))),sv,_,⟨by exact gW e7,by exact gC⟩,by simpa using hol,hLo.set _ w0,by rw [Zcw (by omega)];exact hst⟩,by omega⟩
   ·rw [Zbi (by omega)] at hv;have h5:=Zg5 (la.drop l);rw [List.length_drop] at h5;have hk2:k=a.length - l:=by omega
    rw [Nat.mod_eq_of_lt (Nat.lt_of_le_of_lt (Nat.div_le_self _ _) (by rw [hk2];exact h5))] at hv
    (repeat' (first|(with_reducible first|refine stp ?_|apply gx1|apply gx2|apply gx3|apply gx4|apply gx5|apply gx6|apply gx7|apply gw1 (Zaz o (by omega) hLo))|(with_reducible refine Zao ?_;intro _)|((with_reducible refine gE ?_);(try simp (disch:=omega) only [go_sem,e0,e5,e6,e24,e25,e7,em,hol])<;>first|rfl|omega)|with_reducible refine Zab (by decide) ?_))
    simp (disch:=omega) only [go_sem,hv]
  ·exact⟨Nat.zero_le _,by exact gC,_,List.replicate (a.length - l) 0,⟨by exact gC,by exact gC⟩,by simp,Lm.zeros _,by simp [nv,Nat.mod_one]⟩
theorem Zs6 (σ:Mem) (K:Nat) (sv:Value) (l:List Nat) (hs:l.length≤1000000000) (hl:Lm l) (hσ:σ K=some (.row sv 169 1 (u16s l) 0)) :
 ACall Tryz.prog 171 [.own K sv] σ λr σ'=>r=.view K sv 1 0 (toL (nv l)).length∧σ'=σ:=by
 refine Zb1 (tok:=0) (rs:=[.tmp 2]) Tryz.func171 rfl Tryz.ntmps171 Tryz.results171 Tryz.call171 (by rfl) (by simp) ?_;(focus (refine wkvp (w_1 hσ) w_t ?_;(repeat' first|exact w_t|apply w_l);all_goals intros));refine Zad (ι:=Nat) (λk e m=>k≤l.length∧e 0=.own K sv∧e 3=.v (.int .i64 (k:Int))∧m=σ∧∀j,k≤j→gN l j=0) (λk=>k) l.length (by rfl) ?_ ?_
 ·rintro k e m ⟨hk,e0,e3,rfl,hz⟩
  have gl:=Zbv hl (k - 1);have fin:(k=0∨0 < gN l (k - 1))→k=(toL (nv l)).length:=λh=>by
   rw [←Zjs hl hk hz h,List.length_take,Nat.min_eq_left hk]
  by_cases h0:k=0
  ·subst h0;have f:=fin (.inl rfl);(focus (refine wkvp (w_3 e0 e3 hσ) w_t ?_;(repeat' first|exact w_t|apply w_l);all_goals intros));simp (disch:=omega) only [go_sem,←f]
  ·by_cases h1:gN l (k - 1)=0
   ·(focus (refine wkvp (w_3 e0 e3 hσ) w_t ?_;(repeat' first|exact w_t|apply w_l);all_goals intros));exact⟨k - 1,⟨by omega,by exact gW e0,by(simp (disch:=omega) only [go_sem,e3];congr 2;omega),rfl,λj hj=>by
     rcases Nat.lt_or_ge j k with h2 | h2
     ·rw [show j=k - 1 by omega];exact h1
     ·exact hz j h2⟩,by omega⟩
   ·have f:=fin (.inr (by omega));(focus (refine wkvp (w_3 e0 e3 hσ) w_t ?_;(repeat' first|exact w_t|apply w_l);all_goals intros));simp (disch:=omega) only [go_sem,←f,Nat.sub_zero]
 ·exact⟨Nat.le_refl _,by exact gC,by exact gC,rfl,λj hj=>Zdy hj⟩
theorem Znx (σ:Mem) (a:List Nat) (n:Nat) (ha:a.length≤400000000) (la:Lm a) (hn:n≤1048576) (h0:nv a≠0) :
 ACall Tryz.prog 245 [lim a,.v (.int .i64 (n:Int))] σ λr σ'=>∃sv o,r=.view 44 sv 1 0 (toL (nv a*2 ^ n)).length∧σ'=upd σ 44 (some (.row sv 169 1 (u16s o) 0))∧o.length=(toL (nv a)).length+n/16+1∧Lm o∧nv o=nv a*2 ^ n:=by
 have hns:n=16*(n/16)+n%16:=by omega
 have q1:(n:Int).tdiv 16=((n/16:Nat):Int):=Zc7 n 16;have q2:(n:Int).tmod 16=((n%16:Nat):Int):=Zec n 16;have hs:n%16 < 16:=Nat.mod_lt _ (by omega)
 have hnv:nv a*2 ^ n=nv a*2 ^ (n%16)*65536 ^ (n/16):=by
  have:=Zs3 (a:=nv a) (l:=n/16) (s:=n%16)
  rwa [←hns] at this
 have h1:=Zaq la;have h2:=(Zdt h0).1;have va:=Zal (nv a);have ma:=Zam (nv a);have h16:n/16≤65536:=by omega
 clear hns;generalize hl:n/16=l at *;generalize hss:n%16=s at *;generalize hA:toL (nv a)=A at *;refine Zb1 (tok:=0) (rs:=[.tmp 4]) Tryz.func245 rfl Tryz.ntmps245 Tryz.results245 Tryz.call245 (by rfl) (by simp) ?_;(focus (refine wkvp (w_5 q1 q2 hA @Zas @Zbw) (w_1 (Zaz a (by omega) la)) ?_;(repeat' first|exact w_t|apply w_l);all_goals intros));rw [hA];have e1:((A.length+l:Nat):Int)+3=((A.length+l+3:Nat):Int):=by omega
 (focus (refine wkvp (w_4 hA @Zas @Zbw e1) w_t ?_;(repeat' first|exact w_t|apply w_l);all_goals intros));refine Zad (ι:=Nat) (λk e m=>k≤A.length∧(e 5=.v (.int .i64 (l:Int))∧e 6=.v (.int .i64 (s:Int))∧e 45=lim A∧e 46=.v (.int .i64 A.length)∧e 47=.v (.int .i64 (k:Int)))∧∃sv o,(e 7=.own 44 sv∧m=upd σ 44 (some (.row sv 169 1 (u16s o) 0)))∧o.length=A.length+l+1∧Lm o∧gN o (k+l) < 2 ^ s∧(∀j,k+l < j→gN o j=0)∧nv o=nv (A.take k)*2 ^ s*65536 ^ l) (λk=>A.length - k) 0 (by rfl) ?_ ?_
 ·rintro k e m ⟨hk,⟨e5,e6,e45,e46,e47⟩,sv,o,⟨e7,rfl⟩,hol,hLo,hg,hz,hv⟩
  by_cases hlt:k < A.length
  ·have gx:=Zbv ma k
   have p16:(2:Nat) ^ s≤32768:=by
    have:(2:Nat) ^ s≤2 ^ 15:=Nat.pow_le_pow_right (by omega) (by omega);omega
   have bx:gN A k*2 ^ s≤65535*32768:=Nat.mul_le_mul (by omega) p16;have sh:=shl_32 (x:=gN A k) (s:=s) (by omega) (by omega);have lo:=low_mul (x:=gN A k) (s:=s) (by omega);have hlo:(gN A k*2 ^ s)%65536 < 65536:=Nat.mod_lt _ (by omega);rw [lo] at hlo;have hor:=or_16 (b:=gN o (k+l)) (by omega) hg hlo;rw [←lo] at hor
   have hhi:gN A k*2 ^ s/65536 < 2 ^ s:=by
    rw [Nat.div_lt_iff_lt_mul (by omega),Nat.mul_comm];exact Nat.mul_lt_mul_of_pos_left gx (Nat.two_pow_pos s)
   have hsum:gN o (k+l)+(gN A k*2 ^ s)%65536 < 65536:=by
    rw [lo];have h5:(gN A k%2 ^ (16 - s)+1)*2 ^ s≤2 ^ (16 - s)*2 ^ s:=Nat.mul_le_mul_right _ (Nat.mod_lt _ (Nat.two_pow_pos _));rw [←Nat.pow_add,Nat.sub_add_cancel (by omega),Nat.add_mul,Nat.one_mul] at h5;omega
   have hcut:gN A k*2 ^ s/65536%65536=gN A k*2 ^ s/65536:=Nat.mod_eq_of_lt (by omega);(focus (refine wkvp (w_14 e5 e6 e45 e46 e47 e7 hol @Zas @Zbw @Zba sh hor hcut @Zel) w_t ?_;(repeat' first|exact w_t|apply w_l);all_goals intros));refine⟨k+1,⟨by omega,by exact gV (And.intro e5 (And.intro e6 (And.intro e45 (And.intro e46 e47)))),sv,_,⟨by exact gW e7,by(simp (disch:=omega) only [go_sem,Zhb]<;>repeat' first|rfl|refine⟨?_,?_⟩)⟩,by simpa using hol,(hLo.set _ hsum).set _ (by omega),?_,λj hj=>?_,?_⟩,by omega⟩
   ·rw [Ze8 (by simp;omega),if_pos (by omega)];exact hhi
   ·rw [Ze8 (by simp;omega),if_neg (by omega),Ze8 (by omega),if_neg (by omega)];exact hz j (by omega)
   ·have h3:=Znv (o:=o) (j:=k+l) (by omega) (gN o (k+l)+(gN A k*2 ^ s)%65536);have h4:=Znv (o:=o.set (k+l) (gN o (k+l)+(gN A k*2 ^ s)%65536)) (j:=k+l+1) (by simp;omega) (gN A k*2 ^ s/65536);rw [Ze8 (by omega),if_neg (by omega),hz (k+l+1) (by omega),Nat.mul_zero,Nat.add_zero] at h4;rw [h4,Zat,Nat.add_mul,Nat.add_mul,←hv]
    have h5:65536 ^ (k+l)*(gN A k*2 ^ s%65536)+65536 ^ (k+l+1)*(gN A k*2 ^ s/65536)=65536 ^ k*gN A k*2 ^ s*65536 ^ l:=by
     rw [Nat.pow_succ,Nat.mul_assoc (65536 ^ (k+l)),←Nat.mul_add,Nat.mod_add_div,Nat.pow_add];simp only [Nat.mul_assoc,Nat.mul_left_comm,Nat.mul_comm]
    rw [Nat.mul_add] at h3;omega
  ·have hkA:k=A.length:=by omega
   subst hkA;rw [Zbi (Nat.le_refl _),va,←hnv] at hv;have ct:=Zs6 (upd σ 44 (some (.row sv 169 1 (u16s o) 0))) 44 sv o (by omega) hLo (by simp only [Zac,if_true]);rw [hv] at ct
   (repeat' (first|(with_reducible first|refine stp ?_|apply gx1|apply gx2|apply gx3|apply gx4|apply gx5|apply gx6|apply gx7|refine Zbj (ct) ?_)|(with_reducible refine Zao ?_;intro _)|((with_reducible refine gE ?_);(try simp (disch:=omega) only [go_sem,e5,e6,e45,e46,e47,e7])<;>first|rfl|omega)|with_reducible refine Zab (by decide) ?_))
   simp (disch:=omega) only [go_sem];exact⟨sv,o,rfl,rfl,hol,hLo,hv⟩
 ·refine⟨Nat.zero_le _,by exact gC,_,List.replicate (A.length+l+1) 0,⟨by exact gC,by exact gC⟩,by simp,Lm.zeros _,?_,λj _=>Zgw _ _,by simp [nv,Zl2]⟩;rw [Zgw];exact Nat.two_pow_pos s
theorem natShl (a:List Nat) (n:Nat) (ha:a.length≤400000000) (la:Lm a) (hn:n≤1048576):Pure Tryz.prog 245 [lim a,.v (.int .i64 (n:Int))] (lim (toL (nv a*2 ^ n))):=by
 by_cases h0:nv a=0
 ·have h2:=Zbo.2 h0;rw [slN (show toL (nv a*2 ^ n)=[] by rw [h0,Nat.zero_mul,Zax])];refine Pure.wk (r:=.v (.slice none 0 0)) ?_ (.nil 1);refine Zaa (tok:=0) (rs:=[.tmp 4]) Tryz.func245 rfl Tryz.ntmps245 Tryz.results245 Tryz.call245 (by rfl) (by simp) ?_;(focus (refine wkvp (w_1 h2) (w_1 (Zaz a (by omega) la)) ?_;(repeat' first|exact w_t|apply w_l);all_goals intros));simp (disch:=omega) only [go_sem]
 ·refine Zly (Znx Zai a n ha la hn h0) λr σ' ⟨sv,o,hr,hσ,hol,hLo,hv⟩=>?_;subst hr;subst hσ;have hlen:=Zaq hLo;rw [hv] at hlen;refine⟨by simp (disch:=omega) only [go_sem],?_⟩;simp (disch:=omega) only [go_sem,Nat.zero_add];obtain⟨k,h1,h2⟩:=Zlc hLo;rw [hv] at h2;have h3:k=(toL (nv a*2 ^ n)).length:=by rw [←h2,List.length_take];omega
  rw [←h3,h2]
theorem natShr (a:List Nat) (n:Nat) (ha:a.length≤400000000) (la:Lm a) (h0:0 < n) (hn:n≤1048576):Pure Tryz.prog 245 [lim a,.v (.int .i64 (-(n:Int)))] (lim (toL (nv a/2 ^ n))):=by
 by_cases hz:nv a=0
 ·have h2:=Zbo.2 hz;rw [slN (show toL (nv a/2 ^ n)=[] by rw [hz,Nat.zero_div,Zax])];refine Pure.wk (r:=.v (.slice none 0 0)) ?_ (.nil 1);refine Zaa (tok:=0) (rs:=[.tmp 4]) Tryz.func245 rfl Tryz.ntmps245 Tryz.results245 Tryz.call245 (by rfl) (by simp) ?_;(focus (refine wkvp (w_1 h2) (w_1 (Zaz a (by omega) la)) ?_;(repeat' first|exact w_t|apply w_l);all_goals intros));simp (disch:=omega) only [go_sem]
 ·have h2:=(Zdt hz).1;have h1:=Zaq la;have hr:=natRight (toL (nv a)) n (by omega) (Zam _) hn;rw [Zal] at hr;have w:(0:Int) - -(n:Int)=(n:Int):=by omega
  refine Zaa (tok:=0) (rs:=[.tmp 4]) Tryz.func245 rfl Tryz.ntmps245 Tryz.results245 Tryz.call245 (by rfl) (by simp) ?_;(focus (refine wkvp (w_1 w) (w_2 (Zaz a (by omega) la) hr) ?_;(repeat' first|exact w_t|apply w_l);all_goals intros));simp (disch:=omega) only [go_sem]
theorem Zpt (σ:Mem) (K:Nat) (sv:Value) (pre w post v:List Nat) (d:Nat) (hσ:σ K=some (.row sv 169 1 (u16s (pre++(w++post))) 0)) (hwv:w.length=v.length+1) (hsz:(pre++(w++post)).length≤1000000000) (lw:Lm w) (lv:Lm v) (hd:d < 65536) :
 ACall Tryz.prog 293 [.view K sv 1 pre.length w.length,lim v,.v (.int .u32 (d:Int))] σ λr σ'=>∃(w':List Nat) (b:Nat),r=.v (.bool (decide (0 < (b:Int))))∧σ'=upd σ K (some (.row sv 169 1 (u16s (pre++(w'++post))) 0))∧w'.length=w.length∧Lm w'∧b≤1∧nv w'+d*nv v=nv w+65536 ^ w.length*b:=by
 have hsz2:pre.length+(w.length+post.length)≤1000000000:=by simpa using hsz
 refine Zb1 (tok:=0) (rs:=[.tmp 6]) Tryz.func293 rfl Tryz.ntmps293 Tryz.results293 Tryz.call293 (by rfl) (by simp) ?_;(focus (refine wkvp w_t w_t ?_;(repeat' first|exact w_t|apply w_l);all_goals intros));refine Zad (ι:=Nat) (λk e m=>k≤w.length∧(e 0=.view K sv 1 pre.length w.length∧e 1=lim v∧e 2=.v (.int .u32 (d:Int))∧e 12=.v (.int .i64 w.length)∧e 13=.v (.int .i64 (k:Int)))∧∃w' c r,(e 7=.v (.int .u32 (c:Nat))∧e 8=.v (.int .i32 (r:Nat))∧m=upd σ K (some (.row sv 169 1 (u16s (pre++(w'++post))) 0)))∧w'.length=w.length∧Lm w'∧c < 65536∧(v.length < k→c=0)∧r≤1∧(∀j,k≤j→gN w' j=gN w j)∧nv (w'.take k)+d*nv (v.take k)=nv (w.take k)+65536 ^ k*(c+r)) (λk=>w.length - k) 0 (by rfl) ?_ ?_
 ·rintro k e m ⟨hk,⟨e0,e1,e2,e12,e13⟩,w',c,r,⟨e7,e8,rfl⟩,hwl,hLw,hc,hcz,hr,hsame,hv⟩
  by_cases hlt:k < w.length
  ·have gw:=Zbv lw k;have gv:=Zbv lv k;have hgw:=hsame k (Nat.le_refl _);have mid:=gN_mid (pre:=pre) (post:=post) (show k < w'.length by omega);have smid:=λx=>Zug (pre:=pre) (post:=post) (show k < w'.length by omega) x;have hln:(pre++(w'++post)).length=pre.length+(w'.length+post.length):=by simp
   have bd:=Zn2 hd gv;have step:∀(x r' c1:Nat),c1=c+d*gN v k→x+c1%65536+r=gN w k+65536*r'→x < 65536→r'≤1 →
    (w'.set k x).length=w.length∧Lm (w'.set k x)∧c1/65536 < 65536∧(v.length < k+1→c1/65536=0)∧r'≤1∧(∀j,k+1≤j→gN (w'.set k x) j=gN w j)∧nv ((w'.set k x).take (k+1))+d*nv (v.take (k+1))=nv (w.take (k+1))+65536 ^ (k+1)*(c1/65536+r'):=by
    intro x r' c1 h1 h2 h3 h4;have h5:=Zo3 hv h1 h2;refine⟨by simpa using hwl,hLw.set k h3,by omega,λh6=>?_,h4,λj hj=>?_,?_⟩
    ·have:gN v k=0:=Zdy (by omega);rw [this,Nat.mul_zero] at h1;omega
    ·rw [Ze8 (by omega),if_neg (by omega)];exact hsame j (by omega)
    ·rw [Zcw (by omega),Zat,Zat,Nat.pow_succ];exact h5
   by_cases hkv:k < v.length
   ·generalize hxy:d*gN v k=xy at *;by_cases hneg:gN w k < (c+xy)%65536+r
    ·have hs:=step (gN w k+65536 - (c+xy)%65536 - r) 1 (c+xy) rfl (by omega) (by omega) (by omega);have wv:(gN w k:Int) - ((c+xy)%65536:Nat) - r+65536=((gN w k+65536 - (c+xy)%65536 - r:Nat):Int):=by omega
     have wm:(gN w k+65536 - (c+xy)%65536 - r)%65536=gN w k+65536 - (c+xy)%65536 - r:=Nat.mod_eq_of_lt (by omega);(focus (refine wkvp (w_18 e0 e1 e2 e12 e13 e7 e8 hln hwl mid smid hgw @Zas @Zef @Zba hxy wv wm) w_t ?_;(repeat' first|exact w_t|apply w_l);all_goals intros));exact⟨k+1,⟨by omega,by exact gV (And.intro e0 (And.intro e1 (And.intro e2 (And.intro e12 e13)))),_,_,1,⟨by exact gC,by exact gC,by(simp (disch:=omega) only [go_sem,Zhb]<;>repeat' first|rfl|refine⟨?_,?_⟩)⟩,hs⟩,by omega⟩
    ·have hs:=step (gN w k - (c+xy)%65536 - r) 0 (c+xy) rfl (by omega) (by omega) (by omega);have wv:(gN w k:Int) - ((c+xy)%65536:Nat) - r=((gN w k - (c+xy)%65536 - r:Nat):Int):=by omega
     have wm:(gN w k - (c+xy)%65536 - r)%65536=gN w k - (c+xy)%65536 - r:=Nat.mod_eq_of_lt (by omega);(focus (refine wkvp (w_18 e0 e1 e2 e12 e13 e7 e8 hln hwl mid smid hgw @Zas @Zef @Zba hxy wv wm) w_t ?_;(repeat' first|exact w_t|apply w_l);all_goals intros));exact⟨k+1,⟨by omega,by exact gV (And.intro e0 (And.intro e1 (And.intro e2 (And.intro e12 e13)))),_,_,0,⟨by exact gC,by exact gC,by(simp (disch:=omega) only [go_sem,Zhb]<;>repeat' first|rfl|refine⟨?_,?_⟩)⟩,hs⟩,by omega⟩
   ·have g0:gN v k=0:=Zdy (by omega);have hcm:c%65536=c:=Nat.mod_eq_of_lt hc;simp only [g0,Nat.mul_zero,Nat.add_zero] at step;by_cases hneg:gN w k < c+r
    ·have hs:=step (gN w k+65536 - c - r) 1 c rfl (by omega) (by omega) (by omega);have wv:(gN w k:Int) - (c:Nat) - r+65536=((gN w k+65536 - c - r:Nat):Int):=by omega
     have wm:(gN w k+65536 - c - r)%65536=gN w k+65536 - c - r:=Nat.mod_eq_of_lt (by omega);(focus (refine wkvp (w_16 e0 e1 e2 e12 e13 e7 e8 hln hwl mid smid hgw @Zba hcm wv wm) w_t ?_;(repeat' first|exact w_t|apply w_l);all_goals intros));exact⟨k+1,⟨by omega,by exact gV (And.intro e0 (And.intro e1 (And.intro e2 (And.intro e12 e13)))),_,_,1,⟨by exact gC,by exact gC,by(simp (disch:=omega) only [go_sem,Zhb]<;>repeat' first|rfl|refine⟨?_,?_⟩)⟩,hs⟩,by omega⟩
    ·have hs:=step (gN w k - c - r) 0 c rfl (by omega) (by omega) (by omega);have wv:(gN w k:Int) - (c:Nat) - r=((gN w k - c - r:Nat):Int):=by omega
     have wm:(gN w k - c - r)%65536=gN w k - c - r:=Nat.mod_eq_of_lt (by omega);(focus (refine wkvp (w_16 e0 e1 e2 e12 e13 e7 e8 hln hwl mid smid hgw @Zba hcm wv wm) w_t ?_;(repeat' first|exact w_t|apply w_l);all_goals intros));exact⟨k+1,⟨by omega,by exact gV (And.intro e0 (And.intro e1 (And.intro e2 (And.intro e12 e13)))),_,_,0,⟨by exact gC,by exact gC,by(simp (disch:=omega) only [go_sem,Zhb]<;>repeat' first|rfl|refine⟨?_,?_⟩)⟩,hs⟩,by omega⟩
  ·have hkw:k=w.length:=by omega
   subst hkw;have hc0:=hcz (by omega);subst hc0;rw [Zbi (by omega),Zbi (by omega),Zbi (Nat.le_refl _),Nat.zero_add] at hv;(focus (refine wkvp (w_7 e0 e1 e2 e12 e13 e7 e8) w_t ?_;(repeat' first|exact w_t|apply w_l);all_goals intros));simp (disch:=omega) only [go_sem];refine⟨w',r,?_,?_,hwl,hLw,hr,hv⟩<;>rfl
 ·exact⟨Nat.zero_le _,by exact gC,w,0,0,⟨by exact gC,by exact gC,by rw [Zqj hσ]⟩,rfl,lw,by omega,λ_=>rfl,by omega,λ_ _=>rfl,by simp [nv]⟩
theorem Zs7 (σ:Mem) (K:Nat) (sv:Value) (pre w post v:List Nat) (hσ:σ K=some (.row sv 169 1 (u16s (pre++(w++post))) 0)) (hwv:v.length≤w.length) (hsz:(pre++(w++post)).length≤1000000000) (lw:Lm w) (lv:Lm v) :
 ACall Tryz.prog 294 [.view K sv 1 pre.length w.length,lim v] σ λr σ'=>∃(w':List Nat) (c:Nat),r=.tup []∧σ'=upd σ K (some (.row sv 169 1 (u16s (pre++(w'++post))) 0))∧w'.length=w.length∧Lm w'∧c≤1∧nv w'+65536 ^ w.length*c=nv w+nv v:=by
 have hsz2:pre.length+(w.length+post.length)≤1000000000:=by simpa using hsz
 refine Zb1 (tok:=0) (rs:=[]) Tryz.func294 rfl Tryz.ntmps294 Tryz.results294 Tryz.call294 (by rfl) (by simp) ?_;(focus (refine wkvp w_t w_t ?_;(repeat' first|exact w_t|apply w_l);all_goals intros));refine Zad (ι:=Nat) (λk e m=>k≤w.length∧(e 0=.view K sv 1 pre.length w.length∧e 1=lim v∧e 7=.v (.int .i64 w.length)∧e 8=.v (.int .i64 (k:Int)))∧∃w' c,(e 4=.v (.int .u32 (c:Nat))∧m=upd σ K (some (.row sv 169 1 (u16s (pre++(w'++post))) 0)))∧w'.length=w.length∧Lm w'∧c≤1∧(∀j,k≤j→gN w' j=gN w j)∧nv (w'.take k)+65536 ^ k*c=nv (w.take k)+nv (v.take k)) (λk=>w.length - k) 0 (by rfl) ?_ ?_
 ·rintro k e m ⟨hk,⟨e0,e1,e7,e8⟩,w',c,⟨e4,rfl⟩,hwl,hLw,hc,hsame,hv⟩
  by_cases hlt:k < w.length
  ·have gw:=Zbv lw k;have gv:=Zbv lv k;have hgw:=hsame k (Nat.le_refl _);have mid:=gN_mid (pre:=pre) (post:=post) (show k < w'.length by omega);have smid:=λx=>Zug (pre:=pre) (post:=post) (show k < w'.length by omega) x;have hln:(pre++(w'++post)).length=pre.length+(w'.length+post.length):=by simp
   have hs:=Zms (x:=gN w k) (y:=gN v k) hv;have w1:(c+gN w k+gN v k)/65536≤1:=by omega
   have w2:(c+gN w k+gN v k)%65536 < 65536:=by omega
   have hsm:∀x j,k+1≤j→gN (w'.set k x) j=gN w j:=λx j hj=>by
    rw [Ze8 (by omega),if_neg (by omega)];exact hsame j (by omega)
   rw [←Zcw (o:=w') (by omega),←Nat.pow_succ,←Zat,←Zat] at hs;by_cases hkv:k < v.length
   ·(focus (refine wkvp (w_12 e0 e1 e7 e8 e4 hln hwl mid smid hgw @Zas @Zba) w_t ?_;(repeat' first|exact w_t|apply w_l);all_goals intros));exact⟨k+1,⟨by omega,by exact gV (And.intro e0 (And.intro e1 (And.intro e7 e8))),_,_,⟨by exact gC,by(simp (disch:=omega) only [go_sem,Zhb]<;>repeat' first|rfl|refine⟨?_,?_⟩)⟩,by simpa using hwl,hLw.set k w2,w1,hsm _,hs⟩,by omega⟩
   ·have g0:gN v k=0:=Zdy (by omega);simp only [g0,Nat.add_zero] at hs w1 w2;(focus (refine wkvp (w_12 e0 e1 e7 e8 e4 hln hwl mid smid hgw @Zas @Zba) w_t ?_;(repeat' first|exact w_t|apply w_l);all_goals intros));exact⟨k+1,⟨by omega,by exact gV (And.intro e0 (And.intro e1 (And.intro e7 e8))),_,_,⟨by exact gC,by(simp (disch:=omega) only [go_sem,Zhb]<;>repeat' first|rfl|refine⟨?_,?_⟩)⟩,by simpa using hwl,hLw.set k w2,w1,hsm _,hs⟩,by omega⟩
  ·have hkw:k=w.length:=by omega
   subst hkw;rw [Zbi (by omega),Zbi (Nat.le_refl _),Zbi hwv] at hv;(focus (refine wkvp (w_5 e0 e1 e7 e8 e4) w_t ?_;(repeat' first|exact w_t|apply w_l);all_goals intros));simp (disch:=omega) only [go_sem];refine⟨w',c,?_,hwl,hLw,hc,hv⟩<;>rfl
 ·exact⟨Nat.zero_le _,by exact gC,w,0,⟨by exact gC,by rw [Zqj hσ]⟩,rfl,lw,by omega,λ_ _=>rfl,by simp [nv]⟩
theorem Zps (σ:Mem) (sv:Value) (g2 g3 g5 g7 g9 g10:Nat) (U post v:List Nat) (d r j:Nat) (h2:σ 2=some (.box g2 41 [.view 44 sv 1 0 U.length] false)) (h3:σ 3=some (.box g3 41 [lim v] false)) (h5:σ 5=some (.box g5 3 [.v (.int .i64 v.length)] false))
 (h7:σ 7=some (.box g7 3 [.v (.int .i64 (j:Int))] false)) (h9:σ 9=some (.box g9 153 [.v (.int .u64 (d:Int))] false)) (h10:σ 10=some (.box g10 153 [.v (.int .u64 (r:Int))] false)) (h44:σ 44=some (.row sv 169 1 (u16s (U++post)) 0))
 (hn:2≤v.length) (hj:j+v.length < U.length) (hsz:U.length+post.length≤1000000000) (lv:Lm v) (lU:Lm U) (hr:r < 65536) :
 ACall Tryz.prog 292 [.pbox 9 g9 0,.pbox 3 g3 0,.pbox 5 g5 0,.pbox 10 g10 0,.pbox 2 g2 0,.pbox 7 g7 0] σ λx σ'=>x=.v (.bool (decide (65536≤d) || decide (r*65536+gN U (j+v.length - 2) < d*gN v (v.length - 2))))∧σ'=σ:=by
 refine Zb1 (tok:=0) (rs:=[.tmp 6]) Tryz.func292 rfl Tryz.ntmps292 Tryz.results292 Tryz.call292 (by rfl) (by simp) ?_;by_cases hd:65536≤d
 ·(focus (refine wkvd (w_7 h2 h3 h5 h7 h9 h10 h44) w_t w_t ?_;(repeat' first|exact w_t|apply w_l);all_goals intros));simp (disch:=omega) only [go_sem,decide_eq_true hd]
 ·have gv:=Zbv lv (v.length - 2);have gu:=Zbv lU (j+v.length - 2);have bd:=Zn2 (x:=d) (by omega) gv;have e1:(v.length:Int) - 2=((v.length - 2:Nat):Int):=by omega
  have e2:((j+v.length:Nat):Int) - 2=((j+v.length - 2:Nat):Int):=by omega
  have hg:gN (U++post) (j+v.length - 2)=gN U (j+v.length - 2):=Zp7 (by omega);have hl:(U++post).length=U.length+post.length:=List.length_append;generalize hxy:d*gN v (v.length - 2)=xy at *;by_cases ht:r*65536+gN U (j+v.length - 2) < xy
  ·(focus (refine wkvd (w_15 h2 h3 h5 h7 h9 h10 h44 e1 e2 hg hl @Zas @Zef hxy @Nat.zero_add) w_t w_t ?_;(repeat' first|exact w_t|apply w_l);all_goals intros));simp (disch:=omega) only [go_sem,decide_eq_true ht]
  ·(focus (refine wkvd (w_15 h2 h3 h5 h7 h9 h10 h44 e1 e2 hg hl @Zas @Zef hxy @Nat.zero_add) w_t w_t ?_;(repeat' first|exact w_t|apply w_l);all_goals intros));simp (disch:=omega) only [go_sem,decide_eq_false hd,decide_eq_false ht]
attribute [local go_sem] szQ zQ
theorem Zda {P:Program} {t d f:Nat} {args:List AV} {K:St→Prop} {e:Nat→AV} {m:Mem} {R:AV→Mem→Prop} (c:ACall P f args m R) (h:∀r σ',R r σ'→K ⟨upd e d r,σ'⟩):aRes P t (some d) (.call f args) K ⟨e,m⟩:=c.mono h
theorem Znw {σ:Mem} {K:Nat} {sv:Value} {pre w post v:List Nat} {d i len:Nat} (hi:pre.length=i) (hw:w.length=len) (hσ:σ K=some (.row sv 169 1 (u16s (pre++(w++post))) 0)) (hwv:len=v.length+1) (hsz:(pre++(w++post)).length≤1000000000) (lw:Lm w) (lv:Lm v) (hd:d < 65536) :
 ACall Tryz.prog 293 [.view K sv 1 i len,lim v,.v (.int .u32 (d:Int))] σ λr σ'=>∃(w':List Nat) (b:Nat),r=.v (.bool (decide (0 < (b:Int))))∧σ'=upd σ K (some (.row sv 169 1 (u16s (pre++(w'++post))) 0))∧w'.length=len∧Lm w'∧b≤1∧nv w'+d*nv v=nv w+65536 ^ len*b:=by
 subst hi;subst hw;exact Zpt σ K sv pre w post v d hσ hwv hsz lw lv hd
theorem Zpu {σ:Mem} {K:Nat} {sv:Value} {pre w post v:List Nat} {i len:Nat} (hi:pre.length=i) (hw:w.length=len) (hσ:σ K=some (.row sv 169 1 (u16s (pre++(w++post))) 0)) (hwv:v.length≤len) (hsz:(pre++(w++post)).length≤1000000000) (lw:Lm w) (lv:Lm v) :
 ACall Tryz.prog 294 [.view K sv 1 i len,lim v] σ λr σ'=>∃(w':List Nat) (c:Nat),r=.tup []∧σ'=upd σ K (some (.row sv 169 1 (u16s (pre++(w'++post))) 0))∧w'.length=len∧Lm w'∧c≤1∧nv w'+65536 ^ len*c=nv w+nv v:=by
 subst hi;subst hw;exact Zs7 σ K sv pre w post v hσ hwv hsz lw lv
structure LongInv (U v q U':List Nat) (k:Nat):Prop where
 ql:q.length=U.length - v.length
 qL:Lm q
 qz:∀j,j < k→gN q j=0
 ul:U'.length=U.length
 uL:Lm U'
 eq:nv U'+nv v*nv (q.drop k)*65536 ^ k=nv U
 lt:nv (U'.drop k) < nv v
theorem LongInv.step {U v q U' w'':List Nat} {j n:Nat} (h:LongInv U v q U' (j+1)) (hn:v.length=n) (lv:Lm v) (hj:j+n < U.length) (hw:w''.length=n+1) (hwL:Lm w'')
 (hwv:nv w''=nv ((U'.drop j).take (n+1))%nv v) (hd:nv ((U'.drop j).take (n+1))/nv v < 65536) :
 LongInv U v (q.set j (nv ((U'.drop j).take (n+1))/nv v)) (U'.take j++(w''++U'.drop (j+n+1))) j:=by
 have hV:0 < nv v:=Nat.lt_of_le_of_lt (Nat.zero_le _) h.lt;have hz:=drop_zero lv hn h.lt;rw [List.drop_drop,show j+1+n=j+n+1 by omega] at hz;have hql:=h.ql;have hul:=h.ul;have hlj:(U'.take j).length=j:=by rw [List.length_take];omega
 have hj1:nv (U'.drop j)=nv ((U'.drop j).take (n+1)):=by
  have:=Zbz (U'.drop j) (n+1);rw [List.drop_drop,show j+(n+1)=j+n+1 by omega,hz] at this;omega
 have hw2:nv (w''++U'.drop (j+n+1))=nv w'':=by rw [Zdb,hz];omega
 have hdr:nv ((U'.take j++(w''++U'.drop (j+n+1))).drop j)=nv w'':=by
  rw [List.drop_append_of_le_length (by omega),List.drop_eq_nil_of_le (by omega),List.nil_append,hw2]
 refine⟨by simpa using hql,h.qL.set j hd,λi hi=>?_,by simp;omega,(h.uL.take j).append (hwL.append (h.uL.drop _)),?_,by rw [hdr,hwv];exact Nat.mod_lt _ hV⟩
 ·rw [Ze8 (by omega),if_neg (by omega)];exact h.qz i (by omega)
 ·have h1:=h.eq;have h2:=Zbz U' j;have h3:=Nat.div_add_mod (nv ((U'.drop j).take (n+1))) (nv v);rw [Zdb,hlj,hw2,hwv,Zb2 (q.set j _),Ze8 (by omega),if_pos rfl,List.drop_set_of_lt (by omega)];rw [←h1,h2,hj1,Nat.mul_add,Nat.add_mul,Nat.pow_succ];generalize nv ((U'.drop j).take (n+1))=W at *;generalize nv (q.drop (j+1))=Q at *
  have e1:nv v*(W/nv v)*65536 ^ j+65536 ^ j*(W%nv v)=65536 ^ j*W:=by
   rw [Nat.mul_comm (nv v*(W/nv v)),←Nat.mul_add,h3]
  have e2:nv v*(65536*Q)*65536 ^ j=nv v*Q*(65536 ^ j*65536):=by
   simp only [Nat.mul_assoc,Nat.mul_left_comm,Nat.mul_comm]
  omega
theorem natLong (σ:Mem) (sv:Value) (U post v:List Nat) (n:Nat) (hvn:v.length=n) (h44:σ 44=some (.row sv 169 1 (u16s (U++post)) 0)) (hn:2≤n) (hlen:n < U.length) (hsz:U.length+post.length≤1000000000) (lU:Lm U) (lp:Lm post) (lv:Lm v)
 (hvt:0 < gN v (n - 1)) (hlt:nv (U.drop (U.length - n)) < nv v) :
 ACall Tryz.prog 246 [.view 44 sv 1 0 U.length,lim v] σ λr σ'=>∃U':List Nat,r=lim (toL (nv U/nv v))∧σ' 44=some (.row sv 169 1 (u16s (U'++post)) 0)∧U'.length=U.length∧Lm U'∧nv U'=nv U%nv v:=by
 have hc:(U.length:Int) - (n:Int)=((U.length - n:Nat):Int):=by omega
 refine Zb1 (tok:=0) (rs:=[.tmp 4]) Tryz.func246 rfl Tryz.ntmps246 Tryz.results246 Tryz.call246 (by rfl) (by simp) ?_;(focus (refine wkvp (w_2 hvn hc) w_t ?_;(repeat' first|exact w_t|apply w_l);all_goals intros));refine Zad (ι:=Nat) (λk e m=>k≤U.length - n∧∃g2 g3 g5 g7 svo q U',(e 2=.pbox 2 g2 0∧e 3=.pbox 3 g3 0∧e 5=.pbox 5 g5 0∧e 6=.own 18 svo∧e 7=.pbox 7 g7 0)∧m 2=some (.box g2 41 [.view 44 sv 1 0 U.length] false)∧m 3=some (.box g3 41 [lim v] false)∧m 5=some (.box g5 3 [.v (.int .i64 n)] false)∧m 7=some (.box g7 3 [.v (.int .i64 ((k:Int) - 1))] false) ∧
  m 18=some (.row svo 169 1 (u16s q) 0)∧m 44=some (.row sv 169 1 (u16s (U'++post)) 0)∧LongInv U v q U' k) (λk=>k) (U.length - n) (by rfl) ?_ ?_
 ·rintro k e m ⟨hk,g2,g3,g5,g7,svo,q,U',⟨e2,e3,e5,e6,e7⟩,m2,m3,m5,m7,m18,m44,inv⟩
  have hql:=inv.ql;rw [hvn] at hql;have hul:=inv.ul;rcases Nat.eq_zero_or_pos k with h0 | h0
  ·subst h0;have h1:=inv.eq;have h2:=inv.lt;rw [List.drop_zero] at h1 h2;rw [Nat.pow_zero,Nat.mul_one] at h1;have hq:nv U/nv v=nv q:=by rw [←h1,Nat.add_comm,Nat.mul_add_div (by omega),Nat.div_eq_of_lt h2,Nat.add_zero]
   have hr:nv U'=nv U%nv v:=by rw [←h1,Nat.add_comm,Nat.mul_add_mod,Nat.mod_eq_of_lt h2]
   (repeat' (first|(with_reducible first|refine stp ?_|apply gx1|apply gx2|apply gx3|apply gx4|apply gx5|apply gx6|apply gx7|apply gw1 (Zaz q (by omega) inv.qL))|(with_reducible refine Zao ?_;intro _)|((with_reducible refine gE ?_);(try simp (disch:=omega) only [go_sem,e2,e3,e5,e6,e7,m2,m3,m5,m7,m18,m44])<;>first|rfl|omega)|with_reducible refine Zab (by decide) ?_))
   simp (disch:=omega) only [go_sem,hq];refine⟨U',?_,hul,inv.uL,hr⟩;simp (disch:=omega) only [go_sem,m44]
  ·obtain⟨j,rfl⟩:∃j,k=j+1:=⟨k - 1,by omega⟩;have ej:((j+1:Nat):Int) - 1=(j:Int):=by omega
   rw [ej] at m7;have g0:=Zbv inv.uL (j+n);have g1:=Zbv inv.uL (j+n - 1);have g2':=Zbv inv.uL (j+n - 2);have gv1:=Zbv lv (n - 1);have gv2:=Zbv lv (n - 2);have hl:(U'++post).length=U'.length+post.length:=List.length_append;have x0:gN (U'++post) (j+n)=gN U' (j+n):=Zp7 (by omega);have x1:gN (U'++post) (j+n - 1)=gN U' (j+n - 1):=Zp7 (by omega);have ex1:((j+n:Nat):Int) - 1=((j+n - 1:Nat):Int):=by omega
   have ex2:(n:Int) - 1=((n - 1:Nat):Int):=by omega
   have hwl:((U'.drop j).take (n+1)).length=n+1:=by rw [List.length_take,List.length_drop];omega
   have hwL:Lm ((U'.drop j).take (n+1)):=(inv.uL.drop j).take _;have wg:∀i,i≤n→gN ((U'.drop j).take (n+1)) i=gN U' (j+i):=λi hi=>by rw [gN_take (by omega),Zwf]
   have hW:=nv_top3 hwl hn;rw [wg n (Nat.le_refl _),wg (n - 1) (by omega),wg (n - 2) (by omega),show j+(n - 1)=j+n - 1 by omega,show j+(n - 2)=j+n - 2 by omega] at hW;have hwl2:=Zgu hwL (n - 2);have hVt:=nv_top2 hvn hn;have hvl2:=Zgu lv (n - 2);have hV:0 < nv v:=Nat.lt_of_le_of_lt (Nat.zero_le _) inv.lt
   have htop:gN U' (j+n)≤gN v (n - 1):=by
    have:=top_le (inv.uL.drop (j+1)) lv hvn hn inv.lt
    rwa [Zwf,show j+1+(n - 1)=j+n by omega] at this
   have hWV:nv ((U'.drop j).take (n+1))/nv v < 65536:=by
    rw [Nat.div_lt_iff_lt_mul hV];have h1:=Zbz (U'.drop j) (n+1);have h2:=Zb2 U' j;have h3:=inv.lt;have h4:=Zbv inv.uL j;omega
   obtain⟨high,hhigh⟩:∃h,gN U' (j+n)*65536+gN U' (j+n - 1)=h:=⟨_,rfl⟩;rw [hhigh] at hW;have hinit:=kn_init (Nat.pow_pos (by omega)) hVt hW hwl2 g2' hvt (Nat.div_mul_le_self (nv ((U'.drop j).take (n+1))) (nv v));have hhd:=Nat.div_add_mod high (gN v (n - 1));have hhr:=Nat.mod_lt high hvt;have hhq:=Nat.div_le_self high (gN v (n - 1));rw [Nat.mul_comm] at hhd;have hv1i:(gN v (n - 1):Int)≠0:=by omega
   have hq1:(high:Int)/(gN v (n - 1):Int)≤4294967296:=by
    have:((high/gN v (n - 1):Nat):Int)≤4294967296:=by omega
    exact this
   have wq:IntKind.u64.wrap ((high/gN v (n - 1):Nat):Int)=((high/gN v (n - 1):Nat):Int):=Zdz (Int.natCast_nonneg _) (by omega)
   (repeat' (first|(with_reducible first|refine stp ?_|apply gx1|apply gx2|apply gx3|apply gx4|apply gx5|apply gx6|apply gx7|apply gy8|apply gz2|apply gz3)|(with_reducible refine Zao ?_;intro _)|((with_reducible refine gE ?_);(try simp (disch:=omega) only [go_sem,e2,e3,e5,e6,e7,m2,m3,m5,m7,m18,m44,hl,hul,hvn,x0,x1,ex1,ex2,hhigh,hv1i,Zas,Zc7,Zec,Nat.zero_add,wq])<;>first|rfl|omega)|with_reducible refine Zab (by decide) ?_|((with_reducible apply gy1);iterate 3 focus rfl)|((with_reducible apply gy2);iterate 3 focus rfl)|((with_reducible apply gy3);iterate 2 focus rfl)|((with_reducible apply gy4);iterate 1 focus rfl)|((with_reducible apply gy5);iterate 4 focus rfl)|((with_reducible apply gy5c);iterate 4 focus rfl)|((with_reducible apply gy6);iterate 4 focus rfl)|((with_reducible apply Za7);iterate 3 focus rfl)|((with_reducible apply Za6);iterate 1 focus rfl)|((with_reducible apply gy7);iterate 1 focus rfl)|((with_reducible apply gy9);(focus ((with_reducible refine gE ?_);(try simp (disch:=omega) only [go_sem,e2,e3,e5,e6,e7,m2,m3,m5,m7,m18,m44,hl,hul,hvn,x0,x1,ex1,ex2,hhigh,hv1i,Zas,Zc7,Zec,Nat.zero_add,wq])<;>rfl)))|((with_reducible apply gz1);(focus first|rfl|(simp (disch:=omega) only [go_sem,e2,e3,e5,e6,e7,m2,m3,m5,m7,m18,m44,hl,hul,hvn,x0,x1,ex1,ex2,hhigh,hv1i,Zas,Zc7,Zec,Nat.zero_add,wq];done)))|((with_reducible apply Zae (Zau []) [] [9,10]);(focus kernel_rfl);(focus rfl);(focus kernel_rfl);(focus (simp only [List.length_cons,List.length_nil,Nat.reduceAdd];rfl)))))
   rename_i g9 g10;have hlj:(U'.take j).length=j:=by rw [List.length_take];omega
   have hsplit:U'++post=U'.take j++((U'.drop j).take (n+1)++(U'.drop (j+n+1)++post)):=by
    have e1:U'=U'.take j++((U'.drop j).take (n+1)++U'.drop (j+n+1)):=by
     rw [show j+n+1=j+(n+1) by omega,←List.drop_drop,List.take_append_drop,List.take_append_drop]
    rw [←List.append_assoc ((U'.drop j).take (n+1)),←List.append_assoc,←e1]
   have esub:j+n+1 - j=n+1:=by omega
   obtain⟨W,hWd⟩:∃W,nv ((U'.drop j).take (n+1))=W:=⟨_,rfl⟩;have hstep:=fun(w'':List Nat) hw hwL2 hwv=>inv.step (w'':=w'') hvn lv (by omega) hw hwL2 hwv hWV;rw [hWd] at hinit hWV hW hstep
   have hzz:∀d r,high=d*gN v (n - 1)+r→65536≤r→d < 65536∧d*gN v (n - 2)≤r*65536+gN U' (j+n - 2):=by
    intro d r h1 h2
    have hd:d < 65536:=by
     rcases Nat.lt_or_ge d 65536 with h3 | h3
     ·exact h3
     ·exfalso;have h4:65536*gN v (n - 1)≤d*gN v (n - 1):=Nat.mul_le_mul_right _ h3;omega
    have:=Zn2 hd gv2;omega
   refine Zad (ι:=Nat) (λd e' m'=>(e' 2=.pbox 2 g2 0∧e' 3=.pbox 3 g3 0∧e' 5=.pbox 5 g5 0∧e' 6=.own 18 svo∧e' 7=.pbox 7 g7 0∧e' 9=.pbox 9 g9 0∧e' 10=.pbox 10 g10 0∧e' 11=.fn 292 [.pbox 9 g9 0,.pbox 3 g3 0,.pbox 5 g5 0,.pbox 10 g10 0,.pbox 2 g2 0,.pbox 7 g7 0]) ∧
    m' 2=some (.box g2 41 [.view 44 sv 1 0 U.length] false)∧m' 3=some (.box g3 41 [lim v] false)∧m' 5=some (.box g5 3 [.v (.int .i64 n)] false)∧m' 7=some (.box g7 3 [.v (.int .i64 (j:Int))] false)∧m' 18=some (.row svo 169 1 (u16s q) 0)∧m' 44=some (.row sv 169 1 (u16s (U'++post)) 0) ∧
    m' 9=some (.box g9 153 [.v (.int .u64 (d:Int))] false)∧∃r:Nat,m' 10=some (.box g10 153 [.v (.int .u64 (r:Int))] false)∧high=d*gN v (n - 1)+r∧W/nv v≤d∧d≤high∧r < 131072) (λd=>d) (high/gN v (n - 1)) (by rfl) ?_ ?_
   ·rintro d e m ⟨⟨e2,e3,e5,e6,e7,e9,e10,e11⟩,m2,m3,m5,m7,m18,m44,m9,r,m10,hhi,hqd,hdh,hr2⟩
    have ct:=λhr=>Zps m sv g2 g3 g5 g7 g9 g10 U' post v d r j (by rw [hul];exact m2) m3 (by rw [hvn];exact m5) m7 m9 m10 m44 (by omega) (by omega) (by omega) lv inv.uL hr;rw [hvn] at ct;by_cases hgo:r < 65536∧(65536≤d∨r*65536+gN U' (j+n - 2) < d*gN v (n - 2))
    ·obtain⟨hr,ht⟩:=hgo;have hb:(decide (65536≤d) || decide (r*65536+gN U' (j+n - 2) < d*gN v (n - 2)))=true:=by simpa using ht
     have hd1:1≤d:=by
      rcases Nat.eq_zero_or_pos d with h | h
      ·subst h;omega
      ·exact h
     have ed:(d:Int) - 1=((d - 1:Nat):Int):=by omega
     have hq2:W/nv v≤d - 1:=by
      rcases ht with h | h
      ·omega
      ·have h1:=kn_step hVt hW hwl2 hhi h;rw [←Nat.div_lt_iff_lt_mul hV] at h1;omega
     have hh2:high=(d - 1)*gN v (n - 1)+(r+gN v (n - 1)):=by
      obtain⟨d',rfl⟩:∃d',d=d'+1:=⟨d - 1,by omega⟩;rw [Nat.add_sub_cancel,hhi,Nat.add_mul,Nat.one_mul];omega
     (repeat' (first|(with_reducible first|refine stp ?_|apply gx1|apply gx2|apply gx3|apply gx4|apply gx5|apply gx6|apply gx7|apply gy8|apply gz2|apply gz3|refine Zbj (ct hr) ?_)|(with_reducible refine Zao ?_;intro _)|((with_reducible refine gE ?_);(try simp (disch:=omega) only [go_sem,e2,e3,e5,e6,e7,e9,e10,e11,m2,m3,m5,m7,m18,m44,m9,m10,hb,ed,ex2,hvn,Zas])<;>first|rfl|omega)|with_reducible refine Zab (by decide) ?_|((with_reducible apply gy1);iterate 3 focus rfl)|((with_reducible apply gy2);iterate 3 focus rfl)|((with_reducible apply gy3);iterate 2 focus rfl)|((with_reducible apply gy4);iterate 1 focus rfl)|((with_reducible apply gy5);iterate 4 focus rfl)|((with_reducible apply gy5c);iterate 4 focus rfl)|((with_reducible apply gy6);iterate 4 focus rfl)|((with_reducible apply Za7);iterate 3 focus rfl)|((with_reducible apply Za6);iterate 1 focus rfl)|((with_reducible apply gy7);iterate 1 focus rfl)|((with_reducible apply gy9);(focus ((with_reducible refine gE ?_);(try simp (disch:=omega) only [go_sem,e2,e3,e5,e6,e7,e9,e10,e11,m2,m3,m5,m7,m18,m44,m9,m10,hb,ed,ex2,hvn,Zas])<;>rfl)))|((with_reducible apply gz1);(focus first|rfl|(simp (disch:=omega) only [go_sem,e2,e3,e5,e6,e7,e9,e10,e11,m2,m3,m5,m7,m18,m44,m9,m10,hb,ed,ex2,hvn,Zas];done)))|((with_reducible apply Zae (Zau []) [8] []);(focus kernel_rfl);(focus rfl);(focus kernel_rfl);(focus (simp only [List.length_cons,List.length_nil,Nat.reduceAdd];rfl)))))
     exact⟨d - 1,⟨⟨by exact gW e2,by exact gW e3,by exact gW e5,by exact gW e6,by exact gW e7,by exact gW e9,by exact gW e10,by exact gW e11⟩,by exact gW m2,by exact gW m3,by exact gW m5,by exact gW m7,by exact gW m18,by exact gW m44,by exact gC,_,by exact gC,hh2,hq2,by omega,by omega⟩,by omega⟩
    ·obtain⟨hd,hdv⟩:d < 65536∧d*gN v (n - 2)≤r*65536+gN U' (j+n - 2):=by
      rcases Nat.lt_or_ge r 65536 with h | h
      ·have h2:¬(65536≤d∨r*65536+gN U' (j+n - 2) < d*gN v (n - 2)):=λh2=>hgo ⟨h,h2⟩;omega
      ·exact hzz d r hhi h
     have hb:(decide (65536≤d) || decide (r*65536+gN U' (j+n - 2) < d*gN v (n - 2)))=false:=by
      rw [Bool.or_eq_false_iff,decide_eq_false_iff_not,decide_eq_false_iff_not];omega
     have hnear:=kn_near hV hqd (kn_exit hVt hvl2 hW hhi hvt hd hdv);have csub:=Znw (K:=44) (sv:=sv) (σ:=m) (post:=U'.drop (j+n+1)++post) (v:=v) (d:=d) hlj hwl (by rw [←hsplit];exact m44) (by omega) (by rw [←hsplit];omega) hwL lv hd;rcases Nat.lt_or_ge r 65536 with hr | hr
     all_goals
      (repeat' (first|(with_reducible first|refine stp ?_|apply gx1|apply gx2|apply gx3|apply gx4|apply gx5|apply gx6|apply gx7|apply gy8|apply gz2|apply gz3|refine Zbj (ct hr) ?_)|(with_reducible refine Zao ?_;intro _)|((with_reducible refine gE ?_);(try simp (disch:=omega) only [go_sem,e2,e3,e5,e6,e7,e9,e10,e11,m2,m3,m5,m7,m18,m44,m9,m10,hb,ex2,hvn,Zas,Zbw,esub,Nat.zero_add])<;>first|rfl|omega)|with_reducible refine Zab (by decide) ?_|((with_reducible apply gy1);iterate 3 focus rfl)|((with_reducible apply gy2);iterate 3 focus rfl)|((with_reducible apply gy3);iterate 2 focus rfl)|((with_reducible apply gy4);iterate 1 focus rfl)|((with_reducible apply gy5);iterate 4 focus rfl)|((with_reducible apply gy5c);iterate 4 focus rfl)|((with_reducible apply gy6);iterate 4 focus rfl)|((with_reducible apply Za7);iterate 3 focus rfl)|((with_reducible apply Za6);iterate 1 focus rfl)|((with_reducible apply gy7);iterate 1 focus rfl)|((with_reducible apply gy9);(focus ((with_reducible refine gE ?_);(try simp (disch:=omega) only [go_sem,e2,e3,e5,e6,e7,e9,e10,e11,m2,m3,m5,m7,m18,m44,m9,m10,hb,ex2,hvn,Zas,Zbw,esub,Nat.zero_add])<;>rfl)))|((with_reducible apply gz1);(focus first|rfl|(simp (disch:=omega) only [go_sem,e2,e3,e5,e6,e7,e9,e10,e11,m2,m3,m5,m7,m18,m44,m9,m10,hb,ex2,hvn,Zas,Zbw,esub,Nat.zero_add];done)))|((with_reducible apply Zae (Zau []) [10] []);(focus kernel_rfl);(focus rfl);(focus kernel_rfl);(focus (simp only [List.length_cons,List.length_nil,Nat.reduceAdd];rfl)))))
      refine Zda csub ?_
      rintro _ _ ⟨w',b,rfl,rfl,hwl',hwL',hb1,heq⟩
      rw [hWd] at heq;have hw'p:nv w' < 65536 ^ (n+1):=by have:=Zg5 hwL';rwa [hwl'] at this
      have hcase:=subDone hV hw'p hb1 heq hnear;have ej2:(j:Int) - 1=(j:Int) - 1:=rfl;rcases hcase with⟨rfl,hdq,hwm⟩ | ⟨rfl,hdq⟩
      ·have inv':=hstep w' hwl' hwL' hwm;rw [←hdq] at inv';have hdm:d%65536=d:=Nat.mod_eq_of_lt hd
       (repeat' (first|(with_reducible first|refine stp ?_|apply gx1|apply gx2|apply gx3|apply gx4|apply gx5|apply gx6|apply gx7|apply gy8|apply gz2|apply gz3)|(with_reducible refine Zao ?_;intro _)|((with_reducible refine gE ?_);(try simp (disch:=omega) only [go_sem,e2,e3,e5,e6,e7,e9,e10,e11,m2,m3,m5,m7,m18,m44,m9,m10,hql,Zba,hdm,Int.natCast_zero,Int.lt_irrefl])<;>first|rfl|omega)|with_reducible refine Zab (by decide) ?_|((with_reducible apply gy1);iterate 3 focus rfl)|((with_reducible apply gy2);iterate 3 focus rfl)|((with_reducible apply gy3);iterate 2 focus rfl)|((with_reducible apply gy4);iterate 1 focus rfl)|((with_reducible apply gy5);iterate 4 focus rfl)|((with_reducible apply gy5c);iterate 4 focus rfl)|((with_reducible apply gy6);iterate 4 focus rfl)|((with_reducible apply Za7);iterate 3 focus rfl)|((with_reducible apply Za6);iterate 1 focus rfl)|((with_reducible apply gy7);iterate 1 focus rfl)|((with_reducible apply gy9);(focus ((with_reducible refine gE ?_);(try simp (disch:=omega) only [go_sem,e2,e3,e5,e6,e7,e9,e10,e11,m2,m3,m5,m7,m18,m44,m9,m10,hql,Zba,hdm,Int.natCast_zero,Int.lt_irrefl])<;>rfl)))|((with_reducible apply gz1);(focus first|rfl|(simp (disch:=omega) only [go_sem,e2,e3,e5,e6,e7,e9,e10,e11,m2,m3,m5,m7,m18,m44,m9,m10,hql,Zba,hdm,Int.natCast_zero,Int.lt_irrefl];done)))|((with_reducible apply Zae (Zau []) [10] []);(focus kernel_rfl);(focus rfl);(focus kernel_rfl);(focus (simp only [List.length_cons,List.length_nil,Nat.reduceAdd];rfl)))))
       exact⟨j,⟨by omega,g2,g3,g5,_,svo,q.set j d,U'.take j++(w'++U'.drop (j+n+1)),⟨by exact gW e2,by exact gW e3,by exact gW e5,by exact gW e6,by exact gC⟩,by exact gW m2,by exact gW m3,by exact gW m5,by exact gC,by exact gC,by(simp (disch:=omega) only [go_sem,List.append_assoc]<;>repeat' first|rfl|refine⟨?_,?_⟩),inv'⟩,by omega⟩
      ·have crest:=fun(σ:Mem) h=>Zpu (σ:=σ) (K:=44) (sv:=sv) (post:=U'.drop (j+n+1)++post) (v:=v) hlj hwl' h (by omega) (by rw [hsplit] at hl;simp only [List.length_append] at hl ⊢;omega) hwL' lv;have hd1:1≤d:=by rw [hdq];exact Nat.le_add_left 1 _
       have ed:(d:Int) - 1=((d - 1:Nat):Int):=by omega
       have one:(0:Int) < ((1:Nat):Int):=by omega
       (repeat' (first|(with_reducible first|refine stp ?_|apply gx1|apply gx2|apply gx3|apply gx4|apply gx5|apply gx6|apply gx7|apply gy8|apply gz2|apply gz3)|(with_reducible refine Zao ?_;intro _)|((with_reducible refine gE ?_);(try simp (disch:=omega) only [go_sem,e2,e3,e5,e6,e7,e9,e10,e11,m2,m3,m5,m7,m18,m44,m9,m10,ed,one,Zas,Zbw,esub,Nat.zero_add])<;>first|rfl|omega)|with_reducible refine Zab (by decide) ?_|((with_reducible apply gy1);iterate 3 focus rfl)|((with_reducible apply gy2);iterate 3 focus rfl)|((with_reducible apply gy3);iterate 2 focus rfl)|((with_reducible apply gy4);iterate 1 focus rfl)|((with_reducible apply gy5);iterate 4 focus rfl)|((with_reducible apply gy5c);iterate 4 focus rfl)|((with_reducible apply gy6);iterate 4 focus rfl)|((with_reducible apply Za7);iterate 3 focus rfl)|((with_reducible apply Za6);iterate 1 focus rfl)|((with_reducible apply gy7);iterate 1 focus rfl)|((with_reducible apply gy9);(focus ((with_reducible refine gE ?_);(try simp (disch:=omega) only [go_sem,e2,e3,e5,e6,e7,e9,e10,e11,m2,m3,m5,m7,m18,m44,m9,m10,ed,one,Zas,Zbw,esub,Nat.zero_add])<;>rfl)))|((with_reducible apply gz1);(focus first|rfl|(simp (disch:=omega) only [go_sem,e2,e3,e5,e6,e7,e9,e10,e11,m2,m3,m5,m7,m18,m44,m9,m10,ed,one,Zas,Zbw,esub,Nat.zero_add];done)))|((with_reducible apply Zae (Zau []) [8] []);(focus kernel_rfl);(focus rfl);(focus kernel_rfl);(focus (simp only [List.length_cons,List.length_nil,Nat.reduceAdd];rfl)))))
       refine Zda (crest _ (by exact gC)) ?_
       rintro _ _ ⟨w'',c,rfl,rfl,hwl'',hwL'',hc1,heq2⟩
       have hw''p:nv w'' < 65536 ^ (n+1):=by have:=Zg5 hwL'';rwa [hwl''] at this
       have hVp:nv v≤65536 ^ (n+1):=by
        have h1:=Zg5 lv;rw [hvn] at h1;have h2:65536 ^ n≤65536 ^ (n+1):=Nat.pow_le_pow_right (by omega) (by omega);omega
       have hwm:=resDone hV hVp hw''p hc1 (by rw [←hdq];exact heq) heq2;have inv':=hstep w'' hwl'' hwL'' hwm;have hdq2:d - 1=W/nv v:=by rw [hdq,Nat.add_sub_cancel]
       rw [←hdq2] at inv';have hdm:(d - 1)%65536=d - 1:=Nat.mod_eq_of_lt (by omega);(focus (refine wkvd (w_19 e2 e3 e5 e6 e7 e9 e10 e11 m2 m3 m5 m7 m18 m44 m9 m10 hql @Zba hdm) w_t w_t ?_;(repeat' first|exact w_t|apply w_l);all_goals intros));exact⟨j,⟨by omega,g2,g3,g5,_,svo,q.set j (d - 1),U'.take j++(w''++U'.drop (j+n+1)),⟨by exact gW e2,by exact gW e3,by exact gW e5,by exact gW e6,by exact gC⟩,by exact gW m2,by exact gW m3,by exact gW m5,by exact gC,by exact gC,by(simp (disch:=omega) only [go_sem,List.append_assoc]<;>repeat' first|rfl|refine⟨?_,?_⟩),inv'⟩,by omega⟩
   ·exact⟨⟨by exact gW e2,by exact gW e3,by exact gW e5,by exact gW e6,by exact gW e7,by exact gC,by exact gC,by exact gC⟩,by exact gW m2,by exact gW m3,by exact gW m5,by exact gW m7,by exact gW m18,by exact gW m44,by exact gC,_,by exact gC,by omega,hinit,by omega,by omega⟩
 ·refine⟨Nat.le_refl _,_,_,_,_,_,List.replicate (U.length - n) 0,U,⟨by exact gC,by exact gC,by exact gC,by exact gC,by exact gC⟩,by exact gC,by exact gC,by exact gC,by exact gC,by exact gC,by exact gW h44,⟨by rw [hvn];simp,Lm.zeros _,λ_ _=>Zgw _ _,rfl,lU,?_,hlt⟩⟩;rw [List.drop_eq_nil_of_le (by simp)];simp [nv]
theorem Zv8 (i:Nat):i < 2 ^ len8 i:=by
 unfold len8;split
 ·rename_i h;subst h;decide
 ·exact Nat.lt_log2_self
theorem len16_lt (x:Nat):x < 2 ^ Zek x:=by
 unfold Zek;split
 ·have:=Zv8 (x/256);rw [Nat.pow_add];have e:(2:Nat) ^ 8=256:=rfl;omega
 ·exact Zv8 x
theorem Zql (a:List Nat):u16s a++[.v (.int .u16 0),.v (.int .u16 0)]=u16s (a++[0,0]):=by simp [u16s]
theorem Wk.three {a a' b b' c:AV} (h1:Wk a a') (h2:Wk b b'):Wk (.tup [a,b,c]) (.tup [a',b',c]):=by
 refine .tup _ _ rfl λj x y h3 h4=>?_
 match j with
 | 0=>simp at h3 h4;subst h3;subst h4;exact h1
 | 1=>simp at h3 h4;subst h3;subst h4;exact h2
 | 2=>simp at h3 h4;subst h3;subst h4;exact .refl _
 | j+3=>simp at h3
theorem Zo7 {b s n:Nat} (h0:b≠0) (hn:(toL b).length=n) (hs:s=16 - Zek (gN (toL b) (n - 1))):(toL (b*2 ^ s)).length=n:=by
 have h1:=(Zdt h0).1;have ht:=Zbv (Zam b) (n - 1);have hbd:=Zhy ht;have hlt:=len16_lt (gN (toL b) (n - 1));have hp:=Nat.two_pow_pos s;have h3:(toL b).length≤(toL (b*2 ^ s)).length:=Za5 (Nat.le_mul_of_pos_right _ hp)
 have h4:(toL (b*2 ^ s)).length≤n:=by
  rw [Zag];have h5:=Zbz (toL b) (n - 1);rw [Zal,Zb2,show n - 1+1=n by omega,List.drop_eq_nil_of_le (by omega)] at h5;simp only [nv,Nat.mul_zero,Nat.add_zero] at h5;have h6:=Zgu (Zam b) (n - 1);generalize gN (toL b) (n - 1)=t at *
  have h7:b < 65536 ^ (n - 1)*2 ^ Zek t:=by
   have h10:65536 ^ (n - 1)*(t+1)≤65536 ^ (n - 1)*2 ^ Zek t:=Nat.mul_le_mul_left _ hlt;rw [Nat.mul_add,Nat.mul_one] at h10;omega
  have h8:b*2 ^ s < 65536 ^ (n - 1)*2 ^ Zek t*2 ^ s:=Nat.mul_lt_mul_of_pos_right h7 hp
  have h9:2 ^ Zek t*2 ^ s=65536:=by
   rw [←Nat.pow_add,hs,show Zek t+(16 - Zek t)=16 by omega]
  rw [Nat.mul_assoc,h9,←Nat.pow_succ,Nat.succ_eq_add_one,show n - 1+1=n by omega] at h8;exact h8
 omega
theorem Zny (a b:List Nat) (ha:a.length≤200000000) (hb:b.length≤200000000) (la:Lm a) (lb:Lm b) (h0:nv b≠0):Pure Tryz.prog 168 [lim a,lim b] (.tup [lim (toL (nv a/nv b)),lim (toL (nv a%nv b)),.v (.int .i64 0)]):=by
 have h1:=Zaq la;have h2:=Zaq lb;have va:=Zal (nv a);have vb:=Zal (nv b);have ma:=Zam (nv a);have mb:=Zam (nv b);obtain⟨hb1,hb2⟩:=Zdt h0;have cc:=Zrg (toL (nv a)) (toL (nv b)) (by omega) (by omega) ma mb;rw [va,vb] at cc;by_cases hlt:nv a < nv b
 ·rw [show toL (nv a/nv b)=[] by rw [Nat.div_eq_of_lt hlt,Zax],Nat.mod_eq_of_lt hlt];refine Pure.wk ?_ (Wk.three (.nil 1) (.refl _));have hcm:cmpN (nv a) (nv b)=-1:=if_pos hlt;have cn:=Zl4 (toL (nv a)) (by omega) ma;rw [va] at cn;refine Zaa (tok:=0) (rs:=[.tmp 4,.tmp 5,.tmp 6]) Tryz.func168 rfl Tryz.ntmps168 Tryz.results168 Tryz.call168 (by rfl) (by simp) ?_;(focus (refine wkvp (w_1 hcm) (w_4 (Zaz a (by omega) la) (Zaz b (by omega) lb) cc cn) ?_;(repeat' first|exact w_t|apply w_l);all_goals intros));simp (disch:=omega) only [go_sem]
 ·have hcm:0≤cmpN (nv a) (nv b):=by unfold cmpN;rw [if_neg hlt];split<;>omega
  by_cases hone:(toL (nv b)).length=1
  ·have e0:nv b=gN (toL (nv b)) 0:=by
    have:=Zbz (toL (nv b)) 0;rw [Zb2,List.drop_eq_nil_of_le (by omega),vb] at this
    simpa [nv] using this
   have gb:=Zbv mb 0;have cb:=Znz (toL (nv a)) (gN (toL (nv b)) 0) (by omega) ma (by omega) gb;rw [va,←e0] at cb;have hr:=Nat.mod_lt (nv a) (Nat.pos_of_ne_zero h0);have co:=natOf (nv a%nv b) (by omega);refine Zaa (tok:=0) (rs:=[.tmp 4,.tmp 5,.tmp 6]) Tryz.func168 rfl Tryz.ntmps168 Tryz.results168 Tryz.call168 (by rfl) (by simp) ?_;have wr:IntKind.u64.wrap ((nv a%nv b:Nat):Int)=((nv a%nv b:Nat):Int):=Zdz (Int.natCast_nonneg _) (by omega)
   (repeat' (first|(with_reducible first|refine stp ?_|apply gx1|apply gx2|apply gx3|apply gx4|apply gx5|apply gx6|apply gx7|refine gw0 (Zaz a (by omega) la) ?_ ?_|refine gw0 (Zaz b (by omega) lb) ?_ ?_|refine gw0 (cc) ?_ ?_|refine gw0 (cb) ?_ ?_|refine gw0 (co) ?_ ?_)|(with_reducible refine Zao ?_;intro _)|((with_reducible refine gE ?_);(try simp (disch:=omega) only [go_sem,hone,←e0,wr])<;>first|rfl|omega)|with_reducible refine Zab (by decide) ?_))
   simp (disch:=omega) only [go_sem]
  ·
   obtain⟨n,hn⟩:∃n,(toL (nv b)).length=n:=⟨_,rfl⟩;rw [hn] at hb1 hb2 hone h2;have ht:=Zbv mb (n - 1);have hbd:=Zhy ht;obtain⟨s,hs⟩:∃s,16 - Zek (gN (toL (nv b)) (n - 1))=s:=⟨_,rfl⟩;have hs15:s≤15:=by omega
   have hvl:=Zo7 h0 hn hs.symm;have ha0:nv a≠0:=by omega
   have hab:n≤(toL (nv a)).length:=by rw [←hn];exact Za5 (by omega)
   have clz:=bitsLz16 (gN (toL (nv b)) (n - 1)) ht;rw [hs] at clz;have en:(n:Int) - 1=((n - 1:Nat):Int):=by omega
   have hp:=Nat.two_pow_pos s;obtain⟨A,hA⟩:∃A,toL (nv a)=A:=⟨_,rfl⟩;rw [hA] at va ma h1 hab cc;have hVlen:A.length≤(toL (nv a*2 ^ s)).length:=by rw [←hA];exact Za5 (Nat.le_mul_of_pos_right _ hp)
   have hV2:nv a*2 ^ s < 65536 ^ (A.length+1):=by
    have h3:=Zg5 ma;rw [va] at h3;have h4:(2:Nat) ^ s≤2 ^ 16:=Nat.pow_le_pow_right (by omega) (by omega);rw [Nat.pow_succ];exact Nat.lt_of_lt_of_le (Nat.mul_lt_mul_of_pos_right h3 hp) (Nat.mul_le_mul_left _ h4)
   have hVlen2:(toL (nv a*2 ^ s)).length≤A.length+1:=Zag.2 hV2
   have hdl:nv a*2 ^ s/65536 ^ (A.length+1 - n) < nv b*2 ^ s:=by
    rw [Nat.div_lt_iff_lt_mul (Nat.pow_pos (by omega))];have h3:=Zg5 ma;rw [va] at h3
    have h5:65536 ^ (n - 1)≤nv b:=by
     rcases Nat.lt_or_ge (nv b) (65536 ^ (n - 1)) with h | h
     ·have:=Zag.2 h;omega
     ·exact h
    have h6:65536 ^ A.length=65536 ^ (n - 1)*65536 ^ (A.length+1 - n):=by rw [←Nat.pow_add];congr 1;omega
    have h7:65536 ^ (n - 1)*65536 ^ (A.length+1 - n)≤nv b*65536 ^ (A.length+1 - n):=Nat.mul_le_mul_right _ h5;have h8:nv a < nv b*65536 ^ (A.length+1 - n):=by omega
    have h9:=Nat.mul_lt_mul_of_pos_right h8 hp
    rwa [Nat.mul_right_comm] at h9
   have qe:nv a*2 ^ s/(nv b*2 ^ s)=nv a/nv b:=Nat.mul_div_mul_right _ _ hp;have re:nv a*2 ^ s%(nv b*2 ^ s)=(nv a%nv b)*2 ^ s:=Nat.mul_mod_mul_right _ _ _;have cv:=natShl (toL (nv b)) s (by omega) mb (by omega);rw [vb] at cv;refine Zaa (tok:=0) (rs:=[.tmp 4,.tmp 5,.tmp 6]) Tryz.func168 rfl Tryz.ntmps168 Tryz.results168 Tryz.call168 (by rfl) (by simp) ?_;(focus (refine wkvp (w_3 hn hA en) (w_4 (Zaz a (by omega) la) (Zaz b (by omega) lb) cc clz) ?_;(repeat' first|exact w_t|apply w_l);all_goals intros));refine Zda (Znx _ A s (by omega) ma (by omega) (by rw [va];exact ha0)) ?_
   rintro _ _ ⟨sv,o,rfl,rfl,hol,hLo,hov⟩
   rw [va] at hov;rw [va];have hlen:=Zaq hLo;rw [hov] at hlen;obtain⟨L,hL⟩:∃L,o.take (toL (nv a*2 ^ s)).length++[0,0]=L:=⟨_,rfl⟩;have hLl:L.length=(toL (nv a*2 ^ s)).length+2:=by rw [←hL,List.length_append,List.length_take];simp;omega
   have hot:o.take (toL (nv a*2 ^ s)).length=toL (nv a*2 ^ s):=by
    obtain⟨k,h3,h4⟩:=Zlc hLo;rw [hov] at h4;have h5:k=(toL (nv a*2 ^ s)).length:=by rw [←h4,List.length_take];omega
    rw [←h5,h4]
   have hLn:nv L=nv a*2 ^ s:=by rw [←hL,hot,Zdb,Zal];simp [nv]
   have hLL:Lm L:=by rw [←hL,hot];exact(Zam _).append λy hy=>by simp at hy;omega
   have hes:u16s o=u16s o:=rfl;have e3:((A.length:Nat):Int)+1=((A.length+1:Nat):Int):=by omega
   (repeat' (first|(with_reducible first|refine stp ?_|apply gx1|apply gx2|apply gx3|apply gx4|apply gx5|apply gx6|apply gx7|refine gw0 (cv) ?_ ?_)|(with_reducible refine Zao ?_;intro _)|((with_reducible refine gE ?_);(try simp (disch:=omega) only [go_sem,hol,Zql,hL,hLl,e3,←hvl])<;>first|rfl|omega)|with_reducible refine Zab (by decide) ?_))
   have hUl:(L.take (A.length+1)).length=A.length+1:=by rw [List.length_take];omega
   have hUn:nv (L.take (A.length+1))=nv a*2 ^ s:=by
    have h3:=Zbz L (A.length+1);rw [hLn] at h3;rcases Nat.eq_zero_or_pos (nv (L.drop (A.length+1))) with h4 | h4
    ·rw [h4,Nat.mul_zero,Nat.add_zero] at h3;exact h3.symm
    ·have:=Nat.le_mul_of_pos_right (65536 ^ (A.length+1)) h4;omega
   rename_i sv2 sv';have vn:nv (toL (nv b*2 ^ s))=nv b*2 ^ s:=Zal _
   have hb20:nv b*2 ^ s≠0:=by
    have:=Nat.mul_pos (Nat.pos_of_ne_zero h0) hp;omega
   have htop:=(Zdt hb20).2;rw [hvl] at htop;have hTD:(L.take (A.length+1))++(L.drop (A.length+1))=L:=List.take_append_drop _ _;have clong:=fun(σ:Mem) h44=>natLong σ sv' (L.take (A.length+1)) (L.drop (A.length+1)) (toL (nv b*2 ^ s)) n hvl h44 (by omega) (by rw [hUl];omega) (by rw [hUl,List.length_drop];omega) (hLL.take _) (hLL.drop _) (Zam _) htop
    (by rw [hUl,←Zvw (hLL.take _),hUn,vn];exact hdl)
   rw [hUl,hUn,vn,qe,re] at clong;refine Zda (clong _ (by rw [hTD];(simp (disch:=omega) only [go_sem,Zql,hL]<;>repeat' first|rfl|refine⟨?_,?_⟩))) ?_
   rintro _ σ' ⟨U',rfl,h44',hUl',hUL',hUn'⟩
   have ct:=Zaz U' (by omega) hUL';rw [hUn'] at ct;have htk:(U'++L.drop (A.length+1)).take (A.length+1)=U':=by rw [←hUl'];exact List.take_left
   rcases Nat.eq_zero_or_pos s with hs0 | hs0
   ·subst hs0;have cr:=natShl (toL ((nv a%nv b)*2 ^ 0)) 0 (by have:=Zaq hUL';rw [hUn'] at this;omega) (Zam _) (by omega);rw [Zal,Nat.pow_zero,Nat.mul_one,Nat.mul_one] at cr;rw [Nat.pow_zero,Nat.mul_one] at ct;have ez:(0:Int) - ((0:Nat):Int)=((0:Nat):Int):=by omega
    (repeat' (first|(with_reducible first|refine stp ?_|apply gx1|apply gx2|apply gx3|apply gx4|apply gx5|apply gx6|apply gx7|apply gw1 (ct)|refine gw0 (cr) ?_ ?_)|(with_reducible refine Zao ?_;intro _)|((with_reducible refine gE ?_);(try simp (disch:=omega) only [go_sem,h44',htk,Nat.zero_add,Nat.sub_zero,List.drop_zero,ez])<;>first|rfl|omega)|with_reducible refine Zab (by decide) ?_))
    simp (disch:=omega) only [go_sem]
   ·have cr:=natShr (toL ((nv a%nv b)*2 ^ s)) s (by have:=Zaq hUL';rw [hUn'] at this;omega) (Zam _) hs0 (by omega);rw [Zal,Nat.mul_div_cancel _ hp] at cr;have ez:(0:Int) - (s:Int)=-(s:Int):=by omega
    (repeat' (first|(with_reducible first|refine stp ?_|apply gx1|apply gx2|apply gx3|apply gx4|apply gx5|apply gx6|apply gx7|apply gw1 (ct)|refine gw0 (cr) ?_ ?_)|(with_reducible refine Zao ?_;intro _)|((with_reducible refine gE ?_);(try simp (disch:=omega) only [go_sem,h44',htk,Nat.zero_add,Nat.sub_zero,List.drop_zero,ez])<;>first|rfl|omega)|with_reducible refine Zab (by decide) ?_))
    simp (disch:=omega) only [go_sem]
theorem natGcd (a b:List Nat) (ha:a.length≤200000000) (hb:b.length≤200000000) (la:Lm a) (lb:Lm b):Pure Tryz.prog 145 [lim a,lim b] (lim (toL (Nat.gcd (nv a) (nv b)))):=by
 have h1:=Zaq la;have h2:=Zaq lb
 have cu:∀x:Nat,(toL x).length≤200000000→Pure Tryz.prog 219 [lim (toL x)] (.tup [.v (.int .u64 (if x < 18446744073709551616 then (x:Int) else 0)),.v (.bool (decide (x < 18446744073709551616)))]):=by
  intro x hx;have:=natUint (toL x) (by omega) (Zam x)
  rwa [Zal] at this
 have cd:∀x y:Nat,(toL x).length≤200000000→(toL y).length≤200000000→y≠0→Pure Tryz.prog 168 [lim (toL x),lim (toL y)] (.tup [lim (toL (x/y)),lim (toL (x%y)),.v (.int .i64 0)]):=by
  intro x y hx hy h0;have:=Zny (toL x) (toL y) hx hy (Zam x) (Zam y) (by rw [Zal];exact h0)
  rwa [Zal,Zal] at this
 refine Zaa (tok:=0) (rs:=[.tmp 4]) Tryz.func145 rfl Tryz.ntmps145 Tryz.results145 Tryz.call145 (by rfl) (by simp) ?_;(focus (refine wkvp w_t (w_2 (Zl4 a (by omega) la) (Zl4 b (by omega) lb)) ?_;(repeat' first|exact w_t|apply w_l);all_goals intros));refine Zad (ι:=Nat) (λy e m=>∃x,(e 0=lim (toL x)∧e 1=lim (toL y))∧(toL x).length≤200000000∧(toL y).length≤200000000∧Nat.gcd x y=Nat.gcd (nv a) (nv b)) (λy=>y) (nv b) (by rfl) ?_ ?_
 ·rintro y e m ⟨x,⟨e0,e1⟩,hx,hy,hg⟩
  rcases Nat.eq_zero_or_pos y with h0 | h0
  ·subst h0;have hl:=Zbo.2 (rfl:(0:Nat)=0);rw [Nat.gcd_zero_right] at hg;(focus (refine wkvp (w_3 e0 e1 hl) w_t ?_;(repeat' first|exact w_t|apply w_l);all_goals intros));simp (disch:=omega) only [go_sem,hg]
  ·have hl:0 < (toL y).length:=by
    have:=(Zdt (show y≠0 by omega)).1;omega
   by_cases hs:x < 18446744073709551616∧y < 18446744073709551616
   ·obtain⟨hsx,hsy⟩:=hs;have dx:decide (x < 18446744073709551616)=true:=decide_eq_true hsx;have dy:decide (y < 18446744073709551616)=true:=decide_eq_true hsy
    (repeat' (first|(with_reducible first|refine stp ?_|apply gx1|apply gx2|apply gx3|apply gx4|apply gx5|apply gx6|apply gx7|refine gw0 (cu x hx) ?_ ?_|refine gw0 (cu y hy) ?_ ?_)|(with_reducible refine Zao ?_;intro _)|((with_reducible refine gE ?_);(try simp (disch:=omega) only [go_sem,e0,e1,if_pos hsx,if_pos hsy,dx,dy])<;>first|rfl|omega)|with_reducible refine Zab (by decide) ?_))
    refine Zad (ι:=Nat) (λY e m=>∃X:Nat,(e 5=.v (.int .u64 (X:Int))∧e 7=.v (.int .u64 (Y:Int)))∧X < 18446744073709551616∧Y < 18446744073709551616∧Nat.gcd X Y=Nat.gcd (nv a) (nv b)) (λY=>Y) y (by rfl) ?_ ?_
    ·rintro Y e m ⟨X,⟨e5,e7⟩,hX,hY,hg2⟩
     rcases Nat.eq_zero_or_pos Y with h3 | h3
     ·subst h3;rw [Nat.gcd_zero_right] at hg2;have co:=natOf X hX;rw [hg2] at co;rw [hg2] at e5;(focus (refine wkvp (w_3 e5 e7 @Int.natCast_zero) (w_1 co) ?_;(repeat' first|exact w_t|apply w_l);all_goals intros));simp (disch:=omega) only [go_sem]
     ·have hn:(Y:Int)≠0:=by omega
      have hm:=Nat.mod_lt X h3;(focus (refine wkvd (w_4 e5 e7 @Zec hn) w_t w_t ?_;(repeat' first|exact w_t|apply w_l);all_goals intros));exact⟨X%Y,⟨Y,⟨by exact gC,by exact gC⟩,hY,by omega,by rw [←hg2,Nat.gcd_comm X Y,Nat.gcd_rec Y X,Nat.gcd_comm]⟩,hm⟩
    ·exact⟨x,⟨by exact gC,by exact gC⟩,hsx,hsy,hg⟩
   ·have hm:=Nat.mod_lt x h0;have hml:(toL (x%y)).length≤200000000:=Nat.le_trans (Za5 (Nat.le_of_lt hm)) hy
    have hdd:(decide (x < 18446744073709551616) && decide (y < 18446744073709551616))=false:=by
     rw [Bool.and_eq_false_iff,decide_eq_false_iff_not,decide_eq_false_iff_not];omega
    have hgg:Nat.gcd y (x%y)=Nat.gcd (nv a) (nv b):=by rw [←hg,Nat.gcd_comm x y,Nat.gcd_rec y x,Nat.gcd_comm]
    by_cases hsx:x < 18446744073709551616
    ·have hsy:¬y < 18446744073709551616:=λh=>hs ⟨hsx,h⟩;have dx:decide (x < 18446744073709551616)=true:=decide_eq_true hsx;have dy:decide (y < 18446744073709551616)=false:=decide_eq_false hsy
     (repeat' (first|(with_reducible first|refine stp ?_|apply gx1|apply gx2|apply gx3|apply gx4|apply gx5|apply gx6|apply gx7|refine gw0 (cu x hx) ?_ ?_|refine gw0 (cu y hy) ?_ ?_|refine gw0 (cd x y hx hy (by omega)) ?_ ?_)|(with_reducible refine Zao ?_;intro _)|((with_reducible refine gE ?_);(try simp (disch:=omega) only [go_sem,e0,e1,if_pos hsx,if_neg hsy,dx,dy])<;>first|rfl|omega)|with_reducible refine Zab (by decide) ?_))
     exact⟨x%y,⟨y,⟨by exact gW e1,by exact gC⟩,hy,hml,hgg⟩,hm⟩
    ·have dx:decide (x < 18446744073709551616)=false:=decide_eq_false hsx;by_cases hsy:y < 18446744073709551616
     ·have dy:decide (y < 18446744073709551616)=true:=decide_eq_true hsy
      (repeat' (first|(with_reducible first|refine stp ?_|apply gx1|apply gx2|apply gx3|apply gx4|apply gx5|apply gx6|apply gx7|refine gw0 (cu x hx) ?_ ?_|refine gw0 (cu y hy) ?_ ?_|refine gw0 (cd x y hx hy (by omega)) ?_ ?_)|(with_reducible refine Zao ?_;intro _)|((with_reducible refine gE ?_);(try simp (disch:=omega) only [go_sem,e0,e1,if_neg hsx,if_pos hsy,dx,dy])<;>first|rfl|omega)|with_reducible refine Zab (by decide) ?_))
      exact⟨x%y,⟨y,⟨by exact gW e1,by exact gC⟩,hy,hml,hgg⟩,hm⟩
     ·have dy:decide (y < 18446744073709551616)=false:=decide_eq_false hsy
      (repeat' (first|(with_reducible first|refine stp ?_|apply gx1|apply gx2|apply gx3|apply gx4|apply gx5|apply gx6|apply gx7|refine gw0 (cu x hx) ?_ ?_|refine gw0 (cu y hy) ?_ ?_|refine gw0 (cd x y hx hy (by omega)) ?_ ?_)|(with_reducible refine Zao ?_;intro _)|((with_reducible refine gE ?_);(try simp (disch:=omega) only [go_sem,e0,e1,if_neg hsx,if_neg hsy,dx,dy])<;>first|rfl|omega)|with_reducible refine Zab (by decide) ?_))
      exact⟨x%y,⟨y,⟨by exact gW e1,by exact gC⟩,hy,hml,hgg⟩,hm⟩
 ·exact⟨nv a,⟨by exact gC,by exact gC⟩,by omega,by omega,rfl⟩
theorem Zdu (l:List Nat) (hs:l.length≤1000000000) (hl:Lm l):Pure Tryz.prog 207 [lim l] (lim (toL (nv l))):=by
 refine Zaa (tok:=0) (rs:=[.tmp 2]) Tryz.func207 rfl Tryz.ntmps207 Tryz.results207 Tryz.call207 (by rfl) (by simp) ?_;(focus (refine wkvp w_t w_t ?_;(repeat' first|exact w_t|apply w_l);all_goals intros));refine Zad (ι:=Nat) (λk e m=>k≤l.length∧e 0=lim l∧e 3=.v (.int .i64 (k:Int))∧∀j,k≤j→gN l j=0) (λk=>k) l.length (by rfl) ?_ ?_
 ·rintro k e m ⟨hk,e0,e3,hz⟩
  have gl:=Zbv hl (k - 1);have hln:(l.take k).length=k:=by rw [List.length_take];omega
  by_cases h0:k=0
  ·subst h0;have:=Zjs hl hk hz (.inl rfl);(focus (refine wkvp (w_3 e0 e3 @Zwa) w_t ?_;(repeat' first|exact w_t|apply w_l);all_goals intros));simp (disch:=omega) only [go_sem];rw [←this];rfl
  ·by_cases h1:gN l (k - 1)=0
   ·(focus (refine wkvp (w_2 e0 e3) w_t ?_;(repeat' first|exact w_t|apply w_l);all_goals intros));exact⟨k - 1,⟨by omega,by exact gW e0,by(simp (disch:=omega) only [go_sem,e3];congr 2;omega),λj hj=>by
     rcases Nat.lt_or_ge j k with h2 | h2
     ·rw [show j=k - 1 by omega];exact h1
     ·exact hz j h2⟩,by omega⟩
   ·have:=Zjs hl hk hz (.inr (by omega));(focus (refine wkvp (w_4 e0 e3 @Zwa hln) w_t ?_;(repeat' first|exact w_t|apply w_l);all_goals intros));simp (disch:=omega) only [go_sem,this]
 ·exact⟨Nat.le_refl _,by exact gC,by exact gC,λj hj=>Zdy hj⟩
theorem Ziy (n:Nat) (hn:n < 18446744073709551616):Pure Tryz.prog 123 [.v (.int .u64 (n:Int))] (lim (toL n)):=by
 have b1:=(Zag (n:=n) (k:=4)).2 hn;refine Zaa (tok:=0) (rs:=[.tmp 2]) Tryz.func123 rfl Tryz.ntmps123 Tryz.results123 Tryz.call123 (by rfl) (by simp) ?_;(focus (refine wkvp w_t w_t ?_;(repeat' first|exact w_t|apply w_l);all_goals intros));refine Zej (Frz.nilOwn (d:=3) 11 1 169 (by exact gC)) ?_;refine Zad (ι:=Nat) (λk e m=>k≤n∧e 0=.v (.int .u64 (k:Int))∧∃sv l,e 3=.own 11 sv∧m 11=some (.row sv 169 1 (u16s l) 0)∧l++toL k=toL n) (λk=>k) n (by rfl) ?_ ?_
 ·rintro k e m ⟨hk,e0,sv,l,e3,em,hl⟩
  by_cases hk0:k=0
  ·subst hk0;rw [Zax,List.append_nil] at hl;(focus (refine wkvp (w_3 e0 e3 @Int.natCast_zero) w_t ?_;(repeat' first|exact w_t|apply w_l);all_goals intros));simp (disch:=omega) only [go_sem,em,hl]
  ·have b2:l.length≤(toL n).length:=by rw [←hl];simp
   have hne:k≠0:=hk0;have r1:(k:Int).tmod 65536=((k%65536:Nat):Int):=Zec k 65536;have r2:(k:Int).tdiv 65536=((k/65536:Nat):Int):=Zc7 k 65536;have r3:k%65536%65536=k%65536:=Nat.mod_mod _ _;(focus (refine wkvp (w_7 e0 e3 em r1 r2 @Zba r3) w_t ?_;(repeat' first|exact w_t|apply w_l);all_goals intros));refine⟨k/65536,⟨by omega,by exact gW e0,_,l++[k%65536],by exact gC,by exact gC,?_⟩,by omega⟩;rw [←hl,Zd9 hk0];simp
 ·exact⟨Nat.le_refl _,by exact gC,_,[],by exact gC,by exact gC,by simp⟩
theorem Zq2 (l:List Nat) (hs:l.length≤4) (hl:Lm l):Pure Tryz.prog 271 [lim l] (.v (.int .u64 (nv l:Nat))):=by
 refine Zaa (tok:=0) (rs:=[.tmp 2]) Tryz.func271 rfl Tryz.ntmps271 Tryz.results271 Tryz.call271 (by rfl) (by simp) ?_;(focus (refine wkvp w_t w_t ?_;(repeat' first|exact w_t|apply w_l);all_goals intros));refine Zad (ι:=Nat) (λk e m=>k≤l.length∧e 0=lim l∧e 4=.v (.int .i64 ((k:Int) - 1))∧e 3=.v (.int .u64 (nv (l.drop k):Nat))) (λk=>k) l.length (by rfl) ?_ ?_
 ·rintro k e m ⟨hk,e0,e4,e3⟩
  by_cases h0:k=0
  ·subst h0;rw [List.drop_zero] at e3;(focus (refine wkvp (w_3 e0 e4 e3) w_t ?_;(repeat' first|exact w_t|apply w_l);all_goals intros));simp (disch:=omega) only [go_sem]
  ·have gl:=Zbv hl (k - 1);have b1:=Zg5 (hl.drop k);have b2:65536 ^ (l.drop k).length≤65536 ^ 3:=Nat.pow_le_pow_right (by omega) (by rw [List.length_drop];omega);have e1:(nv (l.drop k):Int)*65536=((nv (l.drop k)*65536:Nat):Int):=by omega
   (focus (refine wkvp (w_5 e0 e4 e3 e1 @Zas) w_t ?_;(repeat' first|exact w_t|apply w_l);all_goals intros));refine⟨k - 1,⟨by omega,by exact gW e0,by(simp (disch:=omega) only [go_sem,e4];congr 2;omega),?_⟩,by omega⟩;simp (disch:=omega) only [go_sem];rw [Zb2 l (k - 1),show k - 1+1=k by omega];congr 3;omega
 ·exact⟨Nat.le_refl _,by exact gC,by exact gC,by(simp (disch:=omega) only [go_sem,List.drop_length]<;>repeat' first|rfl|refine⟨?_,?_⟩)⟩
theorem Zhd (l:List Nat) (i:Nat) (hs:l.length≤1000000000) (hl:Lm l):Pure Tryz.prog 232 [lim l,.v (.int .i64 (i:Int))] (.v (.int .i64 (gN l i:Nat))):=by
 have gl:=Zbv hl i;refine Zaa (tok:=0) (rs:=[.tmp 4]) Tryz.func232 rfl Tryz.ntmps232 Tryz.results232 Tryz.call232 (by rfl) (by simp) ?_;by_cases h:i < l.length
 ·(focus (refine wkvp w_t w_t ?_;(repeat' first|exact w_t|apply w_l);all_goals intros));simp (disch:=omega) only [go_sem]
 ·have g0:gN l i=0:=Zdy (by omega);(focus (refine wkvp w_t w_t ?_;(repeat' first|exact w_t|apply w_l);all_goals intros));simp (disch:=omega) only [go_sem,g0];rfl
theorem Zuv (a b:List Nat) (ha:a.length≤1000000000) (hb:b.length≤1000000000) (la:Lm a) (lb:Lm b):Pure Tryz.prog 237 [lim a,lim b] (.v (.int .i64 (cmpN (nv a) (nv b)))):=by
 have cl:=λi=>Zhd a i ha la;have cr:=λi=>Zhd b i hb lb;refine Zaa (tok:=0) (rs:=[.tmp 4]) Tryz.func237 rfl Tryz.ntmps237 Tryz.results237 Tryz.call237 (by rfl) (by simp) ?_;have hmx:max (a.length:Int) (b.length:Int)=((max a.length b.length:Nat):Int):=by omega
 obtain⟨M,hM⟩:∃M,max a.length b.length=M:=⟨_,rfl⟩;(focus (refine wkvp (w_2 hmx hM) w_t ?_;(repeat' first|exact w_t|apply w_l);all_goals intros));refine Zad (ι:=Nat) (λk e m=>k≤M∧e 0=lim a∧e 1=lim b∧e 5=.v (.int .i64 ((k:Int) - 1))∧nv (a.drop k)=nv (b.drop k)) (λk=>k) M (by rfl) ?_ ?_
 ·rintro k e m ⟨hk,e0,e1,e5,hz⟩
  by_cases h0:k=0
  ·subst h0;rw [List.drop_zero,List.drop_zero] at hz;(focus (refine wkvp (w_3 e0 e1 e5) w_t ?_;(repeat' first|exact w_t|apply w_l);all_goals intros));simp (disch:=omega) only [go_sem,cmpN,hz,Nat.lt_irrefl,if_false]
  ·obtain⟨j,rfl⟩:∃j,k=j+1:=⟨k - 1,by omega⟩;have ej:((j+1:Nat):Int) - 1=(j:Int):=by omega
   rw [ej] at e5;have ga:=Zbv la j;have gb:=Zbv lb j;by_cases p1:gN a j < gN b j
   ·have:=Zrd la lb hz p1;(focus (refine wkvp (w_3 e0 e1 e5) (w_2 (cl j) (cr j)) ?_;(repeat' first|exact w_t|apply w_l);all_goals intros));simp (disch:=omega) only [go_sem,cmpN,if_pos this]
   ·by_cases p2:gN b j < gN a j
    ·have:=Zrd lb la hz.symm p2;have this2:¬nv a < nv b:=by omega
     (focus (refine wkvp (w_3 e0 e1 e5) (w_2 (cl j) (cr j)) ?_;(repeat' first|exact w_t|apply w_l);all_goals intros));simp (disch:=omega) only [go_sem,cmpN,if_pos this,if_neg this2]
    ·(focus (refine wkvp (w_3 e0 e1 e5) (w_2 (cl j) (cr j)) ?_;(repeat' first|exact w_t|apply w_l);all_goals intros));refine⟨j,⟨by omega,by exact gW e0,by exact gW e1,by exact gW e5,?_⟩,by omega⟩;rw [Zb2,Zb2 b,hz];omega
 ·refine⟨Nat.le_refl _,by exact gC,by exact gC,by exact gC,?_⟩;rw [List.drop_eq_nil_of_le (by omega),List.drop_eq_nil_of_le (by omega)]
theorem refAdd (a b:List Nat) (ha:a.length≤400000000) (hb:b.length≤400000000) (la:Lm a) (lb:Lm b):Pure Tryz.prog 211 [lim a,lim b] (lim (toL (nv a+nv b))):=by
 have cl:=λi=>Zhd a i (by omega) la;have cr:=λi=>Zhd b i (by omega) lb;refine Zaa (tok:=0) (rs:=[.tmp 4]) Tryz.func211 rfl Tryz.ntmps211 Tryz.results211 Tryz.call211 (by rfl) (by simp) ?_;(focus (refine wkvp w_t w_t ?_;(repeat' first|exact w_t|apply w_l);all_goals intros));refine Zej (Frz.nilOwn (d:=5) 39 1 169 (by exact gC)) ?_;refine Zad (ι:=Nat) (λk e m=>k≤max a.length b.length+1∧(e 0=lim a∧e 1=lim b∧e 7=.v (.int .i64 (k:Int)))∧∃sv o c,(e 5=.own 39 sv∧e 6=.v (.int .i64 (c:Nat))∧m 39=some (.row sv 169 1 (u16s o) 0))∧o.length=k∧Lm o∧c≤1∧(max a.length b.length < k→c=0)∧nv o+65536 ^ k*c=nv (a.take k)+nv (b.take k)) (λk=>max a.length b.length+1 - k) 0 (by rfl) ?_ ?_
 ·rintro k e m ⟨hk,⟨e0,e1,e7⟩,sv,o,c,⟨e5,e6,em⟩,hol,hLo,hc,hcz,hv⟩
  by_cases hgo:k < a.length∨k < b.length∨0 < c
  ·have ga:=Zbv la k;have gb:=Zbv lb k;have hs:=Zms (x:=gN a k) (y:=gN b k) hv;rw [←Zat,←Zat,←Nat.pow_succ] at hs;have ecomm:gN a k+gN b k+c=c+gN a k+gN b k:=by omega
   have w1:(c+gN a k+gN b k)/65536≤1:=by omega
   have w2:(c+gN a k+gN b k)%65536 < 65536:=Nat.mod_lt _ (by omega);have r1:((c+gN a k+gN b k:Nat):Int).tmod 65536=(((c+gN a k+gN b k)%65536:Nat):Int):=Zec _ 65536;have r2:((c+gN a k+gN b k:Nat):Int).tdiv 65536=(((c+gN a k+gN b k)/65536:Nat):Int):=Zc7 _ 65536;have r3:(c+gN a k+gN b k)%65536%65536=(c+gN a k+gN b k)%65536:=Nat.mod_mod _ _;have nvs:nv (o++[(c+gN a k+gN b k)%65536])=nv o+65536 ^ k*((c+gN a k+gN b k)%65536):=by rw [Zdb,hol];simp [nv]
   rw [←nvs] at hs
   have hz2:max a.length b.length < k+1→(c+gN a k+gN b k)/65536=0:=by
    intro h;have g1:gN a k=0:=Zdy (by omega);have g2:gN b k=0:=Zdy (by omega);omega
   have hkm:k≤max a.length b.length:=by omega
   have fin:=fun(sv:Value) (e:Nat→AV) (m:Mem) (h1:e 0=lim a∧e 1=lim b∧e 7=.v (.int .i64 ((k+1:Nat):Int))) (h2:e 5=.own 39 sv∧e 6=.v (.int .i64 ((c+gN a k+gN b k)/65536:Nat))∧m 39=some (.row sv 169 1 (u16s (o++[(c+gN a k+gN b k)%65536])) 0)) =>
    show ∃k',(k'≤max a.length b.length+1∧(e 0=lim a∧e 1=lim b∧e 7=.v (.int .i64 (k':Int)))∧∃sv o c,(e 5=.own 39 sv∧e 6=.v (.int .i64 (c:Nat))∧m 39=some (.row sv 169 1 (u16s o) 0))∧o.length=k'∧Lm o∧c≤1∧(max a.length b.length < k'→c=0)∧nv o+65536 ^ k'*c=nv (a.take k')+nv (b.take k'))∧max a.length b.length+1 - k' < max a.length b.length+1 - k from
    ⟨k+1,⟨by omega,h1,sv,_,_,h2,by simp [hol],hLo.append (Lm.one w2),w1,hz2,hs⟩,by omega⟩
   by_cases h3:k < a.length
   ·(focus (refine wkvp (w_14 e0 e1 e7 e5 e6 em hol @Zbx @Zas ecomm r1 r2 r3 @Zba) (w_2 (cl k) (cr k)) ?_;(repeat' first|exact w_t|apply w_l);all_goals intros));exact fin _ _ _ ⟨by exact gW e0,by exact gW e1,by exact gS⟩ ⟨by exact gC,by exact gC,by exact gC⟩
   ·by_cases h4:k < b.length
    ·(focus (refine wkvp (w_14 e0 e1 e7 e5 e6 em hol @Zbx @Zas ecomm r1 r2 r3 @Zba) (w_2 (cl k) (cr k)) ?_;(repeat' first|exact w_t|apply w_l);all_goals intros));exact fin _ _ _ ⟨by exact gW e0,by exact gW e1,by exact gS⟩ ⟨by exact gC,by exact gC,by exact gC⟩
    ·have hc1:0 < c:=by omega
     (focus (refine wkvp (w_14 e0 e1 e7 e5 e6 em hol @Zbx @Zas ecomm r1 r2 r3 @Zba) (w_2 (cl k) (cr k)) ?_;(repeat' first|exact w_t|apply w_l);all_goals intros));exact fin _ _ _ ⟨by exact gW e0,by exact gW e1,by exact gS⟩ ⟨by exact gC,by exact gC,by exact gC⟩
  ·have hc0:c=0:=by omega
   subst hc0;rw [Zbi (by omega),Zbi (by omega),Nat.mul_zero,Nat.add_zero] at hv
   (repeat' (first|(with_reducible first|refine stp ?_|apply gx1|apply gx2|apply gx3|apply gx4|apply gx5|apply gx6|apply gx7|apply gw1 (Zdu o (by omega) hLo))|(with_reducible refine Zao ?_;intro _)|((with_reducible refine gE ?_);(try simp (disch:=omega) only [go_sem,e0,e1,e7,e5,e6,em])<;>first|rfl|omega)|with_reducible refine Zab (by decide) ?_))
   simp (disch:=omega) only [go_sem,hv]
 ·exact⟨by omega,⟨by exact gC,by exact gC,by exact gC⟩,_,[],0,⟨by exact gC,by exact gC,by exact gC⟩,rfl,Lm.nil,by omega,λ_=>rfl,by simp [nv]⟩
theorem refSub (a b:List Nat) (ha:a.length≤1000000000) (hb:b.length≤1000000000) (la:Lm a) (lb:Lm b) :
 Pure Tryz.prog 236 [lim a,lim b] (.tup [lim (if nv a < nv b then [] else toL (nv a - nv b)),.v (.int .i64 (if nv a < nv b then 2 else 0))]):=by
 have cl:=λi=>Zhd a i ha la;have cr:=λi=>Zhd b i hb lb;have cc:=Zuv a b ha hb la lb;by_cases hlt:nv a < nv b
 ·rw [if_pos hlt,if_pos hlt];refine Pure.wk ?_ (okTup rfl);refine Zaa (tok:=0) (rs:=[.tmp 4,.tmp 5]) Tryz.func236 rfl Tryz.ntmps236 Tryz.results236 Tryz.call236 (by rfl) (by simp) ?_;have hc:cmpN (nv a) (nv b)=-1:=by unfold cmpN;rw [if_pos hlt]
  (focus (refine wkvp (w_1 hc) (w_1 cc) ?_;(repeat' first|exact w_t|apply w_l);all_goals intros));simp (disch:=omega) only [go_sem]
 ·rw [if_neg hlt,if_neg hlt];have hc:0≤cmpN (nv a) (nv b):=by unfold cmpN;rw [if_neg hlt];split<;>omega
  refine Zaa (tok:=0) (rs:=[.tmp 4,.tmp 5]) Tryz.func236 rfl Tryz.ntmps236 Tryz.results236 Tryz.call236 (by rfl) (by simp) ?_;(focus (refine wkvp w_t (w_1 cc) ?_;(repeat' first|exact w_t|apply w_l);all_goals intros));refine Zej (Frz.nilOwn (d:=6) 37 1 169 (by exact gC)) ?_;refine Zad (ι:=Nat) (λk e m=>k≤a.length∧(e 0=lim a∧e 1=lim b∧e 8=.v (.int .i64 (k:Int)))∧∃sv o r,(e 6=.own 37 sv∧e 7=.v (.int .i64 (r:Nat))∧m 37=some (.row sv 169 1 (u16s o) 0))∧o.length=k∧Lm o∧r≤1∧nv o+nv (b.take k)=nv (a.take k)+65536 ^ k*r) (λk=>a.length - k) 0 (by rfl) ?_ ?_
  ·rintro k e m ⟨hk,⟨e0,e1,e8⟩,sv,o,r,⟨e6,e7,em⟩,hol,hLo,hr,hv⟩
   have ga:=Zbv la k;have gb:=Zbv lb k;by_cases hlt2:k < a.length
   ·have step:∀(d r':Nat),d+r+gN b k=gN a k+65536*r'→d < 65536→r'≤1→(o++[d]).length=k+1∧Lm (o++[d])∧r'≤1∧nv (o++[d])+nv (b.take (k+1))=nv (a.take (k+1))+65536 ^ (k+1)*r':=by
     intro d r' hd h3 h4;have:=Zqq hv hd;have nvs:nv (o++[d])=nv o+65536 ^ k*d:=by rw [Zdb,hol];simp [nv]
     rw [nvs,Zat,Zat,Nat.pow_succ];exact⟨by simp [hol],hLo.append (Lm.one h3),h4,this⟩
    by_cases hneg:gN a k < gN b k+r
    ·have hs:=step (gN a k+65536 - gN b k - r) 1 (by omega) (by omega) (by omega);have w:(gN a k:Int) - gN b k - r+65536=((gN a k+65536 - gN b k - r:Nat):Int):=by omega
     (focus (refine wkvp (w_8 e0 e1 e8 e6 e7 em hol w) (w_2 (cl k) (cr k)) ?_;(repeat' first|exact w_t|apply w_l);all_goals intros));exact⟨k+1,⟨by omega,⟨by exact gW e0,by exact gW e1,by exact gV e8⟩,_,_,1,⟨by exact gC,by exact gC,by exact gC⟩,hs⟩,by omega⟩
    ·have hs:=step (gN a k - gN b k - r) 0 (by omega) (by omega) (by omega);have w:(gN a k:Int) - gN b k - r=((gN a k - gN b k - r:Nat):Int):=by omega
     (focus (refine wkvp (w_8 e0 e1 e8 e6 e7 em hol w) (w_2 (cl k) (cr k)) ?_;(repeat' first|exact w_t|apply w_l);all_goals intros));exact⟨k+1,⟨by omega,⟨by exact gW e0,by exact gW e1,by exact gV e8⟩,_,_,0,⟨by exact gC,by exact gC,by exact gC⟩,hs⟩,by omega⟩
   ·have hka:k=a.length:=by omega
    have hbs:=Zbz b k;have hno:=Zg5 hLo;rw [hol] at hno;rw [Zbi (l:=a) (by omega)] at hv
    have hno2:nv o=nv a - nv b:=by
     have hbd:nv (b.drop k)=0:=by
      rcases Nat.eq_zero_or_pos (nv (b.drop k)) with h3 | h3
      ·exact h3
      ·have h4:=Nat.le_mul_of_pos_right (65536 ^ k) h3;have h5:=Zg5 la;rw [←hka] at h5;omega
     rw [hbd,Nat.mul_zero,Nat.add_zero] at hbs
     have hr0:r=0:=by
      rcases Nat.eq_zero_or_pos r with h3 | h3
      ·exact h3
      ·have:r=1:=by omega
       subst this;omega
     subst hr0;omega
    (repeat' (first|(with_reducible first|refine stp ?_|apply gx1|apply gx2|apply gx3|apply gx4|apply gx5|apply gx6|apply gx7|apply gw1 (Zdu o (by omega) hLo))|(with_reducible refine Zao ?_;intro _)|((with_reducible refine gE ?_);(try simp (disch:=omega) only [go_sem,e0,e1,e8,e6,e7,em])<;>first|rfl|omega)|with_reducible refine Zab (by decide) ?_))
    simp (disch:=omega) only [go_sem,hno2]
  ·exact⟨Nat.zero_le _,⟨by exact gC,by exact gC,by exact gC⟩,_,[],0,⟨by exact gC,by exact gC,by exact gC⟩,rfl,Lm.nil,by omega,by simp [nv]⟩
def valL (l:List Nat):Bool:=decide (l.length=0) || !decide (gN l (l.length - 1)=0)
theorem Zhj {l:List Nat} (h:Lm l):valL l=true↔l=toL (nv l):=by
 unfold valL;constructor
 ·intro h1;refine canon h ?_;simp only [Bool.or_eq_true,decide_eq_true_eq,Bool.not_eq_true',decide_eq_false_iff_not] at h1;rcases h1 with h1 | h1
  ·exact .inl (List.eq_nil_of_length_eq_zero h1)
  ·exact .inr (by omega)
 ·intro h1;by_cases h0:nv l=0
  ·rw [h0,Zax] at h1;subst h1;rfl
  ·obtain⟨h2,h3⟩:=Zdt h0;rw [←h1] at h2 h3;simp only [Bool.or_eq_true,decide_eq_true_eq,Bool.not_eq_true',decide_eq_false_iff_not];exact .inr (by omega)
theorem Zq1 (l:List Nat) (hs:l.length≤1000000000) (hl:Lm l):Pure Tryz.prog 141 [lim l] (.v (.bool (valL l))):=by
 refine Zaa (tok:=0) (rs:=[.tmp 2]) Tryz.func141 rfl Tryz.ntmps141 Tryz.results141 Tryz.call141 (by rfl) (by simp) ?_;have gl:=Zbv hl (l.length - 1);unfold valL;by_cases h0:l.length=0
 ·(focus (refine wkvp (w_1 h0) w_t ?_;(repeat' first|exact w_t|apply w_l);all_goals intros));simp (disch:=omega) only [go_sem,h0]
 ·by_cases h1:gN l (l.length - 1)=0
  ·(focus (refine wkvp (w_2 h1 @Int.natCast_zero) w_t ?_;(repeat' first|exact w_t|apply w_l);all_goals intros));simp (disch:=omega) only [go_sem,h0,h1]
  ·(focus (refine wkvp w_t w_t ?_;(repeat' first|exact w_t|apply w_l);all_goals intros));simp (disch:=omega) only [go_sem,h0,h1]
theorem refSameN (a b:List Nat) (ha:a.length≤1000000000) (hb:b.length≤1000000000) (la:Lm a) (lb:Lm b):Pure Tryz.prog 142 [lim a,lim b] (.v (.bool (decide (a=b)))):=by
 refine Zaa (tok:=0) (rs:=[.tmp 4]) Tryz.func142 rfl Tryz.ntmps142 Tryz.results142 Tryz.call142 (by rfl) (by simp) ?_;by_cases hl:a.length=b.length
 ·(focus (refine wkvp (w_1 hl) w_t ?_;(repeat' first|exact w_t|apply w_l);all_goals intros));refine Zad (ι:=Nat) (λk e m=>k≤a.length∧(e 0=lim a∧e 1=lim b∧e 5=.v (.int .i64 (k:Int)))∧∀j,j < k→gN a j=gN b j) (λk=>a.length - k) 0 (by rfl) ?_ ?_
  ·rintro k e m ⟨hk,⟨e0,e1,e5⟩,hs⟩
   by_cases hlt:k < a.length
   ·by_cases p:gN a k=gN b k
    ·(focus (refine wkvd (w_3 e0 e1 e5) w_t w_t ?_;(repeat' first|exact w_t|apply w_l);all_goals intros));exact⟨k+1,⟨by omega,⟨by exact gW e0,by exact gW e1,by exact gV e5⟩,λj hj=>by
      rcases Nat.lt_or_ge j k with h1 | h1
      ·exact hs j h1
      ·rw [show j=k by omega];exact p⟩,by omega⟩
    ·have hne:decide (a=b)=false:=decide_eq_false λh=>p (by rw [h]);(focus (refine wkvd (w_3 e0 e1 e5) w_t w_t ?_;(repeat' first|exact w_t|apply w_l);all_goals intros));simp (disch:=omega) only [go_sem,hne]
   ·have he:decide (a=b)=true:=decide_eq_true (List.ext_getElem hl λj h1 h2=>by
     have:=hs j (by omega)
     rwa [gN_at h1,gN_at h2] at this)
    (focus (refine wkvd (w_3 e0 e1 e5) w_t w_t ?_;(repeat' first|exact w_t|apply w_l);all_goals intros));simp (disch:=omega) only [go_sem,he]
  ·exact⟨Nat.zero_le _,⟨by exact gC,by exact gC,by exact gC⟩,λj hj=>by omega⟩
 ·have hne:decide (a=b)=false:=decide_eq_false λh=>hl (by rw [h]);(focus (refine wkvp w_t w_t ?_;(repeat' first|exact w_t|apply w_l);all_goals intros));simp (disch:=omega) only [go_sem,hne]
theorem Zuu (a b:List Nat) (ha:a.length≤400000000) (hb:b.length≤400000000) (la:Lm a) (lb:Lm b):Pure Tryz.prog 155 [lim a,lim b] (lim (toL (nv a*nv b))):=by
 have cr:=λi=>Zhd b i (by omega) lb;refine Zaa (tok:=0) (rs:=[.tmp 4]) Tryz.func155 rfl Tryz.ntmps155 Tryz.results155 Tryz.call155 (by rfl) (by simp) ?_;(focus (refine wkvp (w_2 @Zas @Zbw) w_t ?_;(repeat' first|exact w_t|apply w_l);all_goals intros));refine Zad (ι:=Nat) (λi e m=>i≤a.length∧(e 0=lim a∧e 1=lim b∧e 6=.v (.int .i64 i))∧∃sv o,(e 5=.own 16 sv∧m 16=some (.row sv 169 1 (u16s o) 0))∧o.length=a.length+b.length+1∧Lm o∧(∀j,i+b.length≤j→gN o j=0)∧nv o=nv (a.take i)*nv b) (λi=>a.length - i) 0 (by rfl) ?_ ?_
 ·rintro i e m ⟨hi,⟨e0,e1,e6⟩,sv,o,⟨e5,em⟩,hol,hLo,hz,hv⟩
  by_cases hlt:i < a.length
  ·have gx:=Zbv la i;(focus (refine wkvp (w_7 e0 e1 e6 e5 em hol @Zas) w_t ?_;(repeat' first|exact w_t|apply w_l);all_goals intros));refine Zad (ι:=Nat) (λk e' m'=>k≤b.length+1∧(e' 0=lim a∧e' 1=lim b∧e' 6=.v (.int .i64 i)∧e' 8=.v (.int .i64 k)∧e' 5=.own 16 sv)∧∃o' c,(e' 7=.v (.int .u64 (c:Nat))∧m' 16=some (.row sv 169 1 (u16s o') 0))∧o'.length=a.length+b.length+1∧Lm o'∧c < 65536∧(b.length < k→c=0)∧(∀j,i+max b.length k≤j→gN o' j=0)∧nv o'+65536 ^ (i+k)*c=nv o+65536 ^ i*nv (b.take k)*gN a i) (λk=>b.length+1 - k) 0 (by rfl) ?_ ?_
   ·rintro k e m ⟨hk,⟨e0,e1,e6,e8,e5⟩,o',c,⟨e7,em⟩,hol',hLo',hc,hcz,hz',hv'⟩
    have gy:=Zbv lb k;have go:=Zbv hLo' (i+k);have bd:=Zn2 gx gy;by_cases hgo:k < b.length∨0 < c
    ·have hkb:k≤b.length:=by
      rcases hgo with h | h
      ·omega
      ·rcases Nat.lt_or_ge b.length k with h2 | h2
       ·have:=hcz h2;omega
       ·exact h2
     have hs:=Zri (x:=gN a i) (y:=gN b k) rfl (Znv (o:=o') (j:=i+k) (by omega) _) hv';rw [←Zrj,←Zat,←Nat.pow_succ,Nat.succ_eq_add_one,Nat.add_assoc i] at hs;have ecomm:gN o' (i+k)+gN a i*gN b k+c=c+(gN o' (i+k)+gN a i*gN b k):=by omega
     have hcz2:b.length < k+1→(c+(gN o' (i+k)+gN a i*gN b k))/65536=0:=by
      intro h;have g1:gN b k=0:=Zdy (by omega);have g2:=hz' (i+k) (by omega);rw [g1,g2];omega
     have w1:(c+(gN o' (i+k)+gN a i*gN b k))/65536 < 65536:=by omega
     have w2:(c+(gN o' (i+k)+gN a i*gN b k))%65536 < 65536:=by omega
     generalize hxy:gN a i*gN b k=xy at *;have r1:((c+(gN o' (i+k)+xy):Nat):Int).tmod 65536=(((c+(gN o' (i+k)+xy))%65536:Nat):Int):=Zec _ 65536;have r2:((c+(gN o' (i+k)+xy):Nat):Int).tdiv 65536=(((c+(gN o' (i+k)+xy))/65536:Nat):Int):=Zc7 _ 65536;have r3:(c+(gN o' (i+k)+xy))%65536%65536=(c+(gN o' (i+k)+xy))%65536:=Nat.mod_mod _ _;have hzz:∀j,i+max b.length (k+1)≤j→gN (o'.set (i+k) ((c+(gN o' (i+k)+xy))%65536)) j=0:=λj hj=>by
      rw [Ze8 (by omega),if_neg (by omega)];exact hz' j (by omega)
     by_cases h3:k < b.length
     ·(repeat' (first|(with_reducible first|refine stp ?_|apply gx1|apply gx2|apply gx3|apply gx4|apply gx5|apply gx6|apply gx7|apply gy8|apply gz2|apply gz3|refine gw0 (cr k) ?_ ?_|refine gw3 (cr k) ?_ ?_ ?_)|(with_reducible refine Zao ?_;intro _)|((with_reducible refine gE ?_);(try simp (disch:=omega) only [go_sem,e0,e1,e6,e8,e5,e7,em,hol',Zas,Zef,Zba,hxy,ecomm,r1,r2,r3])<;>first|rfl|omega)|with_reducible refine Zab (by decide) ?_|((with_reducible apply gy1);iterate 3 focus rfl)|((with_reducible apply gy2);iterate 3 focus rfl)|((with_reducible apply gy3);iterate 2 focus rfl)|((with_reducible apply gy4);iterate 1 focus rfl)|((with_reducible apply gy5);iterate 4 focus rfl)|((with_reducible apply gy5c);iterate 4 focus rfl)|((with_reducible apply gy6);iterate 4 focus rfl)|((with_reducible apply Za7);iterate 3 focus rfl)|((with_reducible apply Za6);iterate 1 focus rfl)|((with_reducible apply gy7);iterate 1 focus rfl)|((with_reducible apply gy9);(focus ((with_reducible refine gE ?_);(try simp (disch:=omega) only [go_sem,e0,e1,e6,e8,e5,e7,em,hol',Zas,Zef,Zba,hxy,ecomm,r1,r2,r3])<;>rfl)))|((with_reducible apply gz1);(focus first|rfl|(simp (disch:=omega) only [go_sem,e0,e1,e6,e8,e5,e7,em,hol',Zas,Zef,Zba,hxy,ecomm,r1,r2,r3];done)))|((with_reducible apply Zae (Zau [(14,.v (.int .i64 (gN b k:Nat)))]) [] []);(focus kernel_rfl);(focus rfl);(focus kernel_rfl);(focus (simp only [List.length_cons,List.length_nil,Nat.reduceAdd];rfl)))))
      exact⟨k+1,⟨by omega,⟨by exact gW e0,by exact gW e1,by exact gW e6,by exact gS,by exact gW e5⟩,_,_,⟨by exact gC,by exact gC⟩,by simpa using hol',hLo'.set _ w2,w1,hcz2,hzz,hs⟩,by omega⟩
     ·have hc1:0 < c:=by omega
      (repeat' (first|(with_reducible first|refine stp ?_|apply gx1|apply gx2|apply gx3|apply gx4|apply gx5|apply gx6|apply gx7|apply gy8|apply gz2|apply gz3|refine gw0 (cr k) ?_ ?_|refine gw3 (cr k) ?_ ?_ ?_)|(with_reducible refine Zao ?_;intro _)|((with_reducible refine gE ?_);(try simp (disch:=omega) only [go_sem,e0,e1,e6,e8,e5,e7,em,hol',Zas,Zef,Zba,hxy,ecomm,r1,r2,r3])<;>first|rfl|omega)|with_reducible refine Zab (by decide) ?_|((with_reducible apply gy1);iterate 3 focus rfl)|((with_reducible apply gy2);iterate 3 focus rfl)|((with_reducible apply gy3);iterate 2 focus rfl)|((with_reducible apply gy4);iterate 1 focus rfl)|((with_reducible apply gy5);iterate 4 focus rfl)|((with_reducible apply gy5c);iterate 4 focus rfl)|((with_reducible apply gy6);iterate 4 focus rfl)|((with_reducible apply Za7);iterate 3 focus rfl)|((with_reducible apply Za6);iterate 1 focus rfl)|((with_reducible apply gy7);iterate 1 focus rfl)|((with_reducible apply gy9);(focus ((with_reducible refine gE ?_);(try simp (disch:=omega) only [go_sem,e0,e1,e6,e8,e5,e7,em,hol',Zas,Zef,Zba,hxy,ecomm,r1,r2,r3])<;>rfl)))|((with_reducible apply gz1);(focus first|rfl|(simp (disch:=omega) only [go_sem,e0,e1,e6,e8,e5,e7,em,hol',Zas,Zef,Zba,hxy,ecomm,r1,r2,r3];done)))|((with_reducible apply Zae (Zau [(14,.v (.int .i64 (gN b k:Nat)))]) [] []);(focus kernel_rfl);(focus rfl);(focus kernel_rfl);(focus (simp only [List.length_cons,List.length_nil,Nat.reduceAdd];rfl)))))
      exact⟨k+1,⟨by omega,⟨by exact gW e0,by exact gW e1,by exact gW e6,by exact gS,by exact gW e5⟩,_,_,⟨by exact gC,by exact gC⟩,by simpa using hol',hLo'.set _ w2,w1,hcz2,hzz,hs⟩,by omega⟩
    ·have hc0:c=0:=by omega
     subst hc0;rw [Zbi (l:=b) (by omega),Nat.mul_zero,Nat.add_zero] at hv';(focus (refine wkvd (w_8 e0 e1 e6 e8 e5 e7 em @Int.natCast_zero) w_t w_t ?_;(repeat' first|exact w_t|apply w_l);all_goals intros));refine⟨i+1,⟨by omega,⟨by exact gW e0,by exact gW e1,by exact gS⟩,sv,o',⟨by exact gW e5,by exact gW em⟩,hol',hLo',λj hj=>hz' j (by omega),?_⟩,by omega⟩;rw [hv',hv,Zat,Nat.add_mul];congr 1;simp only [Nat.mul_assoc,Nat.mul_comm,Nat.mul_left_comm]
   ·exact⟨by omega,⟨by exact gW e0,by exact gW e1,by exact gW e6,by exact gC,by exact gW e5⟩,_,0,⟨by exact gC,by exact gW em⟩,hol,hLo,by omega,λ_=>rfl,λj hj=>hz j (by omega),by simp [nv]⟩
  ·have hiA:i=a.length:=by omega
   subst hiA;rw [Zbi (Nat.le_refl _)] at hv
   (repeat' (first|(with_reducible first|refine stp ?_|apply gx1|apply gx2|apply gx3|apply gx4|apply gx5|apply gx6|apply gx7|apply gw1 (Zdu o (by omega) hLo))|(with_reducible refine Zao ?_;intro _)|((with_reducible refine gE ?_);(try simp (disch:=omega) only [go_sem,e0,e1,e6,e5,em,hol])<;>first|rfl|omega)|with_reducible refine Zab (by decide) ?_))
   simp (disch:=omega) only [go_sem,hv]
 ·exact⟨Nat.zero_le _,⟨by exact gC,by exact gC,by exact gC⟩,_,List.replicate (a.length+b.length+1) 0,⟨by exact gC,by exact gC⟩,by simp,Lm.zeros _,λj hj=>Zgw _ _,by simp [nv,Zl2]⟩
theorem refDigit (R B:Nat) (hR:(toL R).length≤300000000) (hB:(toL B).length≤200000000) (h0:0 < B) (hlt:R < B*65536):Pure Tryz.prog 272 [lim (toL R),lim (toL B)] (.v (.int .u64 ((R/B:Nat):Int))):=by
 refine Zaa (tok:=0) (rs:=[.tmp 4]) Tryz.func272 rfl Tryz.ntmps272 Tryz.results272 Tryz.call272 (by rfl) (by simp) ?_;(focus (refine wkvp w_t w_t ?_;(repeat' first|exact w_t|apply w_l);all_goals intros));refine Zad (ι:=Nat × Nat) (λp e m=>(e 0=lim (toL R)∧e 1=lim (toL B)∧e 5=.v (.int .u64 (p.1:Int))∧e 6=.v (.int .u64 (p.2:Int)))∧p.1≤p.2∧p.2≤65535∧B*p.1≤R∧R < B*(p.2+1)) (λp=>p.2 - p.1) (0,65535) (by rfl) ?_ ?_
 ·rintro ⟨lo,hi⟩ e m ⟨⟨e0,e1,e5,e6⟩,h1,h2,h3,h4⟩
  simp only at e5 e6 h1 h2 h3 h4;by_cases hlh:lo < hi
  ·obtain⟨mid,hmid⟩:∃mid,(lo+hi+1)/2=mid:=⟨_,rfl⟩;have r2:((lo+hi+1:Nat):Int).tdiv 2=((mid:Nat):Int):=by rw [←hmid];exact Zc7 _ 2
   have co:=Ziy mid (by omega);have lm:(toL mid).length≤4:=Zag.2 (by omega);have cm:=Zuu (toL B) (toL mid) (by omega) (by omega) (Zam _) (Zam _);rw [Zal,Zal] at cm
   have lbm:(toL (B*mid)).length≤1000000000:=by
    have h5:(toL (B*mid)).length≤(toL B).length+4:=by
     rw [Zag,Nat.pow_add];have h6:=Zag.1 (Nat.le_refl (toL B).length);exact Nat.mul_lt_mul'' h6 (by omega)
    omega
   have cc:=Zuv (toL (B*mid)) (toL R) lbm (by omega) (Zam _) (Zam _);rw [Zal,Zal] at cc;by_cases hle:B*mid≤R
   ·have hc:cmpN (B*mid) R≤0:=by unfold cmpN;split;omega;split<;>omega
    (focus (refine wkvp (w_8 e0 e1 e5 e6 @Zas @Zbw r2 hc) (w_3 co cm cc) ?_;(repeat' first|exact w_t|apply w_l);all_goals intros));exact⟨(mid,hi),⟨⟨by exact gW e0,by exact gW e1,by exact gC,by exact gW e6⟩,by omega,h2,hle,h4⟩,by simp only;omega⟩
   ·have hc:0 < cmpN (B*mid) R:=by unfold cmpN;rw [if_neg (by omega),if_pos (by omega)];omega
    have em1:(mid:Int) - 1=((mid - 1:Nat):Int):=by omega
    (focus (refine wkvp (w_9 e0 e1 e5 e6 @Zas @Zbw r2 hc em1) (w_3 co cm cc) ?_;(repeat' first|exact w_t|apply w_l);all_goals intros));exact⟨(lo,mid - 1),⟨⟨by exact gW e0,by exact gW e1,by exact gW e5,by exact gC⟩,by simp only;omega,by simp only;omega,h3,by simp only;rw [show mid - 1+1=mid by omega];omega⟩,by simp only;omega⟩
  ·have hh:lo=hi:=by omega
   subst hh;have hd:R/B=lo:=Nat.div_eq_of_lt_le (by rw [Nat.mul_comm];exact h3) (by rw [Nat.mul_comm];exact h4);(focus (refine wkvp (w_4 e0 e1 e5 e6) w_t ?_;(repeat' first|exact w_t|apply w_l);all_goals intros));simp (disch:=omega) only [go_sem,hd]
 ·exact⟨⟨by exact gC,by exact gC,by exact gC,by exact gC⟩,by simp,by simp,by simp,by simpa using hlt⟩
theorem Zm2 (x:Nat) (l:List Nat):AV.v (.int .u16 (x:Int)) :: u16s l=u16s (x :: l):=rfl
theorem Zng (a b:List Nat) (ha:a.length≤200000000) (hb:b.length≤200000000) (la:Lm a) (lb:Lm b) (h0:nv b≠0):Pure Tryz.prog 208 [lim a,lim b] (.tup [lim (toL (nv a/nv b)),lim (toL (nv a%nv b)),.v (.int .i64 0)]):=by
 have h1:=Zaq la;have h2:=Zaq lb;have va:=Zal (nv a);have vb:=Zal (nv b);have ma:=Zam (nv a);have mb:=Zam (nv b);have hb1:=(Zdt h0).1;have hbp:=Nat.pos_of_ne_zero h0;by_cases h4:(toL (nv a)).length≤4∧(toL (nv b)).length≤4
 ·obtain⟨h4a,h4b⟩:=h4;have ca:=Zq2 (toL (nv a)) h4a ma;have cb:=Zq2 (toL (nv b)) h4b mb;rw [va] at ca;rw [vb] at cb;have hA:=Zag.1 h4a;have hB:=Zag.1 h4b;have hq:=Nat.div_le_self (nv a) (nv b);have hr:=Nat.mod_le (nv a) (nv b);have cq:=Ziy (nv a/nv b) (by omega);have cr:=Ziy (nv a%nv b) (by omega);have wq:IntKind.u64.wrap ((nv a/nv b:Nat):Int)=((nv a/nv b:Nat):Int):=Zdz (Int.natCast_nonneg _) (by
   have:((nv a/nv b:Nat):Int)≤(nv a:Int):=Int.ofNat_le.2 hq;omega)
  have hn:((nv b:Nat):Int)≠0:=by omega
  refine Zaa (tok:=0) (rs:=[.tmp 4,.tmp 5,.tmp 6]) Tryz.func208 rfl Tryz.ntmps208 Tryz.results208 Tryz.call208 (by rfl) (by simp) ?_;(focus (refine wkvd (w_4 @Zc7 @Zec wq hn) (w_6 (Zdu a (by omega) la) (Zdu b (by omega) lb) ca cb cq cr) w_t ?_;(repeat' first|exact w_t|apply w_l);all_goals intros));simp (disch:=omega) only [go_sem]
 ·have h4':((toL (nv a)).length≤4)→4 < (toL (nv b)).length:=λh=>by
   rcases Nat.lt_or_ge 4 (toL (nv b)).length with h3 | h3
   ·exact h3
   ·exact absurd ⟨h,h3⟩ h4
  obtain⟨A,hA⟩:∃A,toL (nv a)=A:=⟨_,rfl⟩;rw [hA] at va ma h1 h4';refine Zaa (tok:=0) (rs:=[.tmp 4,.tmp 5,.tmp 6]) Tryz.func208 rfl Tryz.ntmps208 Tryz.results208 Tryz.call208 (by rfl) (by simp) ?_;rcases Nat.lt_or_ge 4 A.length with h5 | h5
  rotate_left
  have h6:=h4' h5;all_goals
   (focus (refine wkvp (w_1 hA) (w_2 (Zdu a (by omega) la) (Zdu b (by omega) lb)) ?_;(repeat' first|exact w_t|apply w_l);all_goals intros));rw [hA];refine Zej (Frz.trans (Frz.nil (d:=7) 1 (by exact gC)) (Frz.nil (d:=8) 1 (by exact gC))) ?_;refine Zu3 (ι:=Nat) (λk e m=>k≤A.length∧(e 0=lim A∧e 1=lim (toL (nv b))∧e 9=.v (.int .i64 ((k:Int) - 1)))∧∃ql R,(e 7=lim ql∧e 8=lim (toL R))∧ql.length=A.length - k∧Lm ql∧R < nv b∧nv (A.drop k)=nv ql*nv b+R) (λk=>k) A.length (by rfl) ?_ ?_
   ·rintro k e m ⟨hk,⟨e0,e1,e9⟩,ql,R,⟨e7,e8⟩,hql,hqL,hR,hv⟩
    by_cases hk0:k=0
    ·subst hk0;rw [List.drop_zero,va] at hv;have hq:nv ql=nv a/nv b:=by rw [hv,Nat.mul_comm,Nat.mul_add_div hbp,Nat.div_eq_of_lt hR,Nat.add_zero]
     have hr:R=nv a%nv b:=by rw [hv,Nat.mul_comm,Nat.mul_add_mod,Nat.mod_eq_of_lt hR]
     have cn:=Zdu ql (by omega) hqL;rw [hq] at cn;rw [hr] at e8;(focus (refine wkvp (w_5 e0 e1 e9 e7 e8) (w_1 cn) ?_;(repeat' first|exact w_t|apply w_l);all_goals intros));simp (disch:=omega) only [go_sem]
    ·obtain⟨j,rfl⟩:∃j,k=j+1:=⟨k - 1,by omega⟩;have ej:((j+1:Nat):Int) - 1=(j:Int):=by omega
     rw [ej] at e9;have gx:=Zbv ma j;have hRl:(toL R).length≤(toL (nv b)).length:=Za5 (by omega);have cn:=Zdu (gN A j :: toL R) (by simp;omega) (λy hy=>by
      rcases List.mem_cons.1 hy with rfl | hy
      ·exact gx
      ·exact Zam R y hy)
     have en:nv (gN A j :: toL R)=gN A j+65536*R:=by rw [nv,Zal]
     rw [en] at cn;have hX:gN A j+65536*R < nv b*65536:=by omega
     obtain⟨X,hXd⟩:∃X,gN A j+65536*R=X:=⟨_,rfl⟩;rw [hXd] at cn hX
     have hXl:(toL X).length≤(toL (nv b)).length+1:=by
      rw [Zag,Nat.pow_succ];exact Nat.lt_of_lt_of_le hX (Nat.mul_le_mul_right _ (Nat.le_of_lt (Zag.1 (Nat.le_refl (toL (nv b)).length))))
     have cd:=refDigit X (nv b) (by omega) (by omega) hbp hX;have hd:X/nv b < 65536:=by rw [Nat.div_lt_iff_lt_mul hbp,Nat.mul_comm];exact hX
     have hdm:=Nat.div_add_mod X (nv b);have hml:=Nat.mod_lt X hbp;have co:=Ziy (X/nv b) (by omega);have ld:(toL (X/nv b)).length≤1:=Zag.2 (by omega);have cm:=Zuu (toL (nv b)) (toL (X/nv b)) (by omega) (by omega) (Zam _) (Zam _);rw [Zal,Zal] at cm;have hle:nv b*(X/nv b)≤X:=by omega
     have cs:=refSub (toL X) (toL (nv b*(X/nv b))) (by omega) (Nat.le_trans (Za5 hle) (by omega)) (Zam _) (Zam _);rw [Zal,Zal,if_neg (by omega),if_neg (by omega),show X - nv b*(X/nv b)=X%nv b by omega] at cs;have hcut:X/nv b%65536=X/nv b:=Nat.mod_eq_of_lt hd
     (repeat' (first|(with_reducible first|refine stp ?_|apply gx1|apply gx2|apply gx3|apply gx4|apply gx5|apply gx6|apply gx7|apply gw1 (cn)|refine gw0 (cd) ?_ ?_|refine gw0 (co) ?_ ?_|refine gw0 (cm) ?_ ?_|refine gw0 (cs) ?_ ?_)|(with_reducible refine Zao ?_;intro _)|((with_reducible refine gE ?_);(try simp (disch:=omega) only [go_sem,e0,e1,e9,e7,e8,Zm2,Zba,hcut])<;>first|rfl|omega)|with_reducible refine Zab (by decide) ?_))
     refine⟨j,_,Frz.own (d:=7) (by exact gC) (by exact gC),⟨by omega,⟨by exact gW e0,by exact gW e1,by exact gC⟩,X/nv b :: ql,X%nv b,⟨by(simp (disch:=omega) only [go_sem,Zm2]<;>repeat' first|rfl|refine⟨?_,?_⟩),by exact gC⟩,by simp [hql];omega,?_,hml,?_⟩,by omega⟩
     ·intro y hy;rcases List.mem_cons.1 hy with rfl | hy
      ·exact hd
      ·exact hqL y hy
     ·rw [Zb2,hv,nv,Nat.add_mul,Nat.mul_add 65536,←hXd];rw [←hXd] at hdm;rw [Nat.mul_comm] at hdm;have:65536*(nv ql*nv b)=65536*nv ql*nv b:=by rw [Nat.mul_assoc]
      omega
   ·exact⟨Nat.le_refl _,⟨by exact gC,by exact gC,by exact gC⟩,[],0,⟨by(simp (disch:=omega) only [go_sem,Zqm]<;>repeat' first|rfl|refine⟨?_,?_⟩),by(simp (disch:=omega) only [go_sem,Zax,Zqm]<;>repeat' first|rfl|refine⟨?_,?_⟩)⟩,by simp,Lm.nil,hbp,by rw [List.drop_eq_nil_of_le (Nat.le_refl _)];simp [nv]⟩
theorem refGcd (a b:List Nat) (ha:a.length≤200000000) (hb:b.length≤200000000) (la:Lm a) (lb:Lm b):Pure Tryz.prog 143 [lim a,lim b] (lim (toL (Nat.gcd (nv a) (nv b)))):=by
 have h1:=Zaq la;have h2:=Zaq lb
 have cd:∀x y:Nat,(toL x).length≤200000000→(toL y).length≤200000000→y≠0→Pure Tryz.prog 208 [lim (toL x),lim (toL y)] (.tup [lim (toL (x/y)),lim (toL (x%y)),.v (.int .i64 0)]):=by
  intro x y hx hy h0;have:=Zng (toL x) (toL y) hx hy (Zam x) (Zam y) (by rw [Zal];exact h0)
  rwa [Zal,Zal] at this
 refine Zaa (tok:=0) (rs:=[.tmp 4]) Tryz.func143 rfl Tryz.ntmps143 Tryz.results143 Tryz.call143 (by rfl) (by simp) ?_;(focus (refine wkvp w_t (w_2 (Zdu a (by omega) la) (Zdu b (by omega) lb)) ?_;(repeat' first|exact w_t|apply w_l);all_goals intros));refine Zad (ι:=Nat) (λy e m=>∃x,(e 0=lim (toL x)∧e 1=lim (toL y))∧(toL x).length≤200000000∧(toL y).length≤200000000∧Nat.gcd x y=Nat.gcd (nv a) (nv b)) (λy=>y) (nv b) (by rfl) ?_ ?_
 ·rintro y e m ⟨x,⟨e0,e1⟩,hx,hy,hg⟩
  rcases Nat.eq_zero_or_pos y with h0 | h0
  ·subst h0;have hl:=Zbo.2 (rfl:(0:Nat)=0);rw [Nat.gcd_zero_right] at hg;(focus (refine wkvp (w_3 e0 e1 hl) w_t ?_;(repeat' first|exact w_t|apply w_l);all_goals intros));simp (disch:=omega) only [go_sem,hg]
  ·have hl:0 < (toL y).length:=by
    have:=(Zdt (show y≠0 by omega)).1;omega
   have hm:=Nat.mod_lt x h0;have hml:(toL (x%y)).length≤200000000:=Nat.le_trans (Za5 (Nat.le_of_lt hm)) hy;have hgg:Nat.gcd y (x%y)=Nat.gcd (nv a) (nv b):=by rw [←hg,Nat.gcd_comm x y,Nat.gcd_rec y x,Nat.gcd_comm]
   (focus (refine wkvp (w_2 e0 e1) (w_1 (cd x y hx hy (by omega))) ?_;(repeat' first|exact w_t|apply w_l);all_goals intros));exact⟨x%y,⟨y,⟨by exact gW e1,by exact gC⟩,hy,hml,hgg⟩,hm⟩
 ·exact⟨nv a,⟨by exact gC,by exact gC⟩,by omega,by omega,rfl⟩
theorem nAdd (n m:Nat) (hn:(toL n).length≤100000000) (hm:(toL m).length≤100000000):Pure Tryz.prog 247 [lim (toL n),lim (toL m)] (lim (toL (n+m))):=by
 have:=natAdd (toL n) (toL m) (by omega) (by omega) (Zam _) (Zam _)
 rwa [Zal,Zal] at this
theorem nMul (n m:Nat) (hn:(toL n).length≤100000000) (hm:(toL m).length≤100000000):Pure Tryz.prog 94 [lim (toL n),lim (toL m)] (lim (toL (n*m))):=by
 have:=natMul (toL n) (toL m) (by omega) (by omega) (Zam _) (Zam _)
 rwa [Zal,Zal] at this
theorem nCmp (n m:Nat) (hn:(toL n).length≤100000000) (hm:(toL m).length≤100000000):Pure Tryz.prog 240 [lim (toL n),lim (toL m)] (.v (.int .i64 (cmpN n m))):=by
 have:=Zrg (toL n) (toL m) (by omega) (by omega) (Zam _) (Zam _)
 rwa [Zal,Zal] at this
theorem nSub (n m:Nat) (hn:(toL n).length≤100000000) (hm:(toL m).length≤100000000):Pure Tryz.prog 248 [lim (toL n),lim (toL m)] (.tup [lim (if n < m then [] else toL (n - m)),.v (.int .i64 (if n < m then 2 else 0))]):=by
 have:=natSub (toL n) (toL m) (by omega) (by omega) (Zam _) (Zam _)
 rwa [Zal,Zal] at this
theorem Zv0 (n m:Nat) (hn:(toL n).length≤100000000) (hm:(toL m).length≤100000000) (h0:m≠0):Pure Tryz.prog 168 [lim (toL n),lim (toL m)] (.tup [lim (toL (n/m)),lim (toL (n%m)),.v (.int .i64 0)]):=by
 have:=Zny (toL n) (toL m) (by omega) (by omega) (Zam _) (Zam _) (by rw [Zal];exact h0)
 rwa [Zal,Zal] at this
theorem nGcd (n m:Nat) (hn:(toL n).length≤100000000) (hm:(toL m).length≤100000000):Pure Tryz.prog 145 [lim (toL n),lim (toL m)] (lim (toL (Nat.gcd n m))):=by
 have:=natGcd (toL n) (toL m) (by omega) (by omega) (Zam _) (Zam _)
 rwa [Zal,Zal] at this
theorem Zn0 (n:Nat) (hn:(toL n).length≤100000000):Pure Tryz.prog 166 [lim (toL n)] (lim (toL n)):=by
 have:=Zl4 (toL n) (by omega) (Zam _)
 rwa [Zal] at this
theorem Zv1 (n:Nat) (hn:(toL n).length≤100000000):Pure Tryz.prog 165 [lim (toL n)] (.v (.int .i64 (Zmo n:Nat))):=by
 have:=natBits (toL n) (by omega) (Zam _)
 rwa [Zal] at this
theorem rAdd (n m:Nat) (hn:(toL n).length≤100000000) (hm:(toL m).length≤100000000):Pure Tryz.prog 211 [lim (toL n),lim (toL m)] (lim (toL (n+m))):=by
 have:=refAdd (toL n) (toL m) (by omega) (by omega) (Zam _) (Zam _)
 rwa [Zal,Zal] at this
theorem rMul (n m:Nat) (hn:(toL n).length≤100000000) (hm:(toL m).length≤100000000):Pure Tryz.prog 155 [lim (toL n),lim (toL m)] (lim (toL (n*m))):=by
 have:=Zuu (toL n) (toL m) (by omega) (by omega) (Zam _) (Zam _)
 rwa [Zal,Zal] at this
theorem rCmp (n m:Nat) (hn:(toL n).length≤100000000) (hm:(toL m).length≤100000000):Pure Tryz.prog 237 [lim (toL n),lim (toL m)] (.v (.int .i64 (cmpN n m))):=by
 have:=Zuv (toL n) (toL m) (by omega) (by omega) (Zam _) (Zam _)
 rwa [Zal,Zal] at this
theorem rSub (n m:Nat) (hn:(toL n).length≤100000000) (hm:(toL m).length≤100000000):Pure Tryz.prog 236 [lim (toL n),lim (toL m)] (.tup [lim (if n < m then [] else toL (n - m)),.v (.int .i64 (if n < m then 2 else 0))]):=by
 have:=refSub (toL n) (toL m) (by omega) (by omega) (Zam _) (Zam _)
 rwa [Zal,Zal] at this
theorem Zu5 (n m:Nat) (hn:(toL n).length≤100000000) (hm:(toL m).length≤100000000) (h0:m≠0):Pure Tryz.prog 208 [lim (toL n),lim (toL m)] (.tup [lim (toL (n/m)),lim (toL (n%m)),.v (.int .i64 0)]):=by
 have:=Zng (toL n) (toL m) (by omega) (by omega) (Zam _) (Zam _) (by rw [Zal];exact h0)
 rwa [Zal,Zal] at this
theorem rGcd (n m:Nat) (hn:(toL n).length≤100000000) (hm:(toL m).length≤100000000):Pure Tryz.prog 143 [lim (toL n),lim (toL m)] (lim (toL (Nat.gcd n m))):=by
 have:=refGcd (toL n) (toL m) (by omega) (by omega) (Zam _) (Zam _)
 rwa [Zal,Zal] at this
theorem rNorm (n:Nat) (hn:(toL n).length≤100000000):Pure Tryz.prog 207 [lim (toL n)] (lim (toL n)):=by
 have:=Zdu (toL n) (by omega) (Zam _)
 rwa [Zal] at this
theorem szB:szOf Tryz.prog 4=some 1:=by kernel_rfl
theorem zB:Zav Tryz.prog 4=some (.bool false):=by kernel_rfl
theorem Zbe:szOf Tryz.prog 41=some 1:=by kernel_rfl
theorem zNat:Zav Tryz.prog 41=some (.slice none 0 0):=by kernel_rfl
theorem Zbf:szOf Tryz.prog 43=some 2:=by kernel_rfl
theorem zInt:Zav Tryz.prog 43=some (.agg #[.bool false,.slice none 0 0]):=by kernel_rfl
theorem Zbd:szOf Tryz.prog 45=some 3:=by kernel_rfl
theorem zRat:Zav Tryz.prog 45=some (.agg #[.bool false,.slice none 0 0,.slice none 0 0]):=by kernel_rfl
abbrev intA (s:Bool) (n:Nat):AV:=.agg [.v (.bool s),lim (toL n)]
def zI (s:Bool) (n:Nat):Int:=if s then -(n:Int) else n
abbrev intZ (z:Int):AV:=intA (decide (z < 0)) z.natAbs
theorem Zb8 (z:Int):zI (decide (z < 0)) z.natAbs=z:=by
 unfold zI;by_cases h:z < 0
 ·rw [if_pos (by simpa using h)];omega
 ·rw [if_neg (by simpa using h)];omega
theorem Zdo (s:Bool) (n:Nat):(zI s n).natAbs=n:=by cases s<;>simp [zI]
theorem zI_lt (s:Bool) (n:Nat):decide (zI s n < 0)=(s && decide (0 < n)):=by
 cases s
 ·simp [zI]
 ·simp only [zI,if_true,Bool.true_and];by_cases h:0 < n
  ·rw [decide_eq_true (by omega),decide_eq_true h]
  ·rw [decide_eq_false (by omega),decide_eq_false h]
theorem Zic (s:Bool) (n:Nat):intZ (zI s n)=.agg [.v (.bool (s && decide (0 < n))),lim (toL n)]:=by
 unfold intZ intA;rw [zI_lt,Zdo]
theorem Zbb {n:Nat}:(0 < (toL n).length)↔0 < n:=by
 have:=@Zbo n;omega
attribute [local go_sem] Tryz.underlying4 Tryz.underlying43 Tryz.underlying45 Tryz.underlying36 Tryz.underlying185 szB zB Zbe zNat Zbf zInt Zbd zRat
theorem Zgc (s:Bool) (n:Nat) (hn:(toL n).length≤1000000000):Pure Tryz.prog 170 [.v (.bool s),lim (toL n)] (intZ (zI s n)):=by
 rw [Zic];have hp:=@Zbb n;cases s
 ·refine Zaa (tok:=0) Tryz.func170 rfl Tryz.ntmps170 Tryz.results170 Tryz.call170 (by rfl) (by simp) ?_;(focus (refine wkvp w_t w_t ?_;(repeat' first|exact w_t|apply w_l);all_goals intros));simp (disch:=omega) only [go_sem,Bool.false_and]
 ·by_cases h:0 < n
  ·refine Zaa (tok:=0) Tryz.func170 rfl Tryz.ntmps170 Tryz.results170 Tryz.call170 (by rfl) (by simp) ?_;(focus (refine wkvp w_t w_t ?_;(repeat' first|exact w_t|apply w_l);all_goals intros));simp (disch:=omega) only [go_sem,decide_eq_true h]
  ·refine Zaa (tok:=0) Tryz.func170 rfl Tryz.ntmps170 Tryz.results170 Tryz.call170 (by rfl) (by simp) ?_;(focus (refine wkvp w_t w_t ?_;(repeat' first|exact w_t|apply w_l);all_goals intros));simp (disch:=omega) only [go_sem,decide_eq_false h]
theorem intOf' (s:Bool) (n:Nat) (hn:(toL n).length≤100000000):Pure Tryz.prog 242 [.v (.bool s),lim (toL n)] (intZ (zI s n)):=by
 rw [Zic];have hp:=@Zbb n;cases s
 ·refine Zaa (tok:=0) Tryz.func242 rfl Tryz.ntmps242 Tryz.results242 Tryz.call242 (by rfl) (by simp) ?_;(focus (refine wkvp w_t (w_1 (Zn0 n hn)) ?_;(repeat' first|exact w_t|apply w_l);all_goals intros));simp (disch:=omega) only [go_sem,Bool.false_and]
 ·by_cases h:0 < n
  ·refine Zaa (tok:=0) Tryz.func242 rfl Tryz.ntmps242 Tryz.results242 Tryz.call242 (by rfl) (by simp) ?_;(focus (refine wkvp w_t (w_1 (Zn0 n hn)) ?_;(repeat' first|exact w_t|apply w_l);all_goals intros));simp (disch:=omega) only [go_sem,decide_eq_true h]
  ·refine Zaa (tok:=0) Tryz.func242 rfl Tryz.ntmps242 Tryz.results242 Tryz.call242 (by rfl) (by simp) ?_;(focus (refine wkvp w_t (w_1 (Zn0 n hn)) ?_;(repeat' first|exact w_t|apply w_l);all_goals intros));simp (disch:=omega) only [go_sem,decide_eq_false h]
theorem intNorm (s:Bool) (n:Nat) (hn:(toL n).length≤100000000):Pure Tryz.prog 167 [intA s n] (intZ (zI s n)):=by
 refine Zaa (tok:=0) Tryz.func167 rfl Tryz.ntmps167 Tryz.results167 Tryz.call167 (by rfl) (by simp) ?_;(focus (refine wkvp w_t (w_1 (intOf' s n hn)) ?_;(repeat' first|exact w_t|apply w_l);all_goals intros));simp (disch:=omega) only [go_sem]
theorem Zp3 (s:Bool) (n:Nat) (hn:(toL n).length≤100000000):Pure Tryz.prog 98 [intA s n] (.v (.int .i64 (zI s n).sign)):=by
 by_cases h:n=0
 ·have hb:Zmo n=0:=Zgz.2 h;have hz:(zI s n).sign=0:=by subst h;cases s<;>rfl
  rw [hz];refine Zaa (tok:=0) Tryz.func98 rfl Tryz.ntmps98 Tryz.results98 Tryz.call98 (by rfl) (by simp) ?_;(focus (refine wkvp (w_2 hb @Int.natCast_zero) (w_1 (Zv1 n hn)) ?_;(repeat' first|exact w_t|apply w_l);all_goals intros));simp (disch:=omega) only [go_sem]
 ·have hb:Zmo n≠0:=λe=>h (Zgz.1 e);cases s
  ·have hz:(zI false n).sign=1:=Int.sign_eq_one_of_pos (by simp [zI];omega);rw [hz];refine Zaa (tok:=0) Tryz.func98 rfl Tryz.ntmps98 Tryz.results98 Tryz.call98 (by rfl) (by simp) ?_;(focus (refine wkvp w_t (w_1 (Zv1 n hn)) ?_;(repeat' first|exact w_t|apply w_l);all_goals intros));simp (disch:=omega) only [go_sem]
  ·have hz:(zI true n).sign=-1:=Int.sign_eq_neg_one_of_neg (by simp [zI];omega);rw [hz];refine Zaa (tok:=0) Tryz.func98 rfl Tryz.ntmps98 Tryz.results98 Tryz.call98 (by rfl) (by simp) ?_;(focus (refine wkvp w_t (w_1 (Zv1 n hn)) ?_;(repeat' first|exact w_t|apply w_l);all_goals intros));simp (disch:=omega) only [go_sem]
def cmpZ (a b:Int):Int:=if a < b then -1 else if b < a then 1 else 0
theorem Zmc (n m:Nat) (hn:(toL n).length≤100000000) (hm:(toL m).length≤100000000):Pure Tryz.prog 239 [lim (toL n),lim (toL m)] (.v (.int .i64 (cmpN n m))):=by
 refine Zaa (tok:=0) Tryz.func239 rfl Tryz.ntmps239 Tryz.results239 Tryz.call239 (by rfl) (by simp) ?_;(focus (refine wkvp w_t (w_1 (nCmp n m hn hm)) ?_;(repeat' first|exact w_t|apply w_l);all_goals intros));simp (disch:=omega) only [go_sem]
theorem intCmp (s t:Bool) (n m:Nat) (hn:(toL n).length≤100000000) (hm:(toL m).length≤100000000):Pure Tryz.prog 164 [intA s n,intA t m] (.v (.int .i64 (cmpZ (zI s n) (zI t m)))):=by
 have cs:=Zp3 s n hn;have ct:=Zp3 t m hm;rcases Int.lt_trichotomy (zI s n).sign (zI t m).sign with h | h | h
 ·have hc:cmpZ (zI s n) (zI t m)=-1:=by
   unfold cmpZ;rw [if_pos];rcases Int.lt_trichotomy (zI s n) 0 with h1 | h1 | h1<;>rcases Int.lt_trichotomy (zI t m) 0 with h2 | h2 | h2<;>first
    | omega
    | (exfalso;simp [Int.sign_eq_neg_one_of_neg,Int.sign_eq_one_of_pos,h1,h2] at h)
  rw [hc];refine Zaa (tok:=0) Tryz.func164 rfl Tryz.ntmps164 Tryz.results164 Tryz.call164 (by rfl) (by simp) ?_
  (repeat' (first|(with_reducible first|refine stp ?_|apply gx1|apply gx2|apply gx3|apply gx4|apply gx5|apply gx6|apply gx7|apply gy8|apply gz2|apply gz3|refine gw0 (cs) ?_ ?_|refine gw3 (cs) ?_ ?_ ?_|refine gw0 (ct) ?_ ?_|refine gw3 (ct) ?_ ?_ ?_)|(with_reducible refine Zao ?_;intro _)|((with_reducible refine gE ?_);(try simp (disch:=omega) only [go_sem])<;>first|rfl|omega)|with_reducible refine Zab (by decide) ?_|((with_reducible apply gy1);iterate 3 focus rfl)|((with_reducible apply gy2);iterate 3 focus rfl)|((with_reducible apply gy3);iterate 2 focus rfl)|((with_reducible apply gy4);iterate 1 focus rfl)|((with_reducible apply gy5);iterate 4 focus rfl)|((with_reducible apply gy5c);iterate 4 focus rfl)|((with_reducible apply gy6);iterate 4 focus rfl)|((with_reducible apply Za7);iterate 3 focus rfl)|((with_reducible apply Za6);iterate 1 focus rfl)|((with_reducible apply gy7);iterate 1 focus rfl)|((with_reducible apply gy9);(focus ((with_reducible refine gE ?_);(try simp (disch:=omega) only [go_sem])<;>rfl)))|((with_reducible apply gz1);(focus first|rfl|(simp (disch:=omega) only [go_sem];done)))|((with_reducible apply Zae (Zau [(1,.v (.int .i64 (zI s n).sign)),(3,.v (.int .i64 (zI t m).sign))]) [] []);(focus kernel_rfl);(focus rfl);(focus kernel_rfl);(focus (simp only [List.length_cons,List.length_nil,Nat.reduceAdd];rfl)))))
  simp (disch:=omega) only [go_sem]
 ·have hcc:cmpZ (zI s n) (zI t m)=if (zI s n).sign < 0 then cmpN m n else cmpN n m:=by
   unfold cmpZ cmpN;cases s<;>cases t<;>simp only [zI,if_true,Bool.false_eq_true,if_false] at h ⊢
   ·have hs0:¬(n:Int).sign < 0:=by
     have:=Int.sign_nonneg_iff.2 (Int.natCast_nonneg n);omega
    simp only [hs0,if_false,Int.ofNat_lt]
   ·have h1:=Int.sign_nonneg_iff.2 (Int.natCast_nonneg n)
    have h2:(-(m:Int)).sign≤0:=by
     rcases Nat.eq_zero_or_pos m with h3 | h3
     ·subst h3;simp
     ·rw [Int.sign_eq_neg_one_of_neg (by omega)];omega
    have h3:(n:Int).sign=0:=by omega
    have h4:n=0:=by have:=Int.sign_eq_zero_iff_zero.1 h3;omega
    have h5:m=0:=by rw [h3] at h;have:=Int.sign_eq_zero_iff_zero.1 h.symm;omega
    subst h4;subst h5;simp
   ·have h1:=Int.sign_nonneg_iff.2 (Int.natCast_nonneg m)
    have h2:(-(n:Int)).sign≤0:=by
     rcases Nat.eq_zero_or_pos n with h3 | h3
     ·subst h3;simp
     ·rw [Int.sign_eq_neg_one_of_neg (by omega)];omega
    have h3:(m:Int).sign=0:=by omega
    have h4:m=0:=by have:=Int.sign_eq_zero_iff_zero.1 h3;omega
    have h5:n=0:=by rw [h3] at h;have:=Int.sign_eq_zero_iff_zero.1 h;omega
    subst h4;subst h5;simp
   ·rcases Nat.eq_zero_or_pos n with h3 | h3
    ·subst h3;have h5:m=0:=by have:=Int.sign_eq_zero_iff_zero.1 h.symm;omega
     subst h5;simp
    ·rw [if_pos (c:=(-(n:Int)).sign < 0) (by rw [Int.sign_eq_neg_one_of_neg (by omega)];omega)];have e1:(-(n:Int) < -(m:Int))↔m < n:=by omega
     have e2:(-(m:Int) < -(n:Int))↔n < m:=by omega
     simp only [e1,e2]
  rw [hcc];by_cases hneg:(zI s n).sign < 0
  ·rw [if_pos hneg];refine Zaa (tok:=0) Tryz.func164 rfl Tryz.ntmps164 Tryz.results164 Tryz.call164 (by rfl) (by simp) ?_
   (repeat' (first|(with_reducible first|refine stp ?_|apply gx1|apply gx2|apply gx3|apply gx4|apply gx5|apply gx6|apply gx7|apply gy8|apply gz2|apply gz3|refine gw0 (cs) ?_ ?_|refine gw3 (cs) ?_ ?_ ?_|refine gw0 (ct) ?_ ?_|refine gw3 (ct) ?_ ?_ ?_|refine gw0 (Zmc m n hm hn) ?_ ?_|refine gw3 (Zmc m n hm hn) ?_ ?_ ?_)|(with_reducible refine Zao ?_;intro _)|((with_reducible refine gE ?_);(try simp (disch:=omega) only [go_sem])<;>first|rfl|omega)|with_reducible refine Zab (by decide) ?_|((with_reducible apply gy1);iterate 3 focus rfl)|((with_reducible apply gy2);iterate 3 focus rfl)|((with_reducible apply gy3);iterate 2 focus rfl)|((with_reducible apply gy4);iterate 1 focus rfl)|((with_reducible apply gy5);iterate 4 focus rfl)|((with_reducible apply gy5c);iterate 4 focus rfl)|((with_reducible apply gy6);iterate 4 focus rfl)|((with_reducible apply Za7);iterate 3 focus rfl)|((with_reducible apply Za6);iterate 1 focus rfl)|((with_reducible apply gy7);iterate 1 focus rfl)|((with_reducible apply gy9);(focus ((with_reducible refine gE ?_);(try simp (disch:=omega) only [go_sem])<;>rfl)))|((with_reducible apply gz1);(focus first|rfl|(simp (disch:=omega) only [go_sem];done)))|((with_reducible apply Zae (Zau [(1,.v (.int .i64 (zI s n).sign)),(3,.v (.int .i64 (zI t m).sign))]) [] []);(focus kernel_rfl);(focus rfl);(focus kernel_rfl);(focus (simp only [List.length_cons,List.length_nil,Nat.reduceAdd];rfl)))))
   simp (disch:=omega) only [go_sem]
  ·rw [if_neg hneg];refine Zaa (tok:=0) Tryz.func164 rfl Tryz.ntmps164 Tryz.results164 Tryz.call164 (by rfl) (by simp) ?_
   (repeat' (first|(with_reducible first|refine stp ?_|apply gx1|apply gx2|apply gx3|apply gx4|apply gx5|apply gx6|apply gx7|apply gy8|apply gz2|apply gz3|refine gw0 (cs) ?_ ?_|refine gw3 (cs) ?_ ?_ ?_|refine gw0 (ct) ?_ ?_|refine gw3 (ct) ?_ ?_ ?_|refine gw0 (Zmc n m hn hm) ?_ ?_|refine gw3 (Zmc n m hn hm) ?_ ?_ ?_)|(with_reducible refine Zao ?_;intro _)|((with_reducible refine gE ?_);(try simp (disch:=omega) only [go_sem])<;>first|rfl|omega)|with_reducible refine Zab (by decide) ?_|((with_reducible apply gy1);iterate 3 focus rfl)|((with_reducible apply gy2);iterate 3 focus rfl)|((with_reducible apply gy3);iterate 2 focus rfl)|((with_reducible apply gy4);iterate 1 focus rfl)|((with_reducible apply gy5);iterate 4 focus rfl)|((with_reducible apply gy5c);iterate 4 focus rfl)|((with_reducible apply gy6);iterate 4 focus rfl)|((with_reducible apply Za7);iterate 3 focus rfl)|((with_reducible apply Za6);iterate 1 focus rfl)|((with_reducible apply gy7);iterate 1 focus rfl)|((with_reducible apply gy9);(focus ((with_reducible refine gE ?_);(try simp (disch:=omega) only [go_sem])<;>rfl)))|((with_reducible apply gz1);(focus first|rfl|(simp (disch:=omega) only [go_sem];done)))|((with_reducible apply Zae (Zau [(1,.v (.int .i64 (zI s n).sign)),(3,.v (.int .i64 (zI t m).sign))]) [] []);(focus kernel_rfl);(focus rfl);(focus kernel_rfl);(focus (simp only [List.length_cons,List.length_nil,Nat.reduceAdd];rfl)))))
   simp (disch:=omega) only [go_sem]
 ·have hc:cmpZ (zI s n) (zI t m)=1:=by
   have h0:zI t m < zI s n:=by
    rcases Int.lt_trichotomy (zI s n) 0 with h1 | h1 | h1<;>rcases Int.lt_trichotomy (zI t m) 0 with h2 | h2 | h2<;>first
     | omega
     | (exfalso;simp [Int.sign_eq_neg_one_of_neg,Int.sign_eq_one_of_pos,h1,h2] at h)
   unfold cmpZ;rw [if_neg (by omega),if_pos h0]
  rw [hc];refine Zaa (tok:=0) Tryz.func164 rfl Tryz.ntmps164 Tryz.results164 Tryz.call164 (by rfl) (by simp) ?_
  (repeat' (first|(with_reducible first|refine stp ?_|apply gx1|apply gx2|apply gx3|apply gx4|apply gx5|apply gx6|apply gx7|apply gy8|apply gz2|apply gz3|refine gw0 (cs) ?_ ?_|refine gw3 (cs) ?_ ?_ ?_|refine gw0 (ct) ?_ ?_|refine gw3 (ct) ?_ ?_ ?_)|(with_reducible refine Zao ?_;intro _)|((with_reducible refine gE ?_);(try simp (disch:=omega) only [go_sem])<;>first|rfl|omega)|with_reducible refine Zab (by decide) ?_|((with_reducible apply gy1);iterate 3 focus rfl)|((with_reducible apply gy2);iterate 3 focus rfl)|((with_reducible apply gy3);iterate 2 focus rfl)|((with_reducible apply gy4);iterate 1 focus rfl)|((with_reducible apply gy5);iterate 4 focus rfl)|((with_reducible apply gy5c);iterate 4 focus rfl)|((with_reducible apply gy6);iterate 4 focus rfl)|((with_reducible apply Za7);iterate 3 focus rfl)|((with_reducible apply Za6);iterate 1 focus rfl)|((with_reducible apply gy7);iterate 1 focus rfl)|((with_reducible apply gy9);(focus ((with_reducible refine gE ?_);(try simp (disch:=omega) only [go_sem])<;>rfl)))|((with_reducible apply gz1);(focus first|rfl|(simp (disch:=omega) only [go_sem];done)))|((with_reducible apply Zae (Zau [(1,.v (.int .i64 (zI s n).sign)),(3,.v (.int .i64 (zI t m).sign))]) [] []);(focus kernel_rfl);(focus rfl);(focus kernel_rfl);(focus (simp only [List.length_cons,List.length_nil,Nat.reduceAdd];rfl)))))
  simp (disch:=omega) only [go_sem]
theorem Zrt (s t:Bool) (n m:Nat) (hn:(toL n).length≤100000000) (hm:(toL m).length≤100000000):Pure Tryz.prog 92 [intA s n,intA t m] (intZ (zI s n*zI t m)):=by
 have e:zI s n*zI t m=zI (s != t) (n*m):=by cases s<;>cases t<;>simp [zI,Int.mul_neg,Int.neg_mul]
 have lm:(toL (n*m)).length≤1000000000:=by
  have h5:(toL (n*m)).length≤(toL n).length+(toL m).length:=by
   rw [Zag,Nat.pow_add];exact Nat.mul_lt_mul'' (Zag.1 (Nat.le_refl _)) (Zag.1 (Nat.le_refl _))
  omega
 rw [e];have hne:(!(s == t))=(s != t):=rfl;refine Zaa (tok:=0) Tryz.func92 rfl Tryz.ntmps92 Tryz.results92 Tryz.call92 (by rfl) (by simp) ?_
 (repeat' (first|(with_reducible first|refine stp ?_|apply gx1|apply gx2|apply gx3|apply gx4|apply gx5|apply gx6|apply gx7|apply gy8|apply gz2|apply gz3|refine gw0 (nMul n m hn hm) ?_ ?_|refine gw3 (nMul n m hn hm) ?_ ?_ ?_|refine gw0 (Zgc (s != t) (n*m) lm) ?_ ?_|refine gw3 (Zgc (s != t) (n*m) lm) ?_ ?_ ?_)|(with_reducible refine Zao ?_;intro _)|((with_reducible refine gE ?_);(try simp (disch:=omega) only [go_sem,hne])<;>first|rfl|omega)|with_reducible refine Zab (by decide) ?_|((with_reducible apply gy1);iterate 3 focus rfl)|((with_reducible apply gy2);iterate 3 focus rfl)|((with_reducible apply gy3);iterate 2 focus rfl)|((with_reducible apply gy4);iterate 1 focus rfl)|((with_reducible apply gy5);iterate 4 focus rfl)|((with_reducible apply gy5c);iterate 4 focus rfl)|((with_reducible apply gy6);iterate 4 focus rfl)|((with_reducible apply Za7);iterate 3 focus rfl)|((with_reducible apply Za6);iterate 1 focus rfl)|((with_reducible apply gy7);iterate 1 focus rfl)|((with_reducible apply gy9);(focus ((with_reducible refine gE ?_);(try simp (disch:=omega) only [go_sem,hne])<;>rfl)))|((with_reducible apply gz1);(focus first|rfl|(simp (disch:=omega) only [go_sem,hne];done)))|((with_reducible apply Zae (Zau [(9,lim (toL (n*m))),(10,intZ (zI (s != t) (n*m)))]) [11] []);(focus kernel_rfl);(focus rfl);(focus kernel_rfl);(focus (simp only [List.length_cons,List.length_nil,Nat.reduceAdd];rfl)))))
 simp (disch:=omega) only [go_sem]
theorem intAdd (s t:Bool) (n m:Nat) (hn:(toL n).length≤100000000) (hm:(toL m).length≤100000000):Pure Tryz.prog 169 [intA s n,intA t m] (intZ (zI s n+zI t m)):=by
 by_cases hst:s=t
 ·subst hst;have e:zI s n+zI s m=zI s (n+m):=by cases s<;>simp [zI]<;>omega
  have la:(toL (n+m)).length≤1000000000:=by
   have h5:(toL (n+m)).length≤max (toL n).length (toL m).length+1:=by
    rw [Zag,Nat.pow_succ];have h1:=Zag.1 (Nat.le_max_left (toL n).length (toL m).length);have h2:=Zag.1 (Nat.le_max_right (toL n).length (toL m).length);generalize 65536 ^ max (toL n).length (toL m).length=p at *;omega
   omega
  rw [e];have hb:(s == s)=true:=by cases s<;>rfl
  refine Zaa (tok:=0) Tryz.func169 rfl Tryz.ntmps169 Tryz.results169 Tryz.call169 (by rfl) (by simp) ?_
  (repeat' (first|(with_reducible first|refine stp ?_|apply gx1|apply gx2|apply gx3|apply gx4|apply gx5|apply gx6|apply gx7|apply gy8|apply gz2|apply gz3|refine gw0 (nAdd n m hn hm) ?_ ?_|refine gw3 (nAdd n m hn hm) ?_ ?_ ?_|refine gw0 (Zgc s (n+m) la) ?_ ?_|refine gw3 (Zgc s (n+m) la) ?_ ?_ ?_)|(with_reducible refine Zao ?_;intro _)|((with_reducible refine gE ?_);(try simp (disch:=omega) only [go_sem,hb])<;>first|rfl|omega)|with_reducible refine Zab (by decide) ?_|((with_reducible apply gy1);iterate 3 focus rfl)|((with_reducible apply gy2);iterate 3 focus rfl)|((with_reducible apply gy3);iterate 2 focus rfl)|((with_reducible apply gy4);iterate 1 focus rfl)|((with_reducible apply gy5);iterate 4 focus rfl)|((with_reducible apply gy5c);iterate 4 focus rfl)|((with_reducible apply gy6);iterate 4 focus rfl)|((with_reducible apply Za7);iterate 3 focus rfl)|((with_reducible apply Za6);iterate 1 focus rfl)|((with_reducible apply gy7);iterate 1 focus rfl)|((with_reducible apply gy9);(focus ((with_reducible refine gE ?_);(try simp (disch:=omega) only [go_sem,hb])<;>rfl)))|((with_reducible apply gz1);(focus first|rfl|(simp (disch:=omega) only [go_sem,hb];done)))|((with_reducible apply Zae (Zau [(6,lim (toL (n+m))),(7,intZ (zI s (n+m)))]) [8] []);(focus kernel_rfl);(focus rfl);(focus kernel_rfl);(focus (simp only [List.length_cons,List.length_nil,Nat.reduceAdd];rfl)))))
  simp (disch:=omega) only [go_sem]
 ·have hb:(s == t)=false:=by cases s<;>cases t<;>first|rfl|exact absurd rfl hst
  have ht:t=!s:=by cases s<;>cases t<;>first|rfl|exact absurd rfl hst
  by_cases hlt:n < m
  ·have hc:cmpN n m=-1:=if_pos hlt;have e:zI s n+zI t m=zI t (m - n):=by rw [ht];cases s<;>simp [zI]<;>omega
   have ls:(toL (m - n)).length≤1000000000:=Nat.le_trans (Za5 (Nat.sub_le _ _)) (by omega);have cs:=nSub m n hm hn;rw [if_neg (by omega),if_neg (by omega)] at cs;rw [e];refine Zaa (tok:=0) Tryz.func169 rfl Tryz.ntmps169 Tryz.results169 Tryz.call169 (by rfl) (by simp) ?_;(focus (refine wkvd (w_2 hb hc) (w_3 (nCmp n m hn hm) cs (Zgc t (m - n) ls)) w_t ?_;(repeat' first|exact w_t|apply w_l);all_goals intros));simp (disch:=omega) only [go_sem]
  ·have hc:0≤cmpN n m:=by unfold cmpN;rw [if_neg hlt];split<;>omega
   have e:zI s n+zI t m=zI s (n - m):=by rw [ht];cases s<;>simp [zI]<;>omega
   have ls:(toL (n - m)).length≤1000000000:=Nat.le_trans (Za5 (Nat.sub_le _ _)) (by omega);have cs:=nSub n m hn hm;rw [if_neg (by omega),if_neg (by omega)] at cs;rw [e];refine Zaa (tok:=0) Tryz.func169 rfl Tryz.ntmps169 Tryz.results169 Tryz.call169 (by rfl) (by simp) ?_;(focus (refine wkvd (w_1 hb) (w_3 (nCmp n m hn hm) cs (Zgc s (n - m) ls)) w_t ?_;(repeat' first|exact w_t|apply w_l);all_goals intros));simp (disch:=omega) only [go_sem]
inductive Vk:AV→AV→Prop
 | refl (a:AV):Vk a a
 | nil (m:Nat):Vk (.v (.slice none 0 0)) (.sl m [])
 | agg (xs ys:List AV) (hl:xs.length=ys.length) (h:∀(j:Nat) (a b:AV),xs[j]?=some a→ys[j]?=some b→Vk a b):Vk (.agg xs) (.agg ys)
 | tup (xs ys:List AV) (hl:xs.length=ys.length) (h:∀(j:Nat) (a b:AV),xs[j]?=some a→ys[j]?=some b→Vk a b):Vk (.tup xs) (.tup ys)
 | sl (m:Nat) (es es':List AV) (hl:es.length=es'.length) (hm:∀e∈es',e.cells.length=m) (hok:∀e∈es',e.ok=true) (hf:(flat es).length=(flat es').length) (h:∀(j:Nat) (a b:AV),(flat es)[j]?=some a→(flat es')[j]?=some b→Vk a b):Vk (.sl m es) (.sl m es')
theorem Vk.rd {w:World} {imm:Imm} {a b:AV} (h:Vk a b):∀{x:Value},Rd w imm a x→Rd w imm b x:=by
 induction h with
 | refl a=>exact λh=>h
 | nil m =>
   intro x h;cases h;exact .sl m [] none 0 (λ_=>undef) (by simp) (by simp) (Nat.le_refl _) (by simp) (by simp) (by simp [flat])
 | agg xs ys hl _ ih =>
   intro x h
   cases h with
   | agg _ vs hl2 hr =>
     refine .agg ys vs (by omega) λj b x h1 h2=>?_;have hj:j < xs.length:=by rw [hl];exact(List.getElem?_eq_some_iff.1 h1).1
     exact ih j xs[j] b (List.getElem?_eq_getElem hj) h1 (hr j xs[j] x (List.getElem?_eq_getElem hj) h2)
 | tup xs ys hl _ ih =>
   intro x h
   cases h with
   | tup _ vs hl2 hr =>
     refine .tup ys vs (by omega) λj b x h1 h2=>?_;have hj:j < xs.length:=by rw [hl];exact(List.getElem?_eq_some_iff.1 h1).1
     exact ih j xs[j] b (List.getElem?_eq_getElem hj) h1 (hr j xs[j] x (List.getElem?_eq_getElem hj) h2)
 | sl m es es' hl hm hok hf _ ih =>
   intro x h;obtain⟨A,cap,f,rfl,hcap,_,_,hn,hA,hr⟩:=(Rs.pure h).sl_inv;rw [hl];refine .sl m es' A cap f hm hok (by omega) (λh=>hn (by omega)) (λj hj=>hA j (by rw [hl];exact hj)) λj b hb=>?_;have hj:j < (flat es).length:=by rw [hf];exact(List.getElem?_eq_some_iff.1 hb).1
   exact ih j _ b (List.getElem?_eq_getElem hj) hb (hr j _ (List.getElem?_eq_getElem hj))
def VkL (xs ys:List AV):Prop:=xs.length=ys.length∧∀(j:Nat) (a b:AV),xs[j]?=some a→ys[j]?=some b→Vk a b
theorem VkL.nil:VkL [] []:=⟨rfl,λj a b h=>by simp at h⟩
theorem VkL.cons {a b:AV} {xs ys:List AV} (h:Vk a b) (t:VkL xs ys):VkL (a :: xs) (b :: ys):=by
 refine⟨by simp [t.1],λj x y h1 h2=>?_⟩
 cases j with
 | zero=>simp at h1 h2;subst h1;subst h2;exact h
 | succ j=>exact t.2 j x y (by simpa using h1) (by simpa using h2)
theorem VkL.refl (xs:List AV):VkL xs xs:=⟨rfl,λj a b h1 h2=>by rw [h1] at h2;cases h2;exact .refl _⟩
theorem Vk.aggL {xs ys:List AV} (h:VkL xs ys):Vk (.agg xs) (.agg ys):=.agg xs ys h.1 h.2
theorem Vk.slL {m:Nat} {es es':List AV} (hl:es.length=es'.length) (hm:∀e∈es',e.cells.length=m) (hok:∀e∈es',e.ok=true) (h:VkL (flat es) (flat es')):Vk (.sl m es) (.sl m es'):=.sl m es es' hl hm hok h.1 h.2
theorem Zve {P:Program} {f:FuncId} {args args':List AV} {r r':AV} (h:Pure P f args' r) (ha:VkL args args') (hw:Vk r r'):Pure P f args r':=by
 refine⟨h.1,λw imm vs h1 h2 h3=>(h.2 w imm vs h1 (by rw [←ha.1];exact h2) λj b x e1 e2=>?_).mono λe w' he=>?_⟩
 ·have hj:j < args.length:=by rw [ha.1];exact(List.getElem?_eq_some_iff.1 e1).1
  exact(ha.2 j args[j] b (List.getElem?_eq_getElem hj) e1).rd (h3 j args[j] x (List.getElem?_eq_getElem hj) e2)
 ·obtain⟨x,imm',e1,e2,e3⟩:=he;exact⟨x,imm',e1,hw.rd e2,e3⟩
theorem Zfi {P:Program} {f:FuncId} {args args':List AV} {r:AV} (h:Pure P f args' r) (ha:VkL args args'):Pure P f args r:=Zve h ha (.refl _)
theorem Zlx {P:Program} {f:FuncId} {args:List AV} {r r':AV} (h:Pure P f args r) (hw:Vk r r'):Pure P f args r':=Zve h (.refl _) hw
theorem Ze5 (n m:Nat):(toL (n*m)).length≤(toL n).length+(toL m).length:=by
 rw [Zag,Nat.pow_add];exact Nat.mul_lt_mul'' (Zag.1 (Nat.le_refl _)) (Zag.1 (Nat.le_refl _))
theorem Zn7 (n m:Nat):(toL (n+m)).length≤max ((toL n).length) ((toL m).length)+1:=by
 rw [Zag,Nat.pow_succ];have h1:=Zag.1 (Nat.le_max_left ((toL n).length) ((toL m).length));have h2:=Zag.1 (Nat.le_max_right ((toL n).length) ((toL m).length));generalize 65536 ^ max ((toL n).length) ((toL m).length)=p at *;omega
theorem Zcy {n m:Nat} (h:n≤m):(toL n).length≤(toL m).length:=Za5 h
theorem Zdi:(toL 1).length=1:=by rw [Zd9 (by omega)];simp [Zax]
theorem Zf2:toL 1=[1]:=by rw [Zd9 (by omega)];simp [Zax]
abbrev ratQ (q:Rat):AV:=.agg [.v (.bool (decide (q.num < 0))),lim (toL q.num.natAbs),lim (toL q.den)]
abbrev ratA (s:Bool) (n d:Nat):AV:=.agg [.v (.bool s),lim (toL n),lim (toL d)]
def Sz (q:Rat) (k:Nat):Prop:=(toL q.num.natAbs).length≤k∧(toL q.den).length≤k
theorem Sz.mono {q:Rat} {k j:Nat} (h:Sz q k) (hk:k≤j):Sz q j:=⟨Nat.le_trans h.1 hk,Nat.le_trans h.2 hk⟩
theorem Zpk (z:Int) (m:Nat) (hm:m≠0):ratQ (mkRat z m)=.agg [.v (.bool (decide (z < 0))),lim (toL (z.natAbs/Nat.gcd z.natAbs m)),lim (toL (m/Nat.gcd z.natAbs m))]:=by
 unfold ratQ;rw [Rat.num_mkRat,Rat.den_mkRat,if_neg hm,if_neg hm,Nat.gcd_comm m z.natAbs];have hg:0 < Nat.gcd z.natAbs m:=Nat.gcd_pos_of_pos_right _ (by omega);have hd:((Nat.gcd z.natAbs m:Nat):Int) ∣ z:=Int.ofNat_dvd_left.2 (Nat.gcd_dvd_left _ _);generalize Nat.gcd z.natAbs m=g at *;obtain⟨k,hk⟩:=hd;have hgz:(g:Int)≠0:=by omega
 have e1:z/(g:Int)=k:=by rw [hk,Int.mul_ediv_cancel_left _ hgz]
 have e2:z.natAbs/g=k.natAbs:=by rw [hk,Int.natAbs_mul,Int.natAbs_natCast,Nat.mul_div_cancel_left _ hg]
 have e3:(z < 0)↔(k < 0):=by
  rw [hk];constructor
  ·intro h;rcases (by omega:k < 0∨0≤k) with h1 | h1
   ·exact h1
   ·have:=Int.mul_nonneg (show(0:Int)≤g by omega) h1;omega
  ·intro h;exact Int.mul_neg_of_pos_of_neg (by omega) h
 rw [e1,e2];simp only [e3]
theorem Sz.mk {z:Int} {m k:Nat} (hz:(toL z.natAbs).length≤k) (hm:(toL m).length≤k) (hk:1≤k):Sz (mkRat z m) k:=by
 unfold Sz;rw [Rat.num_mkRat,Rat.den_mkRat];by_cases h:m=0
 ·rw [if_pos h,if_pos h];refine⟨?_,by rw [Zdi];exact hk⟩;show(toL 0).length≤k;rw [Zax];simp
 ·rw [if_neg h,if_neg h];refine⟨Nat.le_trans (Zcy ?_) hz,Nat.le_trans (Zcy (Nat.div_le_self _ _)) hm⟩;have hd:((Nat.gcd m z.natAbs:Nat):Int) ∣ z:=Int.ofNat_dvd_left.2 (Nat.gcd_dvd_right _ _);have hg:0 < Nat.gcd m z.natAbs:=Nat.gcd_pos_of_pos_left _ (by omega);generalize Nat.gcd m z.natAbs=g at *;obtain⟨c,hc⟩:=hd;rw [hc,Int.mul_ediv_cancel_left _ (by omega),Int.natAbs_mul,Int.natAbs_natCast];exact Nat.le_mul_of_pos_left _ hg
theorem Zd3 (a b:Int):(a+b).natAbs≤a.natAbs+b.natAbs:=by omega
theorem Sz.pos {q:Rat} {k:Nat} (h:Sz q k):1≤k:=by
 have h1:=Zbb.2 q.den_pos;have h2:=h.2;omega
theorem Zeq (a b:Rat) {j k:Nat} (ha:Sz a j) (hb:Sz b k):(toL (a.num*b.den).natAbs).length≤j+k:=by
 rw [Int.natAbs_mul,Int.natAbs_natCast];exact Nat.le_trans (Ze5 _ _) (Nat.add_le_add ha.1 hb.2)
theorem Sz.mul {a b:Rat} {j k:Nat} (ha:Sz a j) (hb:Sz b k):Sz (a*b) (j+k):=by
 rw [Rat.mul_def'];refine Sz.mk ?_ (Nat.le_trans (Ze5 _ _) (Nat.add_le_add ha.2 hb.2)) (by have:=ha.pos;omega);rw [Int.natAbs_mul];exact Nat.le_trans (Ze5 _ _) (Nat.add_le_add ha.1 hb.1)
theorem Sz.add {a b:Rat} {j k:Nat} (ha:Sz a j) (hb:Sz b k):Sz (a+b) (j+k+1):=by
 rw [Rat.add_def'];refine Sz.mk ?_ (Nat.le_trans (Ze5 _ _) (by have:=ha.2;have:=hb.2;omega)) (by omega);have h1:=Zeq a b ha hb;have h2:=Zeq b a hb ha;have h3:=Zcy (Zd3 (a.num*b.den) (b.num*a.den));have h4:=Zn7 (a.num*b.den).natAbs (b.num*a.den).natAbs;omega
theorem Sz.neg {a:Rat} {j:Nat} (ha:Sz a j):Sz (-a) j:=by
 unfold Sz;rw [Rat.neg_num,Rat.neg_den,Int.natAbs_neg];exact ha
theorem Sz.sub {a b:Rat} {j k:Nat} (ha:Sz a j) (hb:Sz b k):Sz (a - b) (j+k+1):=by
 rw [Rat.sub_eq_add_neg];exact ha.add hb.neg
theorem Sz.inv {a:Rat} {j:Nat} (ha:Sz a j):Sz (a⁻¹) j:=by
 unfold Sz;rw [Rat.num_inv,Rat.den_inv];by_cases h:a.num=0
 ·rw [if_pos h,h];refine⟨?_,by rw [Zdi];exact ha.pos⟩;have:(Int.sign 0*(a.den:Int)).natAbs=0:=by simp
  rw [this];show(toL 0).length≤j;rw [Zax];simp
 ·rw [if_neg h];refine⟨?_,ha.1⟩;rw [Int.natAbs_mul,Int.natAbs_natCast,Int.natAbs_sign_of_ne_zero h,Nat.one_mul];exact ha.2
theorem Sz.int {z:Int} {k:Nat} (h:(toL z.natAbs).length≤k) (hk:1≤k):Sz (z:Rat) k:=⟨h,by show(toL 1).length≤k;rw [Zdi];exact hk⟩
def cmpQ (a b:Rat):Int:=if a < b then -1 else if b < a then 1 else 0
theorem cmpQ_z (a b:Rat):cmpQ a b=cmpZ (a.num*b.den) (b.num*a.den):=by
 unfold cmpQ cmpZ;simp only [Rat.lt_iff]
theorem iMul (z w:Int) (hz:(toL z.natAbs).length≤100000000) (hw:(toL w.natAbs).length≤100000000):Pure Tryz.prog 92 [intZ z,intZ w] (intZ (z*w)):=by
 have:=Zrt (decide (z < 0)) (decide (w < 0)) z.natAbs w.natAbs hz hw
 rwa [Zb8,Zb8] at this
theorem iMulN (z:Int) (d:Nat) (hz:(toL z.natAbs).length≤100000000) (hw:(toL d).length≤100000000):Pure Tryz.prog 92 [intZ z,intA false d] (intZ (z*d)):=by
 have:=Zrt (decide (z < 0)) false z.natAbs d hz hw;rw [Zb8] at this;exact this
theorem iAddA (z:Int) (t:Bool) (m:Nat) (hz:(toL z.natAbs).length≤100000000) (hm:(toL m).length≤100000000):Pure Tryz.prog 169 [intZ z,intA t m] (intZ (z+zI t m)):=by
 have:=intAdd (decide (z < 0)) t z.natAbs m hz hm
 rwa [Zb8] at this
theorem iAdd0 (t:Bool) (m:Nat) (hm:(toL m).length≤100000000):Pure Tryz.prog 169 [.agg [.v (.bool false),.v (.slice none 0 0)],intA t m] (intZ (zI t m)):=by
 have h:=iAddA 0 t m (by show(toL 0).length≤_;rw [Zax];simp) hm;rw [Int.zero_add] at h;refine Zfi h (.cons (.aggL (.cons (.refl _) (.cons ?_ .nil))) (.cons (.refl _) .nil));show Vk _ (.sl 1 (u16s (toL 0)));rw [Zax];exact .nil 1
theorem iCmp (z w:Int) (hz:(toL z.natAbs).length≤100000000) (hw:(toL w.natAbs).length≤100000000):Pure Tryz.prog 164 [intZ z,intZ w] (.v (.int .i64 (cmpZ z w))):=by
 have:=intCmp (decide (z < 0)) (decide (w < 0)) z.natAbs w.natAbs hz hw
 rwa [Zb8,Zb8] at this
theorem iSign (z:Int) (hz:(toL z.natAbs).length≤100000000):Pure Tryz.prog 98 [intZ z] (.v (.int .i64 z.sign)):=by
 have:=Zp3 (decide (z < 0)) z.natAbs hz
 rwa [Zb8] at this
def sumC (z w:Int):Nat→List AV
 | 0=>[.v (.bool false),.v (.slice none 0 0)]
 | 1=>[.v (.bool (decide (z < 0))),lim (toL z.natAbs)]
 | _=>[.v (.bool (decide (z+w < 0))),lim (toL (z+w).natAbs)]
theorem Ztz (x:Nat) (l:List Nat):u16s (x :: l)=AV.v (.int .u16 (x:Int)) :: u16s l:=rfl
theorem Zt6:szOf Tryz.prog 185=some 2:=by kernel_rfl
theorem zShape:Zav Tryz.prog 185=some (.agg #[.int .i64 0,.int .u16 0]):=by kernel_rfl
theorem Zwt:eqTy Tryz.prog 185=true:=by kernel_rfl
theorem Zl3 (n:Nat) (h:n < 65536):Sz (n:Rat) 1:=⟨Zag.2 (by show((n:Int)).natAbs < _;simpa using h),Zag.2 (by show 1 < 65536 ^ 1;decide)⟩
attribute [local go_sem] Zt6 zShape Zwt Tryz.underlying190
theorem intOf (n:Nat) (hn:n < 9223372036854775808):Pure Tryz.prog 127 [.v (.int .i64 (n:Int))] (intA false n):=by
 have l4:(toL n).length≤4:=Zag.2 (by omega);have hm:=Zgc false n (by omega);rw [Zic,Bool.false_and] at hm;refine Zaa (tok:=0) Tryz.func127 rfl Tryz.ntmps127 Tryz.results127 Tryz.call127 (by rfl) (by simp) ?_;(focus (refine wkvp w_t (w_2 (natOf n (by omega)) hm) ?_;(repeat' first|exact w_t|apply w_l);all_goals intros));simp (disch:=omega) only [go_sem]
theorem Zpj:Pure Tryz.prog 128 [] (lim (toL 1)):=by
 rw [Zf2];refine Zaa (tok:=0) Tryz.func128 rfl Tryz.ntmps128 Tryz.results128 Tryz.call128 (by rfl) (by simp) ?_;(focus (refine wkvp w_t w_t ?_;(repeat' first|exact w_t|apply w_l);all_goals intros));exact gC
theorem Zi5 (n:Nat):Pure Tryz.prog 93 [lim (toL n)] (intA false n):=by
 refine Zaa (tok:=0) Tryz.func93 rfl Tryz.ntmps93 Tryz.results93 Tryz.call93 (by rfl) (by simp) ?_;(focus (refine wkvp w_t w_t ?_;(repeat' first|exact w_t|apply w_l);all_goals intros));simp (disch:=omega) only [go_sem]
theorem Zjn (n:Nat) (hn:(toL n).length≤100000000):Pure Tryz.prog 89 [lim (toL n)] (.v (.bool (decide (n=1)))):=by
 by_cases h0:n=0
 ·subst h0;rw [Zax];refine Zaa (tok:=0) Tryz.func89 rfl Tryz.ntmps89 Tryz.results89 Tryz.call89 (by rfl) (by simp) ?_;(focus (refine wkvp w_t w_t ?_;(repeat' first|exact w_t|apply w_l);all_goals intros));simp (disch:=omega) only [go_sem,Bool.and_self]
 ·have hd:decide (n=1)=(((((toL (n/65536)).length+1:Nat):Int) == 1) && (((n%65536:Nat):Int) == 1)):=by
   have hp:=@Zbb (n/65536);rw [Bool.eq_iff_iff];simp only [decide_eq_true_eq,Bool.and_eq_true,beq_iff_eq];omega
  rw [Zd9 (by omega),hd];refine Zaa (tok:=0) Tryz.func89 rfl Tryz.ntmps89 Tryz.results89 Tryz.call89 (by rfl) (by simp) ?_;(focus (refine wkvp (w_1 @Ztz) w_t ?_;(repeat' first|exact w_t|apply w_l);all_goals intros));simp (disch:=omega) only [go_sem]
theorem Zjm (s:Bool) (n d:Nat) (h2:(toL d).length≤10000000) (h0:d≠0):Pure Tryz.prog 88 [ratA s n d] (.tup [intA s n,lim (toL d)]):=by
 have hb:Zmo d≠0:=λe=>h0 (Zgz.1 e);refine Zaa (tok:=0) Tryz.func88 rfl Tryz.ntmps88 Tryz.results88 Tryz.call88 (by rfl) (by simp) ?_
 (repeat' (first|(with_reducible first|refine stp ?_|apply gx1|apply gx2|apply gx3|apply gx4|apply gx5|apply gx6|apply gx7|apply gy8|apply gz2|apply gz3|refine gw0 (Zv1 d (by omega)) ?_ ?_|refine gw3 (Zv1 d (by omega)) ?_ ?_ ?_)|(with_reducible refine Zao ?_;intro _)|((with_reducible refine gE ?_);(try simp (disch:=omega) only [go_sem])<;>first|rfl|omega)|with_reducible refine Zab (by decide) ?_|((with_reducible apply gy1);iterate 3 focus rfl)|((with_reducible apply gy2);iterate 3 focus rfl)|((with_reducible apply gy3);iterate 2 focus rfl)|((with_reducible apply gy4);iterate 1 focus rfl)|((with_reducible apply gy5);iterate 4 focus rfl)|((with_reducible apply gy5c);iterate 4 focus rfl)|((with_reducible apply gy6);iterate 4 focus rfl)|((with_reducible apply Za7);iterate 3 focus rfl)|((with_reducible apply Za6);iterate 1 focus rfl)|((with_reducible apply gy7);iterate 1 focus rfl)|((with_reducible apply gy9);(focus ((with_reducible refine gE ?_);(try simp (disch:=omega) only [go_sem])<;>rfl)))|((with_reducible apply gz1);(focus first|rfl|(simp (disch:=omega) only [go_sem];done)))|((with_reducible apply Zae (Zau []) [] [2]);(focus kernel_rfl);(focus rfl);(focus kernel_rfl);(focus (simp only [List.length_cons,List.length_nil,Nat.reduceAdd];rfl)))))
 simp (disch:=omega) only [go_sem]
theorem Zfg (q:Rat) {k:Nat} (h:Sz q k) (hk:k≤10000000):Pure Tryz.prog 88 [ratQ q] (.tup [intZ q.num,lim (toL q.den)]) :=
 Zjm _ _ _ (Nat.le_trans h.2 hk) q.den_nz
theorem Ze2 (s:Bool) (n m:Nat) (hn:(toL n).length≤10000000) (hm:(toL m).length≤10000000) (h0:m≠0):Pure Tryz.prog 90 [intA s n,lim (toL m)] (ratQ (mkRat (zI s n) m)):=by
 have cn:=intNorm s n (by omega);have hz:=Zdo s n;rw [Zpk _ _ h0];generalize zI s n=z at *;subst hz;have hmp:=Zbb.2 (Nat.pos_of_ne_zero h0);have g0:Nat.gcd z.natAbs m≠0:=Nat.ne_of_gt (Nat.gcd_pos_of_pos_right _ (by omega));have hg:(toL (Nat.gcd z.natAbs m)).length≤10000000:=Nat.le_trans (Zcy (Nat.le_of_dvd (by omega) (Nat.gcd_dvd_right _ _))) hm;have cg:=nGcd z.natAbs m (by omega) (by omega);have c1:=Zjn m (by omega);have c2:=Zjn (Nat.gcd z.natAbs m) (by omega);by_cases hz0:z.natAbs=0
 ·have hzz:z=0:=by omega
  subst hzz;have l0:(toL 0).length=0:=by rw [Zax];rfl
  have n0:Int.natAbs 0=0:=rfl;have hd:decide ((0:Int) < 0)=false:=rfl;have cn:Pure Tryz.prog 167 [intA s 0] (.agg [.v (.bool false),lim (toL 0)]):=cn;rw [n0] at hn ⊢;rw [Nat.gcd_zero_left,Nat.zero_div,Nat.div_self (by omega),hd];refine Zlx (r:=.agg [.v (.bool false),.v (.slice none 0 0),lim (toL 1)]) ?_ (.aggL (.cons (.refl _) (.cons ?_ (VkL.refl _))))
  ·refine Zaa (tok:=0) Tryz.func90 rfl Tryz.ntmps90 Tryz.results90 Tryz.call90 (by rfl) (by simp) ?_;(focus (refine wkvp (w_1 l0) (w_3 (Zn0 m (by omega)) cn Zpj) ?_;(repeat' first|exact w_t|apply w_l);all_goals intros));simp (disch:=omega) only [go_sem]
  ·show Vk _ (.sl 1 (u16s (toL 0)));rw [Zax];exact .nil 1
 ·have hzp:=Zbb.2 (Nat.pos_of_ne_zero hz0);by_cases hm1:m=1
  ·subst hm1;rw [Nat.gcd_one_right,Nat.div_one,Nat.div_one];refine Zaa (tok:=0) Tryz.func90 rfl Tryz.ntmps90 Tryz.results90 Tryz.call90 (by rfl) (by simp) ?_;(focus (refine wkvp w_t (w_3 (Zn0 1 (by omega)) cn c1) ?_;(repeat' first|exact w_t|apply w_l);all_goals intros));simp (disch:=omega) only [go_sem]
  ·have d1:decide (m=1)=false:=decide_eq_false hm1;rw [d1] at c1;by_cases hg1:Nat.gcd z.natAbs m=1
   ·have d2:decide (Nat.gcd z.natAbs m=1)=true:=decide_eq_true hg1;rw [d2] at c2;rw [hg1,Nat.div_one,Nat.div_one];refine Zaa (tok:=0) Tryz.func90 rfl Tryz.ntmps90 Tryz.results90 Tryz.call90 (by rfl) (by simp) ?_;(focus (refine wkvp w_t (w_5 (Zn0 m (by omega)) cn c1 cg c2) ?_;(repeat' first|exact w_t|apply w_l);all_goals intros));simp (disch:=omega) only [go_sem]
   ·have d2:decide (Nat.gcd z.natAbs m=1)=false:=decide_eq_false hg1;rw [d2] at c2;refine Zaa (tok:=0) Tryz.func90 rfl Tryz.ntmps90 Tryz.results90 Tryz.call90 (by rfl) (by simp) ?_;(focus (refine wkvd w_t (w_7 (Zn0 m (by omega)) cn c1 cg c2 (Zv0 z.natAbs (Nat.gcd z.natAbs m) (by omega) (by omega) g0) (Zv0 m (Nat.gcd z.natAbs m) (by omega) (by omega) g0)) w_t ?_;(repeat' first|exact w_t|apply w_l);all_goals intros));simp (disch:=omega) only [go_sem]
theorem Zed (q:Rat) {k:Nat} (h:Sz q k) (hk:k≤10000000):Pure Tryz.prog 40 [ratQ q] (.v (.int .i64 q.num.sign)):=by
 have h1:=h.1;refine Zaa (tok:=0) Tryz.func40 rfl Tryz.ntmps40 Tryz.results40 Tryz.call40 (by rfl) (by simp) ?_;(focus (refine wkvp w_t (w_2 (Zfg q h hk) (iSign q.num (by omega))) ?_;(repeat' first|exact w_t|apply w_l);all_goals intros));simp (disch:=omega) only [go_sem]
theorem Zuy (s t:Bool) (n m:Nat) (hn:(toL n).length≤100000000) (hm:(toL m).length≤100000000):Pure Tryz.prog 91 [.sl 2 [intA s n,intA t m]] (intZ (zI s n+zI t m)):=by
 have cz:=iAdd0 s n hn;have ca:=iAddA (zI s n) t m (by rw [Zdo];exact hn) hm;generalize zI s n=z at *;generalize zI t m=w at *;refine Zaa (tok:=0) Tryz.func91 rfl Tryz.ntmps91 Tryz.results91 Tryz.call91 (by rfl) (by simp) ?_;(focus (refine wkvp w_t w_t ?_;(repeat' first|exact w_t|apply w_l);all_goals intros));refine Zad (ι:=Nat) (λk e mm=>k≤2∧e 6=.sl 2 [intA s n,intA t m]∧e 7=.v (.int .i64 2)∧e 8=.v (.int .i64 (k:Int))∧∃g2 g,e 2=.pbox 2 g2 0∧mm 2=some (.box g2 43 [.v (.bool false),.v (.slice none 0 0)] false)∧e 3=.pbox 3 g 0∧mm 3=some (.box g 43 (sumC z w k) false)) (λk=>2 - k) 0 (by rfl) ?_ ?_
 ·rintro k e mm ⟨hk,e6,e7,e8,g2,g,e2,m2,e3,m3⟩
  match k,hk with
  | 0,_ =>
    simp only [sumC] at m3;(focus (refine wkvp (w_8 e6 e7 e8 e2 m2 e3 m3 @Int.natCast_zero) (w_1 cz) ?_;(repeat' first|exact w_t|apply w_l);all_goals intros));exact⟨1,⟨by omega,by exact gW e6,by exact gW e7,by exact gW e8,g2,g,by exact gW e2,by exact gW m2,by exact gW e3,by(simp (disch:=omega) only [go_sem,m3,sumC]<;>repeat' first|rfl|refine⟨?_,?_⟩)⟩,by omega⟩
  | 1,_ =>
    simp only [sumC] at m3;(focus (refine wkvp (w_8 e6 e7 e8 e2 m2 e3 m3 @Int.natCast_one) (w_1 ca) ?_;(repeat' first|exact w_t|apply w_l);all_goals intros));exact⟨2,⟨by omega,by exact gW e6,by exact gW e7,by exact gW e8,g2,g,by exact gW e2,by exact gW m2,by exact gW e3,by(simp (disch:=omega) only [go_sem,m3,sumC]<;>repeat' first|rfl|refine⟨?_,?_⟩)⟩,by omega⟩
  | 2,_ =>
    simp only [sumC] at m3;(focus (refine wkvp (w_7 e6 e7 e8 e2 m2 e3 m3) w_t ?_;(repeat' first|exact w_t|apply w_l);all_goals intros));simp (disch:=omega) only [go_sem,e2]
 ·exact⟨by omega,by exact gC,by exact gC,by exact gC,_,_,by exact gC,by exact gC,by exact gC,by(simp (disch:=omega) only [go_sem,sumC]<;>repeat' first|rfl|refine⟨?_,?_⟩)⟩
theorem ratSum (z w:Int) (hz:(toL z.natAbs).length≤100000000) (hw:(toL w.natAbs).length≤100000000):Pure Tryz.prog 91 [.sl 2 [intZ z,intZ w]] (intZ (z+w)):=by
 have:=Zuy (decide (z < 0)) (decide (w < 0)) z.natAbs w.natAbs hz hw
 rwa [Zb8,Zb8] at this
theorem Znh (n:Nat) (hn:n < 9223372036854775808):Pure Tryz.prog 57 [.v (.int .i64 (n:Int))] (ratQ (n:Rat)):=by
 refine Zaa (tok:=0) Tryz.func57 rfl Tryz.ntmps57 Tryz.results57 Tryz.call57 (by rfl) (by simp) ?_;have hd:decide ((n:Rat).num < 0)=false:=decide_eq_false (by show ¬((n:Int) < 0);omega);have hn':(n:Rat).num.natAbs=n:=Int.natAbs_natCast n;unfold ratQ;rw [hd,hn',Rat.den_natCast];(focus (refine wkvp w_t (w_2 (intOf n hn) Zpj) ?_;(repeat' first|exact w_t|apply w_l);all_goals intros));simp (disch:=omega) only [go_sem]
theorem Zip (a b:Rat) {j k:Nat} (ha:Sz a j) (hb:Sz b k) (hj:j≤2000000) (hk:k≤2000000):Pure Tryz.prog 38 [ratQ a,ratQ b] (ratQ (a*b)):=by
 obtain⟨a1,a2⟩:=id ha;obtain⟨b1,b2⟩:=id hb;have l1:(toL (a.num*b.num).natAbs).length≤j+k:=by rw [Int.natAbs_mul];exact Nat.le_trans (Ze5 _ _) (by omega)
 have l2:(toL (a.den*b.den)).length≤j+k:=Nat.le_trans (Ze5 _ _) (by omega);have c:=Ze2 (decide (a.num*b.num < 0)) (a.num*b.num).natAbs (a.den*b.den) (by omega) (by omega) (Nat.mul_ne_zero a.den_nz b.den_nz);rw [Zb8,←Rat.mul_def'] at c;refine Zaa (tok:=0) Tryz.func38 rfl Tryz.ntmps38 Tryz.results38 Tryz.call38 (by rfl) (by simp) ?_;(focus (refine wkvp w_t (w_5 (Zfg a ha (by omega)) (Zfg b hb (by omega)) (iMul a.num b.num (by omega) (by omega)) (nMul a.den b.den (by omega) (by omega)) c) ?_;(repeat' first|exact w_t|apply w_l);all_goals intros));simp (disch:=omega) only [go_sem]
theorem Zu1 (s t:Bool) (n d m c:Nat) {j k:Nat} (a1:(toL n).length≤j) (a2:(toL d).length≤j) (b1:(toL m).length≤k) (b2:(toL c).length≤k) (hd0:d≠0) (hc0:c≠0) (hj:j≤2000000) (hk:k≤2000000) :
 Pure Tryz.prog 37 [ratA s n d,ratA t m c] (ratQ (mkRat (zI s n) d+mkRat (zI t m) c)):=by
 have oa:=Zjn d (by omega);have ob:=Zjn c (by omega);have l2:(toL (d*c)).length≤j+k:=Nat.le_trans (Ze5 _ _) (by omega);have z1:=Zdo s n;have w1:=Zdo t m;have pa:=Zjm s n d (by omega) hd0;have pb:=Zjm t m c (by omega) hc0;have eq:mkRat (zI s n) d+mkRat (zI t m) c=mkRat (zI s n*c+zI t m*d) (d*c):=Rat.mkRat_add_mkRat _ _ hd0 hc0;have cs0:=Zuy s t n m (by omega) (by omega);have cm1:Pure Tryz.prog 92 [intA s n,intA false c] (intZ (zI s n*c)):=Zrt s false n c (by omega) (by omega);have cm2:Pure Tryz.prog 92 [intA t m,intA false d] (intZ (zI t m*d)):=Zrt t false m d (by omega) (by omega)
 rw [eq]
 have x1:(toL (zI s n*c).natAbs).length≤j+k:=by
  rw [Int.natAbs_mul,Int.natAbs_natCast,z1];exact Nat.le_trans (Ze5 _ _) (by omega)
 have x2:(toL (zI t m*d).natAbs).length≤j+k:=by
  rw [Int.natAbs_mul,Int.natAbs_natCast,w1];exact Nat.le_trans (Ze5 _ _) (by omega)
 by_cases h1:d=1∧c=1
 ·obtain⟨h1,h2⟩:=h1
  have l1:(toL (zI s n+zI t m).natAbs).length≤j+k+1:=by
   have h3:=Zcy (Zd3 (zI s n) (zI t m));have h4:=Zn7 (zI s n).natAbs (zI t m).natAbs;rw [z1,w1] at h3 h4;omega
  have c:=Ze2 (decide (zI s n+zI t m < 0)) (zI s n+zI t m).natAbs 1 (by omega) (by rw [Zdi];omega) (by omega);rw [Zb8] at c;subst h1;subst h2;rw [decide_eq_true rfl] at oa ob;have e1:zI s n*((1:Nat):Int)+zI t m*((1:Nat):Int)=zI s n+zI t m:=by omega
  rw [e1,Nat.mul_one];refine Zaa (tok:=0) Tryz.func37 rfl Tryz.ntmps37 Tryz.results37 Tryz.call37 (by rfl) (by simp) ?_
  (repeat' (first|(with_reducible first|refine stp ?_|apply gx1|apply gx2|apply gx3|apply gx4|apply gx5|apply gx6|apply gx7|apply gy8|apply gz2|apply gz3|refine gw0 (pa) ?_ ?_|refine gw3 (pa) ?_ ?_ ?_|refine gw0 (pb) ?_ ?_|refine gw3 (pb) ?_ ?_ ?_|refine gw0 (oa) ?_ ?_|refine gw3 (oa) ?_ ?_ ?_|refine gw0 (ob) ?_ ?_|refine gw3 (ob) ?_ ?_ ?_|apply gw1 (cs0)|refine gw0 (c) ?_ ?_|refine gw3 (c) ?_ ?_ ?_)|(with_reducible refine Zao ?_;intro _)|((with_reducible refine gE ?_);(try simp (disch:=omega) only [go_sem])<;>first|rfl|omega)|with_reducible refine Zab (by decide) ?_|((with_reducible apply gy1);iterate 3 focus rfl)|((with_reducible apply gy2);iterate 3 focus rfl)|((with_reducible apply gy3);iterate 2 focus rfl)|((with_reducible apply gy4);iterate 1 focus rfl)|((with_reducible apply gy5);iterate 4 focus rfl)|((with_reducible apply gy5c);iterate 4 focus rfl)|((with_reducible apply gy6);iterate 4 focus rfl)|((with_reducible apply Za7);iterate 3 focus rfl)|((with_reducible apply Za6);iterate 1 focus rfl)|((with_reducible apply gy7);iterate 1 focus rfl)|((with_reducible apply gy9);(focus ((with_reducible refine gE ?_);(try simp (disch:=omega) only [go_sem])<;>rfl)))|((with_reducible apply gz1);(focus first|rfl|(simp (disch:=omega) only [go_sem];done)))|((with_reducible apply Zae (Zau []) [] []);(focus kernel_rfl);(focus rfl);(focus kernel_rfl);(focus (simp only [List.length_cons,List.length_nil,Nat.reduceAdd];rfl)))))
  simp (disch:=omega) only [go_sem]
 ·have l1:(toL (zI s n*c+zI t m*d).natAbs).length≤j+k+1:=by
   have h3:=Zcy (Zd3 (zI s n*c) (zI t m*d));have h4:=Zn7 (zI s n*c).natAbs (zI t m*d).natAbs;omega
  have cr:=Ze2 (decide (zI s n*c+zI t m*d < 0)) (zI s n*c+zI t m*d).natAbs (d*c) (by omega) (by omega) (Nat.mul_ne_zero hd0 hc0);rw [Zb8] at cr;have cs:=ratSum (zI s n*c) (zI t m*d) (by omega) (by omega);have cw1:=Zi5 c;have cw2:=Zi5 d;have cm:=nMul d c (by omega) (by omega);generalize zI s n*(c:Int)=y1 at *;generalize zI t m*(d:Int)=y2 at *;by_cases h2:d=1
  ·have h3:c≠1:=λh=>h1 ⟨h2,h⟩;rw [decide_eq_true h2] at oa;rw [decide_eq_false h3] at ob;refine Zaa (tok:=0) Tryz.func37 rfl Tryz.ntmps37 Tryz.results37 Tryz.call37 (by rfl) (by simp) ?_
   (repeat' (first|(with_reducible first|refine stp ?_|apply gx1|apply gx2|apply gx3|apply gx4|apply gx5|apply gx6|apply gx7|apply gy8|apply gz2|apply gz3|refine gw0 (pa) ?_ ?_|refine gw3 (pa) ?_ ?_ ?_|refine gw0 (pb) ?_ ?_|refine gw3 (pb) ?_ ?_ ?_|refine gw0 (oa) ?_ ?_|refine gw3 (oa) ?_ ?_ ?_|refine gw0 (ob) ?_ ?_|refine gw3 (ob) ?_ ?_ ?_|refine gw0 (cw1) ?_ ?_|refine gw3 (cw1) ?_ ?_ ?_|refine gw0 (cm1) ?_ ?_|refine gw3 (cm1) ?_ ?_ ?_|refine gw0 (cw2) ?_ ?_|refine gw3 (cw2) ?_ ?_ ?_|refine gw0 (cm2) ?_ ?_|refine gw3 (cm2) ?_ ?_ ?_|refine gw0 (cs) ?_ ?_|refine gw3 (cs) ?_ ?_ ?_|refine gw0 (cm) ?_ ?_|refine gw3 (cm) ?_ ?_ ?_|refine gw0 (cr) ?_ ?_|refine gw3 (cr) ?_ ?_ ?_)|(with_reducible refine Zao ?_;intro _)|((with_reducible refine gE ?_);(try simp (disch:=omega) only [go_sem])<;>first|rfl|omega)|with_reducible refine Zab (by decide) ?_|((with_reducible apply gy1);iterate 3 focus rfl)|((with_reducible apply gy2);iterate 3 focus rfl)|((with_reducible apply gy3);iterate 2 focus rfl)|((with_reducible apply gy4);iterate 1 focus rfl)|((with_reducible apply gy5);iterate 4 focus rfl)|((with_reducible apply gy5c);iterate 4 focus rfl)|((with_reducible apply gy6);iterate 4 focus rfl)|((with_reducible apply Za7);iterate 3 focus rfl)|((with_reducible apply Za6);iterate 1 focus rfl)|((with_reducible apply gy7);iterate 1 focus rfl)|((with_reducible apply gy9);(focus ((with_reducible refine gE ?_);(try simp (disch:=omega) only [go_sem])<;>rfl)))|((with_reducible apply gz1);(focus first|rfl|(simp (disch:=omega) only [go_sem];done)))|((with_reducible apply Zae (Zau [(2,intA false c),(3,intZ y1),(6,intA false d),(7,intZ y2),(8,.sl 2 [intZ y1,intZ y2]),(9,intZ (y1+y2)),(12,lim (toL (d*c))),(13,ratQ (mkRat (y1+y2) (d*c)))]) [] [4]);(focus kernel_rfl);(focus rfl);(focus kernel_rfl);(focus (simp only [List.length_cons,List.length_nil,Nat.reduceAdd];rfl)))))
   simp (disch:=omega) only [go_sem]
  ·rw [decide_eq_false h2] at oa;refine Zaa (tok:=0) Tryz.func37 rfl Tryz.ntmps37 Tryz.results37 Tryz.call37 (by rfl) (by simp) ?_
   (repeat' (first|(with_reducible first|refine stp ?_|apply gx1|apply gx2|apply gx3|apply gx4|apply gx5|apply gx6|apply gx7|apply gy8|apply gz2|apply gz3|refine gw0 (pa) ?_ ?_|refine gw3 (pa) ?_ ?_ ?_|refine gw0 (pb) ?_ ?_|refine gw3 (pb) ?_ ?_ ?_|refine gw0 (oa) ?_ ?_|refine gw3 (oa) ?_ ?_ ?_|refine gw0 (cw1) ?_ ?_|refine gw3 (cw1) ?_ ?_ ?_|refine gw0 (cm1) ?_ ?_|refine gw3 (cm1) ?_ ?_ ?_|refine gw0 (cw2) ?_ ?_|refine gw3 (cw2) ?_ ?_ ?_|refine gw0 (cm2) ?_ ?_|refine gw3 (cm2) ?_ ?_ ?_|refine gw0 (cs) ?_ ?_|refine gw3 (cs) ?_ ?_ ?_|refine gw0 (cm) ?_ ?_|refine gw3 (cm) ?_ ?_ ?_|refine gw0 (cr) ?_ ?_|refine gw3 (cr) ?_ ?_ ?_)|(with_reducible refine Zao ?_;intro _)|((with_reducible refine gE ?_);(try simp (disch:=omega) only [go_sem])<;>first|rfl|omega)|with_reducible refine Zab (by decide) ?_|((with_reducible apply gy1);iterate 3 focus rfl)|((with_reducible apply gy2);iterate 3 focus rfl)|((with_reducible apply gy3);iterate 2 focus rfl)|((with_reducible apply gy4);iterate 1 focus rfl)|((with_reducible apply gy5);iterate 4 focus rfl)|((with_reducible apply gy5c);iterate 4 focus rfl)|((with_reducible apply gy6);iterate 4 focus rfl)|((with_reducible apply Za7);iterate 3 focus rfl)|((with_reducible apply Za6);iterate 1 focus rfl)|((with_reducible apply gy7);iterate 1 focus rfl)|((with_reducible apply gy9);(focus ((with_reducible refine gE ?_);(try simp (disch:=omega) only [go_sem])<;>rfl)))|((with_reducible apply gz1);(focus first|rfl|(simp (disch:=omega) only [go_sem];done)))|((with_reducible apply Zae (Zau [(2,intA false c),(3,intZ y1),(6,intA false d),(7,intZ y2),(8,.sl 2 [intZ y1,intZ y2]),(9,intZ (y1+y2)),(12,lim (toL (d*c))),(13,ratQ (mkRat (y1+y2) (d*c)))]) [] [4]);(focus kernel_rfl);(focus rfl);(focus kernel_rfl);(focus (simp only [List.length_cons,List.length_nil,Nat.reduceAdd];rfl)))))
   simp (disch:=omega) only [go_sem]
theorem Zni (a b:Rat) {j k:Nat} (ha:Sz a j) (hb:Sz b k) (hj:j≤2000000) (hk:k≤2000000):Pure Tryz.prog 37 [ratQ a,ratQ b] (ratQ (a+b)):=by
 have:=Zu1 (decide (a.num < 0)) (decide (b.num < 0)) a.num.natAbs a.den b.num.natAbs b.den ha.1 ha.2 hb.1 hb.2 a.den_nz b.den_nz hj hk
 rwa [Zb8,Zb8,Rat.mkRat_self,Rat.mkRat_self] at this
theorem Zq5 (a b:Rat) {j k:Nat} (ha:Sz a j) (hb:Sz b k) (hj:j≤2000000) (hk:k≤2000000):Pure Tryz.prog 102 [ratQ a,ratQ b] (ratQ (a - b)):=by
 have c:=Zu1 (decide (a.num < 0)) (!decide (b.num < 0)) a.num.natAbs a.den b.num.natAbs b.den ha.1 ha.2 hb.1 hb.2 a.den_nz b.den_nz hj hk
 have e:zI (!decide (b.num < 0)) b.num.natAbs=-b.num:=by
  have:=Zb8 b.num;unfold zI at *;by_cases h:b.num < 0
  ·simp only [decide_eq_true h,Bool.not_true,Bool.false_eq_true,if_false];omega
  ·simp only [decide_eq_false h,Bool.not_false,if_true];omega
 have e2:mkRat (-b.num) b.den=-b:=by rw [←Rat.neg_mkRat,Rat.mkRat_self]
 rw [Zb8,e,Rat.mkRat_self,e2,←Rat.sub_eq_add_neg] at c;refine Zaa (tok:=0) Tryz.func102 rfl Tryz.ntmps102 Tryz.results102 Tryz.call102 (by rfl) (by simp) ?_;(focus (refine wkvp w_t (w_1 c) ?_;(repeat' first|exact w_t|apply w_l);all_goals intros));simp (disch:=omega) only [go_sem]
theorem ratCmp (a b:Rat) {j k:Nat} (ha:Sz a j) (hb:Sz b k) (hj:j≤2000000) (hk:k≤2000000):Pure Tryz.prog 87 [ratQ a,ratQ b] (.v (.int .i64 (cmpQ a b))):=by
 obtain⟨a1,a2⟩:=id ha;obtain⟨b1,b2⟩:=id hb;have sa:=Zed a ha (by omega);have sb:=Zed b hb (by omega);have pa:=Zfg a ha (by omega);have pb:=Zfg b hb (by omega);have cm1:=iMulN a.num b.den (by omega) (by omega);have cm2:=iMulN b.num a.den (by omega) (by omega);have x1:(toL (a.num*b.den).natAbs).length≤j+k:=Zeq a b ha hb;have x2:(toL (b.num*a.den).natAbs).length≤k+j:=Zeq b a hb ha;have cc:=iCmp (a.num*b.den) (b.num*a.den) (by omega) (by omega);have cw1:=Zi5 b.den;have cw2:=Zi5 a.den;have dp:(0:Int) < a.den:=by have:=a.den_pos;omega
 have ep:(0:Int) < b.den:=by have:=b.den_pos;omega
 rw [cmpQ_z]
 have sg:∀z:Int,(z.sign=1∧0 < z)∨(z.sign=0∧z=0)∨(z.sign=-1∧z < 0):=by
  intro z;rcases Int.lt_trichotomy z 0 with h | h | h
  ·exact .inr (.inr ⟨Int.sign_eq_neg_one_of_neg h,h⟩)
  ·exact .inr (.inl ⟨by rw [h];rfl,h⟩)
  ·exact .inl ⟨Int.sign_eq_one_of_pos h,h⟩
 have mp:∀z w:Int,0 < z→0 < w→0 < z*w:=λz w=>Int.mul_pos;have mz:∀w:Int,0*w=0:=λw=>Int.zero_mul w;have mn:∀z w:Int,z < 0→0 < w→z*w < 0:=λz w=>Int.mul_neg_of_neg_of_pos
 have sA:(a.num.sign=1→0 < a.num*b.den)∧(a.num.sign=0→a.num*b.den=0)∧(a.num.sign=-1→a.num*b.den < 0):=by
  rcases sg a.num with⟨h,h'⟩ | ⟨h,h'⟩ | ⟨h,h'⟩
  ·exact⟨λ_=>mp _ _ h' ep,λh2=>(by omega),λh2=>(by omega)⟩
  ·exact⟨λh2=>(by omega),λ_=>(by rw [h'];exact mz _),λh2=>(by omega)⟩
  ·exact⟨λh2=>(by omega),λh2=>(by omega),λ_=>mn _ _ h' ep⟩
 have sB:(b.num.sign=1→0 < b.num*a.den)∧(b.num.sign=0→b.num*a.den=0)∧(b.num.sign=-1→b.num*a.den < 0):=by
  rcases sg b.num with⟨h,h'⟩ | ⟨h,h'⟩ | ⟨h,h'⟩
  ·exact⟨λ_=>mp _ _ h' dp,λh2=>(by omega),λh2=>(by omega)⟩
  ·exact⟨λh2=>(by omega),λ_=>(by rw [h'];exact mz _),λh2=>(by omega)⟩
  ·exact⟨λh2=>(by omega),λh2=>(by omega),λ_=>mn _ _ h' dp⟩
 have ga:=sg a.num;have gb:=sg b.num;generalize a.num*(b.den:Int)=y1 at *;generalize b.num*(a.den:Int)=y2 at *;rcases Int.lt_trichotomy a.num.sign b.num.sign with h | h | h
 ·have hc:cmpZ y1 y2=-1:=by
   unfold cmpZ;rw [if_pos (by omega)]
  rw [hc];clear ga gb sA sB;refine Zaa (tok:=0) Tryz.func87 rfl Tryz.ntmps87 Tryz.results87 Tryz.call87 (by rfl) (by simp) ?_
  (repeat' (first|(with_reducible first|refine stp ?_|apply gx1|apply gx2|apply gx3|apply gx4|apply gx5|apply gx6|apply gx7|apply gy8|apply gz2|apply gz3|refine gw0 (sa) ?_ ?_|refine gw3 (sa) ?_ ?_ ?_|refine gw0 (sb) ?_ ?_|refine gw3 (sb) ?_ ?_ ?_)|(with_reducible refine Zao ?_;intro _)|((with_reducible refine gE ?_);(try simp (disch:=omega) only [go_sem])<;>first|rfl|omega)|with_reducible refine Zab (by decide) ?_|((with_reducible apply gy1);iterate 3 focus rfl)|((with_reducible apply gy2);iterate 3 focus rfl)|((with_reducible apply gy3);iterate 2 focus rfl)|((with_reducible apply gy4);iterate 1 focus rfl)|((with_reducible apply gy5);iterate 4 focus rfl)|((with_reducible apply gy5c);iterate 4 focus rfl)|((with_reducible apply gy6);iterate 4 focus rfl)|((with_reducible apply Za7);iterate 3 focus rfl)|((with_reducible apply Za6);iterate 1 focus rfl)|((with_reducible apply gy7);iterate 1 focus rfl)|((with_reducible apply gy9);(focus ((with_reducible refine gE ?_);(try simp (disch:=omega) only [go_sem])<;>rfl)))|((with_reducible apply gz1);(focus first|rfl|(simp (disch:=omega) only [go_sem];done)))|((with_reducible apply Zae (Zau [(1,.v (.int .i64 a.num.sign)),(3,.v (.int .i64 b.num.sign))]) [] []);(focus kernel_rfl);(focus rfl);(focus kernel_rfl);(focus (simp only [List.length_cons,List.length_nil,Nat.reduceAdd];rfl)))))
  simp (disch:=omega) only [go_sem]
 ·refine Zaa (tok:=0) Tryz.func87 rfl Tryz.ntmps87 Tryz.results87 Tryz.call87 (by rfl) (by simp) ?_;(focus (refine wkvp w_t (w_2 sa sb) ?_;(repeat' first|exact w_t|apply w_l);all_goals intros));apply Zae (Zau [(1,.v (.int .i64 a.num.sign)),(3,.v (.int .i64 b.num.sign))]) [] [] (by kernel_rfl) (by rfl) (by kernel_rfl);(focus (simp only [List.length_cons,List.length_nil,Nat.reduceAdd];rfl));(focus (refine wkud w_t (w_4 sa sb pa pb) ?_;(repeat' first|exact w_t|apply w_l);all_goals intros));apply Zae (Zau [(2,intA false b.den),(3,intZ y1),(6,intA false a.den),(7,intZ y2),(8,.v (.int .i64 (cmpZ y1 y2)))]) [] [] (by kernel_rfl) (by rfl) (by kernel_rfl);(focus (simp only [List.length_cons,List.length_nil,Nat.reduceAdd];rfl))
  (focus (refine wkud w_t (w_5 cw1 cm1 cw2 cm2 cc) ?_;(repeat' first|exact w_t|apply w_l);all_goals intros));simp (disch:=omega) only [go_sem]
 ·have hc:cmpZ y1 y2=1:=by
   unfold cmpZ;rw [if_neg (by omega),if_pos (by omega)]
  rw [hc];clear ga gb sA sB;refine Zaa (tok:=0) Tryz.func87 rfl Tryz.ntmps87 Tryz.results87 Tryz.call87 (by rfl) (by simp) ?_
  (repeat' (first|(with_reducible first|refine stp ?_|apply gx1|apply gx2|apply gx3|apply gx4|apply gx5|apply gx6|apply gx7|apply gy8|apply gz2|apply gz3|refine gw0 (sa) ?_ ?_|refine gw3 (sa) ?_ ?_ ?_|refine gw0 (sb) ?_ ?_|refine gw3 (sb) ?_ ?_ ?_)|(with_reducible refine Zao ?_;intro _)|((with_reducible refine gE ?_);(try simp (disch:=omega) only [go_sem])<;>first|rfl|omega)|with_reducible refine Zab (by decide) ?_|((with_reducible apply gy1);iterate 3 focus rfl)|((with_reducible apply gy2);iterate 3 focus rfl)|((with_reducible apply gy3);iterate 2 focus rfl)|((with_reducible apply gy4);iterate 1 focus rfl)|((with_reducible apply gy5);iterate 4 focus rfl)|((with_reducible apply gy5c);iterate 4 focus rfl)|((with_reducible apply gy6);iterate 4 focus rfl)|((with_reducible apply Za7);iterate 3 focus rfl)|((with_reducible apply Za6);iterate 1 focus rfl)|((with_reducible apply gy7);iterate 1 focus rfl)|((with_reducible apply gy9);(focus ((with_reducible refine gE ?_);(try simp (disch:=omega) only [go_sem])<;>rfl)))|((with_reducible apply gz1);(focus first|rfl|(simp (disch:=omega) only [go_sem];done)))|((with_reducible apply Zae (Zau [(1,.v (.int .i64 a.num.sign)),(3,.v (.int .i64 b.num.sign))]) [] []);(focus kernel_rfl);(focus rfl);(focus kernel_rfl);(focus (simp only [List.length_cons,List.length_nil,Nat.reduceAdd];rfl)))))
  simp (disch:=omega) only [go_sem]
theorem Zh1 {z:Int} (h:z < 0):intZ z=intA true z.natAbs:=by unfold intZ;rw [decide_eq_true h]
theorem Zgv {z:Int} (h:¬z < 0):intZ z=intA false z.natAbs:=by unfold intZ;rw [decide_eq_false h]
theorem zOf' (s:Bool) (n:Nat) (hn:(toL n).length≤100000000):Pure Tryz.prog 210 [.v (.bool s),lim (toL n)] (intZ (zI s n)):=by
 rw [Zic];have hp:=@Zbb n;cases s
 ·refine Zaa (tok:=0) Tryz.func210 rfl Tryz.ntmps210 Tryz.results210 Tryz.call210 (by rfl) (by simp) ?_;(focus (refine wkvp w_t (w_1 (rNorm n hn)) ?_;(repeat' first|exact w_t|apply w_l);all_goals intros));simp (disch:=omega) only [go_sem,Bool.false_and]
 ·by_cases h:0 < n
  ·have h2:=hp.2 h;refine Zaa (tok:=0) Tryz.func210 rfl Tryz.ntmps210 Tryz.results210 Tryz.call210 (by rfl) (by simp) ?_;(focus (refine wkvp w_t (w_1 (rNorm n hn)) ?_;(repeat' first|exact w_t|apply w_l);all_goals intros));simp (disch:=omega) only [go_sem,decide_eq_true h]
  ·have h2:¬0 < (toL n).length:=λh3=>h (hp.1 h3);refine Zaa (tok:=0) Tryz.func210 rfl Tryz.ntmps210 Tryz.results210 Tryz.call210 (by rfl) (by simp) ?_;(focus (refine wkvp w_t (w_1 (rNorm n hn)) ?_;(repeat' first|exact w_t|apply w_l);all_goals intros));simp (disch:=omega) only [go_sem,decide_eq_false h]
theorem zNorm (s:Bool) (n:Nat) (hn:(toL n).length≤100000000):Pure Tryz.prog 209 [intA s n] (intZ (zI s n)):=by
 refine Zaa (tok:=0) Tryz.func209 rfl Tryz.ntmps209 Tryz.results209 Tryz.call209 (by rfl) (by simp) ?_;(focus (refine wkvp w_t (w_1 (zOf' s n hn)) ?_;(repeat' first|exact w_t|apply w_l);all_goals intros));simp (disch:=omega) only [go_sem]
theorem Zto (z:Int) (hz:(toL z.natAbs).length≤100000000):Pure Tryz.prog 209 [intZ z] (intZ z):=by
 have:=zNorm (decide (z < 0)) z.natAbs hz
 rwa [Zb8] at this
theorem zOf (n:Nat) (hn:n < 9223372036854775808):Pure Tryz.prog 122 [.v (.int .i64 (n:Int))] (intA false n):=by
 have l4:(toL n).length≤4:=Zag.2 (by omega);have hm:=zOf' false n (by omega);rw [Zic,Bool.false_and] at hm;refine Zaa (tok:=0) Tryz.func122 rfl Tryz.ntmps122 Tryz.results122 Tryz.call122 (by rfl) (by simp) ?_;(focus (refine wkvp w_t (w_2 (Ziy n (by omega)) hm) ?_;(repeat' first|exact w_t|apply w_l);all_goals intros));simp (disch:=omega) only [go_sem]
theorem zNeg (s:Bool) (n:Nat) (hn:(toL n).length≤100000000):Pure Tryz.prog 325 [intA s n] (intZ (-zI s n)):=by
 have e:-zI s n=zI (!s) n:=by cases s<;>simp [zI]
 rw [e];refine Zaa (tok:=0) Tryz.func325 rfl Tryz.ntmps325 Tryz.results325 Tryz.call325 (by rfl) (by simp) ?_;(focus (refine wkvp w_t (w_1 (zOf' (!s) n hn)) ?_;(repeat' first|exact w_t|apply w_l);all_goals intros));simp (disch:=omega) only [go_sem]
theorem zSign (z:Int) (hz:(toL z.natAbs).length≤100000000):Pure Tryz.prog 138 [intZ z] (.v (.int .i64 z.sign)):=by
 have cn:=Zto z hz;have hp:=@Zbb z.natAbs;rcases Int.lt_trichotomy z 0 with h | h | h
 ·rw [Int.sign_eq_neg_one_of_neg h];have h2:=hp.2 (by omega);rw [Zh1 h] at cn ⊢;refine Zaa (tok:=0) Tryz.func138 rfl Tryz.ntmps138 Tryz.results138 Tryz.call138 (by rfl) (by simp) ?_;(focus (refine wkvp w_t (w_1 cn) ?_;(repeat' first|exact w_t|apply w_l);all_goals intros));simp (disch:=omega) only [go_sem]
 ·have h2:¬0 < (toL z.natAbs).length:=λh3=>by have:=hp.1 h3;omega
  have hs:z.sign=0:=by rw [h];rfl
  rw [hs];rw [Zgv (by omega)] at cn ⊢;refine Zaa (tok:=0) Tryz.func138 rfl Tryz.ntmps138 Tryz.results138 Tryz.call138 (by rfl) (by simp) ?_;(focus (refine wkvp w_t (w_1 cn) ?_;(repeat' first|exact w_t|apply w_l);all_goals intros));simp (disch:=omega) only [go_sem]
 ·rw [Int.sign_eq_one_of_pos h];have h2:=hp.2 (by omega);rw [Zgv (by omega)] at cn ⊢;refine Zaa (tok:=0) Tryz.func138 rfl Tryz.ntmps138 Tryz.results138 Tryz.call138 (by rfl) (by simp) ?_;(focus (refine wkvp w_t (w_1 cn) ?_;(repeat' first|exact w_t|apply w_l);all_goals intros));simp (disch:=omega) only [go_sem]
theorem zCmp (z w:Int) (hz:(toL z.natAbs).length≤100000000) (hw:(toL w.natAbs).length≤100000000):Pure Tryz.prog 162 [intZ z,intZ w] (.v (.int .i64 (cmpZ z w))):=by
 have c1:=Zto z hz;have c2:=Zto w hw;have ca:=rCmp z.natAbs w.natAbs hz hw;have cb:=rCmp w.natAbs z.natAbs hw hz;by_cases h1:z < 0
 ·by_cases h2:w < 0
  ·have hc:cmpZ z w=cmpN w.natAbs z.natAbs:=by
    unfold cmpZ cmpN;have e1:(z < w)↔(w.natAbs < z.natAbs):=by omega
    have e2:(w < z)↔(z.natAbs < w.natAbs):=by omega
    simp only [e1,e2]
   rw [hc];rw [Zh1 h1] at c1 ⊢;rw [Zh1 h2] at c2 ⊢;refine Zaa (tok:=0) Tryz.func162 rfl Tryz.ntmps162 Tryz.results162 Tryz.call162 (by rfl) (by simp) ?_
   (repeat' (first|(with_reducible first|refine stp ?_|apply gx1|apply gx2|apply gx3|apply gx4|apply gx5|apply gx6|apply gx7|apply gy8|apply gz2|apply gz3|refine gw0 (c1) ?_ ?_|refine gw3 (c1) ?_ ?_ ?_|refine gw0 (c2) ?_ ?_|refine gw3 (c2) ?_ ?_ ?_|refine gw0 (cb) ?_ ?_|refine gw3 (cb) ?_ ?_ ?_)|(with_reducible refine Zao ?_;intro _)|((with_reducible refine gE ?_);(try simp (disch:=omega) only [go_sem])<;>first|rfl|omega)|with_reducible refine Zab (by decide) ?_|((with_reducible apply gy1);iterate 3 focus rfl)|((with_reducible apply gy2);iterate 3 focus rfl)|((with_reducible apply gy3);iterate 2 focus rfl)|((with_reducible apply gy4);iterate 1 focus rfl)|((with_reducible apply gy5);iterate 4 focus rfl)|((with_reducible apply gy5c);iterate 4 focus rfl)|((with_reducible apply gy6);iterate 4 focus rfl)|((with_reducible apply Za7);iterate 3 focus rfl)|((with_reducible apply Za6);iterate 1 focus rfl)|((with_reducible apply gy7);iterate 1 focus rfl)|((with_reducible apply gy9);(focus ((with_reducible refine gE ?_);(try simp (disch:=omega) only [go_sem])<;>rfl)))|((with_reducible apply gz1);(focus first|rfl|(simp (disch:=omega) only [go_sem];done)))|((with_reducible apply Zae (Zau [(1,.agg [.v (.bool true),lim (toL z.natAbs)]),(3,.agg [.v (.bool true),lim (toL w.natAbs)])]) [4,5] []);(focus kernel_rfl);(focus rfl);(focus kernel_rfl);(focus (simp only [List.length_cons,List.length_nil,Nat.reduceAdd];rfl)))))
   simp (disch:=omega) only [go_sem]
  ·have hc:cmpZ z w=-1:=if_pos (by omega);rw [hc];rw [Zh1 h1] at c1 ⊢;rw [Zgv h2] at c2 ⊢;refine Zaa (tok:=0) Tryz.func162 rfl Tryz.ntmps162 Tryz.results162 Tryz.call162 (by rfl) (by simp) ?_
   (repeat' (first|(with_reducible first|refine stp ?_|apply gx1|apply gx2|apply gx3|apply gx4|apply gx5|apply gx6|apply gx7|apply gy8|apply gz2|apply gz3|refine gw0 (c1) ?_ ?_|refine gw3 (c1) ?_ ?_ ?_|refine gw0 (c2) ?_ ?_|refine gw3 (c2) ?_ ?_ ?_)|(with_reducible refine Zao ?_;intro _)|((with_reducible refine gE ?_);(try simp (disch:=omega) only [go_sem])<;>first|rfl|omega)|with_reducible refine Zab (by decide) ?_|((with_reducible apply gy1);iterate 3 focus rfl)|((with_reducible apply gy2);iterate 3 focus rfl)|((with_reducible apply gy3);iterate 2 focus rfl)|((with_reducible apply gy4);iterate 1 focus rfl)|((with_reducible apply gy5);iterate 4 focus rfl)|((with_reducible apply gy5c);iterate 4 focus rfl)|((with_reducible apply gy6);iterate 4 focus rfl)|((with_reducible apply Za7);iterate 3 focus rfl)|((with_reducible apply Za6);iterate 1 focus rfl)|((with_reducible apply gy7);iterate 1 focus rfl)|((with_reducible apply gy9);(focus ((with_reducible refine gE ?_);(try simp (disch:=omega) only [go_sem])<;>rfl)))|((with_reducible apply gz1);(focus first|rfl|(simp (disch:=omega) only [go_sem];done)))|((with_reducible apply Zae (Zau [(1,.agg [.v (.bool true),lim (toL z.natAbs)]),(3,.agg [.v (.bool false),lim (toL w.natAbs)])]) [4,5] []);(focus kernel_rfl);(focus rfl);(focus kernel_rfl);(focus (simp only [List.length_cons,List.length_nil,Nat.reduceAdd];rfl)))))
   simp (disch:=omega) only [go_sem]
 ·by_cases h2:w < 0
  ·have hc:cmpZ z w=1:=by unfold cmpZ;rw [if_neg (by omega),if_pos (by omega)]
   rw [hc];rw [Zgv h1] at c1 ⊢;rw [Zh1 h2] at c2 ⊢;refine Zaa (tok:=0) Tryz.func162 rfl Tryz.ntmps162 Tryz.results162 Tryz.call162 (by rfl) (by simp) ?_
   (repeat' (first|(with_reducible first|refine stp ?_|apply gx1|apply gx2|apply gx3|apply gx4|apply gx5|apply gx6|apply gx7|apply gy8|apply gz2|apply gz3|refine gw0 (c1) ?_ ?_|refine gw3 (c1) ?_ ?_ ?_|refine gw0 (c2) ?_ ?_|refine gw3 (c2) ?_ ?_ ?_)|(with_reducible refine Zao ?_;intro _)|((with_reducible refine gE ?_);(try simp (disch:=omega) only [go_sem])<;>first|rfl|omega)|with_reducible refine Zab (by decide) ?_|((with_reducible apply gy1);iterate 3 focus rfl)|((with_reducible apply gy2);iterate 3 focus rfl)|((with_reducible apply gy3);iterate 2 focus rfl)|((with_reducible apply gy4);iterate 1 focus rfl)|((with_reducible apply gy5);iterate 4 focus rfl)|((with_reducible apply gy5c);iterate 4 focus rfl)|((with_reducible apply gy6);iterate 4 focus rfl)|((with_reducible apply Za7);iterate 3 focus rfl)|((with_reducible apply Za6);iterate 1 focus rfl)|((with_reducible apply gy7);iterate 1 focus rfl)|((with_reducible apply gy9);(focus ((with_reducible refine gE ?_);(try simp (disch:=omega) only [go_sem])<;>rfl)))|((with_reducible apply gz1);(focus first|rfl|(simp (disch:=omega) only [go_sem];done)))|((with_reducible apply Zae (Zau [(1,.agg [.v (.bool false),lim (toL z.natAbs)]),(3,.agg [.v (.bool true),lim (toL w.natAbs)])]) [4,5] []);(focus kernel_rfl);(focus rfl);(focus kernel_rfl);(focus (simp only [List.length_cons,List.length_nil,Nat.reduceAdd];rfl)))))
   simp (disch:=omega) only [go_sem]
  ·have hc:cmpZ z w=cmpN z.natAbs w.natAbs:=by
    unfold cmpZ cmpN;have e1:(z < w)↔(z.natAbs < w.natAbs):=by omega
    have e2:(w < z)↔(w.natAbs < z.natAbs):=by omega
    simp only [e1,e2]
   rw [hc];rw [Zgv h1] at c1 ⊢;rw [Zgv h2] at c2 ⊢;refine Zaa (tok:=0) Tryz.func162 rfl Tryz.ntmps162 Tryz.results162 Tryz.call162 (by rfl) (by simp) ?_
   (repeat' (first|(with_reducible first|refine stp ?_|apply gx1|apply gx2|apply gx3|apply gx4|apply gx5|apply gx6|apply gx7|apply gy8|apply gz2|apply gz3|refine gw0 (c1) ?_ ?_|refine gw3 (c1) ?_ ?_ ?_|refine gw0 (c2) ?_ ?_|refine gw3 (c2) ?_ ?_ ?_|refine gw0 (ca) ?_ ?_|refine gw3 (ca) ?_ ?_ ?_)|(with_reducible refine Zao ?_;intro _)|((with_reducible refine gE ?_);(try simp (disch:=omega) only [go_sem])<;>first|rfl|omega)|with_reducible refine Zab (by decide) ?_|((with_reducible apply gy1);iterate 3 focus rfl)|((with_reducible apply gy2);iterate 3 focus rfl)|((with_reducible apply gy3);iterate 2 focus rfl)|((with_reducible apply gy4);iterate 1 focus rfl)|((with_reducible apply gy5);iterate 4 focus rfl)|((with_reducible apply gy5c);iterate 4 focus rfl)|((with_reducible apply gy6);iterate 4 focus rfl)|((with_reducible apply Za7);iterate 3 focus rfl)|((with_reducible apply Za6);iterate 1 focus rfl)|((with_reducible apply gy7);iterate 1 focus rfl)|((with_reducible apply gy9);(focus ((with_reducible refine gE ?_);(try simp (disch:=omega) only [go_sem])<;>rfl)))|((with_reducible apply gz1);(focus first|rfl|(simp (disch:=omega) only [go_sem];done)))|((with_reducible apply Zae (Zau [(1,.agg [.v (.bool false),lim (toL z.natAbs)]),(3,.agg [.v (.bool false),lim (toL w.natAbs)])]) [4,5] []);(focus kernel_rfl);(focus rfl);(focus kernel_rfl);(focus (simp only [List.length_cons,List.length_nil,Nat.reduceAdd];rfl)))))
   simp (disch:=omega) only [go_sem]
theorem zMul (s t:Bool) (n m:Nat) (hn:(toL n).length≤40000000) (hm:(toL m).length≤40000000):Pure Tryz.prog 154 [intA s n,intA t m] (intZ (zI s n*zI t m)):=by
 have e:zI s n*zI t m=zI (s != t) (n*m):=by cases s<;>cases t<;>simp [zI,Int.mul_neg,Int.neg_mul]
 have lm:=Ze5 n m;have hne:(!(s == t))=(s != t):=rfl;rw [e];refine Zaa (tok:=0) Tryz.func154 rfl Tryz.ntmps154 Tryz.results154 Tryz.call154 (by rfl) (by simp) ?_
 (repeat' (first|(with_reducible first|refine stp ?_|apply gx1|apply gx2|apply gx3|apply gx4|apply gx5|apply gx6|apply gx7|apply gy8|apply gz2|apply gz3|refine gw0 (rMul n m (by omega) (by omega)) ?_ ?_|refine gw3 (rMul n m (by omega) (by omega)) ?_ ?_ ?_|refine gw0 (zOf' (s != t) (n*m) (by omega)) ?_ ?_|refine gw3 (zOf' (s != t) (n*m) (by omega)) ?_ ?_ ?_)|(with_reducible refine Zao ?_;intro _)|((with_reducible refine gE ?_);(try simp (disch:=omega) only [go_sem,hne])<;>first|rfl|omega)|with_reducible refine Zab (by decide) ?_|((with_reducible apply gy1);iterate 3 focus rfl)|((with_reducible apply gy2);iterate 3 focus rfl)|((with_reducible apply gy3);iterate 2 focus rfl)|((with_reducible apply gy4);iterate 1 focus rfl)|((with_reducible apply gy5);iterate 4 focus rfl)|((with_reducible apply gy5c);iterate 4 focus rfl)|((with_reducible apply gy6);iterate 4 focus rfl)|((with_reducible apply Za7);iterate 3 focus rfl)|((with_reducible apply Za6);iterate 1 focus rfl)|((with_reducible apply gy7);iterate 1 focus rfl)|((with_reducible apply gy9);(focus ((with_reducible refine gE ?_);(try simp (disch:=omega) only [go_sem,hne])<;>rfl)))|((with_reducible apply gz1);(focus first|rfl|(simp (disch:=omega) only [go_sem,hne];done)))|((with_reducible apply Zae (Zau [(9,lim (toL (n*m))),(10,intZ (zI (s != t) (n*m)))]) [11] []);(focus kernel_rfl);(focus rfl);(focus kernel_rfl);(focus (simp only [List.length_cons,List.length_nil,Nat.reduceAdd];rfl)))))
 simp (disch:=omega) only [go_sem]
theorem zAdd (s t:Bool) (n m:Nat) (hn:(toL n).length≤40000000) (hm:(toL m).length≤40000000):Pure Tryz.prog 160 [intA s n,intA t m] (intZ (zI s n+zI t m)):=by
 by_cases hst:s=t
 ·subst hst;have e:zI s n+zI s m=zI s (n+m):=by cases s<;>simp [zI]<;>omega
  have la:=Zn7 n m;rw [e];have hb:(s == s)=true:=by cases s<;>rfl
  refine Zaa (tok:=0) Tryz.func160 rfl Tryz.ntmps160 Tryz.results160 Tryz.call160 (by rfl) (by simp) ?_
  (repeat' (first|(with_reducible first|refine stp ?_|apply gx1|apply gx2|apply gx3|apply gx4|apply gx5|apply gx6|apply gx7|apply gy8|apply gz2|apply gz3|refine gw0 (rAdd n m (by omega) (by omega)) ?_ ?_|refine gw3 (rAdd n m (by omega) (by omega)) ?_ ?_ ?_|refine gw0 (zOf' s (n+m) (by omega)) ?_ ?_|refine gw3 (zOf' s (n+m) (by omega)) ?_ ?_ ?_)|(with_reducible refine Zao ?_;intro _)|((with_reducible refine gE ?_);(try simp (disch:=omega) only [go_sem,hb])<;>first|rfl|omega)|with_reducible refine Zab (by decide) ?_|((with_reducible apply gy1);iterate 3 focus rfl)|((with_reducible apply gy2);iterate 3 focus rfl)|((with_reducible apply gy3);iterate 2 focus rfl)|((with_reducible apply gy4);iterate 1 focus rfl)|((with_reducible apply gy5);iterate 4 focus rfl)|((with_reducible apply gy5c);iterate 4 focus rfl)|((with_reducible apply gy6);iterate 4 focus rfl)|((with_reducible apply Za7);iterate 3 focus rfl)|((with_reducible apply Za6);iterate 1 focus rfl)|((with_reducible apply gy7);iterate 1 focus rfl)|((with_reducible apply gy9);(focus ((with_reducible refine gE ?_);(try simp (disch:=omega) only [go_sem,hb])<;>rfl)))|((with_reducible apply gz1);(focus first|rfl|(simp (disch:=omega) only [go_sem,hb];done)))|((with_reducible apply Zae (Zau [(6,lim (toL (n+m))),(7,intZ (zI s (n+m)))]) [8] []);(focus kernel_rfl);(focus rfl);(focus kernel_rfl);(focus (simp only [List.length_cons,List.length_nil,Nat.reduceAdd];rfl)))))
  simp (disch:=omega) only [go_sem]
 ·have hb:(s == t)=false:=by cases s<;>cases t<;>first|rfl|exact absurd rfl hst
  have ht:t=!s:=by cases s<;>cases t<;>first|rfl|exact absurd rfl hst
  have c1:=rSub n m (by omega) (by omega);have c2:=rSub m n (by omega) (by omega);by_cases hlt:n < m
  ·have e:zI s n+zI t m=zI t (m - n):=by rw [ht];cases s<;>simp [zI]<;>omega
   have ls:(toL (m - n)).length≤100000000:=Nat.le_trans (Zcy (Nat.sub_le _ _)) (by omega);rw [if_pos hlt,if_pos hlt] at c1;rw [if_neg (by omega),if_neg (by omega)] at c2;rw [e];refine Zaa (tok:=0) Tryz.func160 rfl Tryz.ntmps160 Tryz.results160 Tryz.call160 (by rfl) (by simp) ?_;(focus (refine wkvd (w_1 hb) (w_3 c1 c2 (zOf' t (m - n) ls)) w_t ?_;(repeat' first|exact w_t|apply w_l);all_goals intros));simp (disch:=omega) only [go_sem]
  ·have e:zI s n+zI t m=zI s (n - m):=by rw [ht];cases s<;>simp [zI]<;>omega
   have ls:(toL (n - m)).length≤100000000:=Nat.le_trans (Zcy (Nat.sub_le _ _)) (by omega);rw [if_neg hlt,if_neg hlt] at c1;rw [e];refine Zaa (tok:=0) Tryz.func160 rfl Tryz.ntmps160 Tryz.results160 Tryz.call160 (by rfl) (by simp) ?_;(focus (refine wkvd (w_1 hb) (w_2 c1 (zOf' s (n - m) ls)) w_t ?_;(repeat' first|exact w_t|apply w_l);all_goals intros));simp (disch:=omega) only [go_sem]
theorem gcd_le_l (n m:Nat) (h:m≠0):Nat.gcd n m≠0:=Nat.ne_of_gt (Nat.gcd_pos_of_pos_right _ (Nat.pos_of_ne_zero h))
theorem intZ_div (s:Bool) (n g:Nat) (hg:g ∣ n) (h0:g≠0):intZ (zI s (n/g))=.agg [.v (.bool (decide (zI s n < 0))),lim (toL (n/g))]:=by
 rw [Zic,zI_lt]
 have:(0 < n/g)↔(0 < n):=by
  obtain⟨k,rfl⟩:=hg;rw [Nat.mul_div_cancel_left _ (Nat.pos_of_ne_zero h0)];constructor
  ·intro h;exact Nat.mul_pos (Nat.pos_of_ne_zero h0) h
  ·intro h;exact Nat.pos_of_ne_zero λe=>by rw [e] at h;simp at h
 simp only [this]
theorem Zsx (s:Bool) (n m:Nat) (hn:(toL n).length≤10000000) (hm:(toL m).length≤10000000) (h0:m≠0):Pure Tryz.prog 121 [intA s n,lim (toL m)] (ratQ (mkRat (zI s n) m)):=by
 rw [Zpk _ _ h0,Zdo];have g0:=gcd_le_l n m h0;have hgd:=Nat.gcd_dvd_left n m;have hmp:=Zbb.2 (Nat.pos_of_ne_zero h0);have hg:(toL (Nat.gcd n m)).length≤10000000:=Nat.le_trans (Zcy (Nat.le_of_dvd (by omega) (Nat.gcd_dvd_right _ _))) hm;have hq:(toL (n/Nat.gcd n m)).length≤10000000:=Nat.le_trans (Zcy (Nat.div_le_self _ _)) hn;have cg:=rGcd n m (by omega) (by omega);have c1:=Zu5 n (Nat.gcd n m) (by omega) (by omega) g0;have c2:=Zu5 m (Nat.gcd n m) (by omega) (by omega) g0;have cn:=zNorm s (n/Nat.gcd n m) (by omega);rw [intZ_div s n _ hgd g0] at cn;refine Zaa (tok:=0) Tryz.func121 rfl Tryz.ntmps121 Tryz.results121 Tryz.call121 (by rfl) (by simp) ?_
 (focus (refine wkvp w_t (w_5 (rNorm m (by omega)) cg c1 c2 cn) ?_;(repeat' first|exact w_t|apply w_l);all_goals intros));simp (disch:=omega) only [go_sem]
theorem Zva (q:Rat) {k:Nat} (h:Sz q k) (hk:k≤10000000):Pure Tryz.prog 139 [ratQ q] (ratQ q):=by
 have c:=Zsx (decide (q.num < 0)) q.num.natAbs q.den (Nat.le_trans h.1 hk) (Nat.le_trans h.2 hk) q.den_nz;rw [Zb8,Rat.mkRat_self] at c;refine Zaa (tok:=0) Tryz.func139 rfl Tryz.ntmps139 Tryz.results139 Tryz.call139 (by rfl) (by simp) ?_;(focus (refine wkvp w_t (w_1 c) ?_;(repeat' first|exact w_t|apply w_l);all_goals intros));simp (disch:=omega) only [go_sem]
theorem Zq8 (n:Nat):Pure Tryz.prog 161 [lim (toL n)] (intA false n):=by
 refine Zaa (tok:=0) Tryz.func161 rfl Tryz.ntmps161 Tryz.results161 Tryz.call161 (by rfl) (by simp) ?_;(focus (refine wkvp w_t w_t ?_;(repeat' first|exact w_t|apply w_l);all_goals intros));simp (disch:=omega) only [go_sem]
theorem qOf (n:Nat) (hn:n < 9223372036854775808):Pure Tryz.prog 53 [.v (.int .i64 (n:Int))] (ratQ (n:Rat)):=by
 have l4:(toL n).length≤4:=Zag.2 (by omega);have c:=Zsx false n 1 (by omega) (by rw [Zdi];omega) (by omega)
 have e:mkRat (zI false n) 1=(n:Rat):=by
  have:=Rat.mkRat_self (n:Rat);exact this
 rw [e] at c;refine Zaa (tok:=0) Tryz.func53 rfl Tryz.ntmps53 Tryz.results53 Tryz.call53 (by rfl) (by simp) ?_;(focus (refine wkvp w_t (w_3 (zOf n hn) (Ziy 1 (by omega)) c) ?_;(repeat' first|exact w_t|apply w_l);all_goals intros));simp (disch:=omega) only [go_sem]
theorem qMul (a b:Rat) {j k:Nat} (ha:Sz a j) (hb:Sz b k) (hj:j≤2000000) (hk:k≤2000000):Pure Tryz.prog 78 [ratQ a,ratQ b] (ratQ (a*b)):=by
 obtain⟨a1,a2⟩:=id ha;obtain⟨b1,b2⟩:=id hb;have l1:(toL (a.num*b.num).natAbs).length≤j+k:=by rw [Int.natAbs_mul];exact Nat.le_trans (Ze5 _ _) (by omega)
 have l2:(toL (a.den*b.den)).length≤j+k:=Nat.le_trans (Ze5 _ _) (by omega);have c:=Zsx (decide (a.num*b.num < 0)) (a.num*b.num).natAbs (a.den*b.den) (by omega) (by omega) (Nat.mul_ne_zero a.den_nz b.den_nz);rw [Zb8,←Rat.mul_def'] at c;have cz:=zMul (decide (a.num < 0)) (decide (b.num < 0)) a.num.natAbs b.num.natAbs (by omega) (by omega);rw [Zb8,Zb8] at cz;have cd:=rMul a.den b.den (by omega) (by omega);generalize a*b=q at *;generalize a.num*b.num=y at *;refine Zaa (tok:=0) Tryz.func78 rfl Tryz.ntmps78 Tryz.results78 Tryz.call78 (by rfl) (by simp) ?_
 (repeat' (first|(with_reducible first|refine stp ?_|apply gx1|apply gx2|apply gx3|apply gx4|apply gx5|apply gx6|apply gx7|apply gy8|apply gz2|apply gz3|refine gw0 (cz) ?_ ?_|refine gw3 (cz) ?_ ?_ ?_|refine gw0 (cd) ?_ ?_|refine gw3 (cd) ?_ ?_ ?_|refine gw0 (c) ?_ ?_|refine gw3 (c) ?_ ?_ ?_)|(with_reducible refine Zao ?_;intro _)|((with_reducible refine gE ?_);(try simp (disch:=omega) only [go_sem])<;>first|rfl|omega)|with_reducible refine Zab (by decide) ?_|((with_reducible apply gy1);iterate 3 focus rfl)|((with_reducible apply gy2);iterate 3 focus rfl)|((with_reducible apply gy3);iterate 2 focus rfl)|((with_reducible apply gy4);iterate 1 focus rfl)|((with_reducible apply gy5);iterate 4 focus rfl)|((with_reducible apply gy5c);iterate 4 focus rfl)|((with_reducible apply gy6);iterate 4 focus rfl)|((with_reducible apply Za7);iterate 3 focus rfl)|((with_reducible apply Za6);iterate 1 focus rfl)|((with_reducible apply gy7);iterate 1 focus rfl)|((with_reducible apply gy9);(focus ((with_reducible refine gE ?_);(try simp (disch:=omega) only [go_sem])<;>rfl)))|((with_reducible apply gz1);(focus first|rfl|(simp (disch:=omega) only [go_sem];done)))|((with_reducible apply Zae (Zau [(4,intZ y),(9,lim (toL (a.den*b.den))),(10,ratQ q)]) [11] []);(focus kernel_rfl);(focus rfl);(focus kernel_rfl);(focus (simp only [List.length_cons,List.length_nil,Nat.reduceAdd];rfl)))))
 simp (disch:=omega) only [go_sem]
theorem qAdd (a b:Rat) {j k:Nat} (ha:Sz a j) (hb:Sz b k) (hj:j≤2000000) (hk:k≤2000000):Pure Tryz.prog 83 [ratQ a,ratQ b] (ratQ (a+b)):=by
 obtain⟨a1,a2⟩:=id ha;obtain⟨b1,b2⟩:=id hb;have na:=Zva a ha (by omega);have nb:=Zva b hb (by omega);have cm1:=zMul (decide (a.num < 0)) false a.num.natAbs b.den (by omega) (by omega);have cm2:=zMul (decide (b.num < 0)) false b.num.natAbs a.den (by omega) (by omega);rw [Zb8] at cm1 cm2;have cm1:Pure Tryz.prog 154 [intZ a.num,intA false b.den] (intZ (a.num*b.den)):=cm1;have cm2:Pure Tryz.prog 154 [intZ b.num,intA false a.den] (intZ (b.num*a.den)):=cm2;have x1:(toL (a.num*b.den).natAbs).length≤j+k:=Zeq a b ha hb;have x2:(toL (b.num*a.den).natAbs).length≤k+j:=Zeq b a hb ha
 have l1:(toL (a.num*b.den+b.num*a.den).natAbs).length≤j+k+1:=by
  have h3:=Zcy (Zd3 (a.num*b.den) (b.num*a.den));have h4:=Zn7 (a.num*b.den).natAbs (b.num*a.den).natAbs;omega
 have l2:(toL (a.den*b.den)).length≤j+k:=Nat.le_trans (Ze5 _ _) (by omega);have ca:=zAdd (decide (a.num*b.den < 0)) (decide (b.num*a.den < 0)) (a.num*b.den).natAbs (b.num*a.den).natAbs (by omega) (by omega);rw [Zb8,Zb8] at ca;have c:=Zsx (decide (a.num*b.den+b.num*a.den < 0)) (a.num*b.den+b.num*a.den).natAbs (a.den*b.den) (by omega) (by omega) (Nat.mul_ne_zero a.den_nz b.den_nz);rw [Zb8,←Rat.add_def'] at c;have cw1:=Zq8 b.den;have cw2:=Zq8 a.den;have cd:=rMul a.den b.den (by omega) (by omega);generalize a+b=q at *;generalize a.num*(b.den:Int)=y1 at *;generalize b.num*(a.den:Int)=y2 at *
 refine Zaa (tok:=0) Tryz.func83 rfl Tryz.ntmps83 Tryz.results83 Tryz.call83 (by rfl) (by simp) ?_;(focus (refine wkvp w_t w_t ?_;(repeat' first|exact w_t|apply w_l);all_goals intros));apply Zae (Zau [(1,ratQ a),(3,ratQ b)]) [4,5] [] (by kernel_rfl) (by rfl) (by kernel_rfl);(focus (simp only [List.length_cons,List.length_nil,Nat.reduceAdd];rfl));(focus (refine wkud w_t (w_2 na nb) ?_;(repeat' first|exact w_t|apply w_l);all_goals intros));apply Zae (Zau [(4,intA false b.den),(5,intZ y1),(10,intA false a.den),(11,intZ y2),(12,intZ (y1+y2)),(17,lim (toL (a.den*b.den))),(18,ratQ q)]) [19] [] (by kernel_rfl) (by rfl) (by kernel_rfl);(focus (simp only [List.length_cons,List.length_nil,Nat.reduceAdd];rfl))
 (focus (refine wkud w_t (w_7 cw1 cm1 cw2 cm2 ca cd c) ?_;(repeat' first|exact w_t|apply w_l);all_goals intros));simp (disch:=omega) only [go_sem]
theorem qNeg (a:Rat) {j:Nat} (ha:Sz a j) (hj:j≤2000000):Pure Tryz.prog 316 [ratQ a] (ratQ (-a)):=by
 obtain⟨a1,a2⟩:=id ha;have cn:=zNeg (decide (a.num < 0)) a.num.natAbs (by omega);have c:=Zsx (decide (-a.num < 0)) (-a.num).natAbs a.den (by rw [Int.natAbs_neg];omega) (by omega) a.den_nz;rw [Zb8] at c cn;rw [show mkRat (-a.num) a.den=-a by rw [←Rat.neg_mkRat,Rat.mkRat_self]] at c;generalize -a.num=y at *;generalize -a=q at *;refine Zaa (tok:=0) Tryz.func316 rfl Tryz.ntmps316 Tryz.results316 Tryz.call316 (by rfl) (by simp) ?_
 (repeat' (first|(with_reducible first|refine stp ?_|apply gx1|apply gx2|apply gx3|apply gx4|apply gx5|apply gx6|apply gx7|apply gy8|apply gz2|apply gz3|refine gw0 (cn) ?_ ?_|refine gw3 (cn) ?_ ?_ ?_|refine gw0 (c) ?_ ?_|refine gw3 (c) ?_ ?_ ?_)|(with_reducible refine Zao ?_;intro _)|((with_reducible refine gE ?_);(try simp (disch:=omega) only [go_sem])<;>first|rfl|omega)|with_reducible refine Zab (by decide) ?_|((with_reducible apply gy1);iterate 3 focus rfl)|((with_reducible apply gy2);iterate 3 focus rfl)|((with_reducible apply gy3);iterate 2 focus rfl)|((with_reducible apply gy4);iterate 1 focus rfl)|((with_reducible apply gy5);iterate 4 focus rfl)|((with_reducible apply gy5c);iterate 4 focus rfl)|((with_reducible apply gy6);iterate 4 focus rfl)|((with_reducible apply Za7);iterate 3 focus rfl)|((with_reducible apply Za6);iterate 1 focus rfl)|((with_reducible apply gy7);iterate 1 focus rfl)|((with_reducible apply gy9);(focus ((with_reducible refine gE ?_);(try simp (disch:=omega) only [go_sem])<;>rfl)))|((with_reducible apply gz1);(focus first|rfl|(simp (disch:=omega) only [go_sem];done)))|((with_reducible apply Zae (Zau [(2,intZ y),(5,ratQ q)]) [6] []);(focus kernel_rfl);(focus rfl);(focus kernel_rfl);(focus (simp only [List.length_cons,List.length_nil,Nat.reduceAdd];rfl)))))
 simp (disch:=omega) only [go_sem]
theorem qSub (a b:Rat) {j k:Nat} (ha:Sz a j) (hb:Sz b k) (hj:j≤2000000) (hk:k≤2000000):Pure Tryz.prog 290 [ratQ a,ratQ b] (ratQ (a - b)):=by
 have cn:=qNeg b hb hk;have c:=qAdd a (-b) ha hb.neg hj hk;rw [←Rat.sub_eq_add_neg] at c;generalize -b=y at *;generalize a - b=q at *;refine Zaa (tok:=0) Tryz.func290 rfl Tryz.ntmps290 Tryz.results290 Tryz.call290 (by rfl) (by simp) ?_
 (repeat' (first|(with_reducible first|refine stp ?_|apply gx1|apply gx2|apply gx3|apply gx4|apply gx5|apply gx6|apply gx7|apply gy8|apply gz2|apply gz3|refine gw0 (cn) ?_ ?_|refine gw3 (cn) ?_ ?_ ?_|refine gw0 (c) ?_ ?_|refine gw3 (c) ?_ ?_ ?_)|(with_reducible refine Zao ?_;intro _)|((with_reducible refine gE ?_);(try simp (disch:=omega) only [go_sem])<;>first|rfl|omega)|with_reducible refine Zab (by decide) ?_|((with_reducible apply gy1);iterate 3 focus rfl)|((with_reducible apply gy2);iterate 3 focus rfl)|((with_reducible apply gy3);iterate 2 focus rfl)|((with_reducible apply gy4);iterate 1 focus rfl)|((with_reducible apply gy5);iterate 4 focus rfl)|((with_reducible apply gy5c);iterate 4 focus rfl)|((with_reducible apply gy6);iterate 4 focus rfl)|((with_reducible apply Za7);iterate 3 focus rfl)|((with_reducible apply Za6);iterate 1 focus rfl)|((with_reducible apply gy7);iterate 1 focus rfl)|((with_reducible apply gy9);(focus ((with_reducible refine gE ?_);(try simp (disch:=omega) only [go_sem])<;>rfl)))|((with_reducible apply gz1);(focus first|rfl|(simp (disch:=omega) only [go_sem];done)))|((with_reducible apply Zae (Zau [(2,ratQ y),(3,ratQ q)]) [4] []);(focus kernel_rfl);(focus rfl);(focus kernel_rfl);(focus (simp only [List.length_cons,List.length_nil,Nat.reduceAdd];rfl)))))
 simp (disch:=omega) only [go_sem]
theorem qCmp (a b:Rat) {j k:Nat} (ha:Sz a j) (hb:Sz b k) (hj:j≤2000000) (hk:k≤2000000):Pure Tryz.prog 84 [ratQ a,ratQ b] (.v (.int .i64 (cmpQ a b))):=by
 obtain⟨a1,a2⟩:=id ha;obtain⟨b1,b2⟩:=id hb;have na:=Zva a ha (by omega);have nb:=Zva b hb (by omega);have cm1:=zMul (decide (a.num < 0)) false a.num.natAbs b.den (by omega) (by omega);have cm2:=zMul (decide (b.num < 0)) false b.num.natAbs a.den (by omega) (by omega);rw [Zb8] at cm1 cm2;have cm1:Pure Tryz.prog 154 [intZ a.num,intA false b.den] (intZ (a.num*b.den)):=cm1;have cm2:Pure Tryz.prog 154 [intZ b.num,intA false a.den] (intZ (b.num*a.den)):=cm2;have x1:(toL (a.num*b.den).natAbs).length≤j+k:=Zeq a b ha hb;have x2:(toL (b.num*a.den).natAbs).length≤k+j:=Zeq b a hb ha;have cc:=zCmp (a.num*b.den) (b.num*a.den) (by omega) (by omega)
 rw [cmpQ_z];have cw1:=Zq8 b.den;have cw2:=Zq8 a.den;generalize a.num*(b.den:Int)=y1 at *;generalize b.num*(a.den:Int)=y2 at *;refine Zaa (tok:=0) Tryz.func84 rfl Tryz.ntmps84 Tryz.results84 Tryz.call84 (by rfl) (by simp) ?_;(focus (refine wkvp w_t w_t ?_;(repeat' first|exact w_t|apply w_l);all_goals intros));apply Zae (Zau [(1,ratQ a),(3,ratQ b)]) [4,5] [] (by kernel_rfl) (by rfl) (by kernel_rfl);(focus (simp only [List.length_cons,List.length_nil,Nat.reduceAdd];rfl));(focus (refine wkud w_t (w_2 na nb) ?_;(repeat' first|exact w_t|apply w_l);all_goals intros));apply Zae (Zau [(4,intA false b.den),(5,intZ y1),(10,intA false a.den),(11,intZ y2),(12,.v (.int .i64 (cmpZ y1 y2)))]) [] [] (by kernel_rfl) (by rfl) (by kernel_rfl);(focus (simp only [List.length_cons,List.length_nil,Nat.reduceAdd];rfl))
 (focus (refine wkud w_t (w_5 cw1 cm1 cw2 cm2 cc) ?_;(repeat' first|exact w_t|apply w_l);all_goals intros));simp (disch:=omega) only [go_sem]
attribute [local go_sem] Tryz.underlying2 Tryz.underlying245 szU8 byU8 zU8 Zcr zStr
def decB:Nat→Nat→ByteArray→ByteArray
 | 0,_,s=>s
 | f+1,n,s=>if n=0 then s else decB f (n/10) (Zfv [((48+n%10:Nat):Int)]++s)
def decS (n:Nat):ByteArray:=if n=0 then Zfv [48] else decB n n ByteArray.empty
theorem Zoo:∀(f g n:Nat) (s:ByteArray),n≤f→n≤g→decB f n s=decB g n s
 | 0,0,_,_,_,_=>rfl
 | 0,g+1,n,s,h,_=>by
   have:n=0:=by omega
   subst this;rfl
 | f+1,0,n,s,_,h=>by
   have:n=0:=by omega
   subst this;rfl
 | f+1,g+1,n,s,h1,h2=>by
   unfold decB;by_cases h:n=0
   ·rw [if_pos h,if_pos h]
   ·rw [if_neg h,if_neg h];exact Zoo f g _ _ (by omega) (by omega)
theorem Zwy {n:Nat} {s:ByteArray} (h:n≠0):decB n n s=decB (n/10) (n/10) (Zfv [((48+n%10:Nat):Int)]++s):=by
 obtain⟨m,rfl⟩:∃m,n=m+1:=⟨n - 1,by omega⟩;rw [decB,if_neg h];exact Zoo _ _ _ _ (by omega) (by omega)
theorem Zd5 (l:List Int):(Zfv l).size=l.length:=by
 have key:∀(l:List Int) (s:ByteArray),(l.foldl (λr n=>r.push (UInt8.ofNat n.toNat)) s).size=s.size+l.length:=by
  intro l
  induction l with
  | nil=>intro s;rfl
  | cons a l ih=>intro s;rw [List.foldl_cons,ih,ByteArray.size_push,List.length_cons];omega
 unfold Zfv;rw [key];show 0+l.length=l.length;omega
def decZ (z:Int):ByteArray:=if z < 0 then Zfv [45]++decS z.natAbs else decS z.natAbs
def decQ (q:Rat):ByteArray:=if q.den=1 then decZ q.num else decZ q.num++Zfv [47]++decS q.den
theorem Zwz {k:Nat}:∀(f n:Nat) (s:ByteArray),n < 10 ^ k→(decB f n s).size≤s.size+k:=by
 induction k with
 | zero =>
   intro f n s h;have:n=0:=by simpa using h
   subst this;cases f<;>simp [decB]
 | succ k ih =>
   intro f n s h
   cases f with
   | zero=>simp [decB]
   | succ f =>
     unfold decB;split
     ·omega
     ·have:=ih f (n/10) (Zfv [((48+n%10:Nat):Int)]++s) (by rw [Nat.pow_succ] at h;omega);rw [ByteArray.size_append,Zd5] at this;simp only [List.length_cons,List.length_nil] at this;omega
theorem Zfa (n:Nat):(decS n).size≤5*(toL n).length+1:=by
 unfold decS;split
 ·rw [Zd5];simp
 ·have h1:=Zag.1 (Nat.le_refl ((toL n).length))
  have h3:65536 ^ (toL n).length≤10 ^ (5*(toL n).length):=by
   rw [Nat.pow_mul];exact Nat.pow_le_pow_left (by decide) _
  have:=Zwz (k:=5*(toL n).length) n n ByteArray.empty (by omega);have e:ByteArray.empty.size=0:=rfl;omega
theorem Zom (z:Int):(decZ z).size≤5*(toL z.natAbs).length+2:=by
 have:=Zfa z.natAbs;unfold decZ;split
 ·rw [ByteArray.size_append,Zd5];simp only [List.length_cons,List.length_nil];omega
 ·omega
attribute [local go_sem] Tryz.underlying25 Tryz.underlying156 Tryz.underlying155 Tryz.underlying130 Tryz.underlying33 Zaj Zaw Zt8 zCor szC3 zC3 Zhl zErr Zi0 Zak Bool.and_self
def dig36:ByteArray:=⟨#[48,49,50,51,52,53,54,55,56,57,97,98,99,100,101,102,103,104,105,106,107,108,109,110,111,112,113,114,115,116,117,118,119,120,121,122]⟩
def dig200:ByteArray:=⟨#[48,48,48,49,48,50,48,51,48,52,48,53,48,54,48,55,48,56,48,57,49,48,49,49,49,50,49,51,49,52,49,53,49,54,49,55,49,56,49,57,50,48,50,49,50,50,50,51,50,52,50,53,50,54,50,55,50,56,50,57,51,48,51,49,51,50,51,51,51,52,51,53,51,54,51,55,51,56,51,57,52,48,52,49,52,50,52,51,52,52,52,53,52,54,52,55,52,56,52,57,53,48,53,49,53,50,53,51,53,52,53,53,53,54,53,55,53,56,53,57,54,48,54,49,54,50,54,51,54,52,54,53,54,54,54,55,54,56,54,57,55,48,55,49,55,50,55,51,55,52,55,53,55,54,55,55,55,56,55,57,56,48,56,49,56,50,56,51,56,52,56,53,56,54,56,55,56,56,56,57,57,48,57,49,57,50,57,51,57,52,57,53,57,54,57,55,57,56,57,57]⟩
theorem dig36_at:∀n,n < 10→dig36.extract n (n+1)=decS n:=by decide +kernel
theorem Zww:∀n,n < 100→10≤n→dig200.extract (n*2) (n*2+2)=decS n:=by decide +kernel
theorem scSmall (n:Nat) (hn:n < 100):Pure Tryz.prog 320 [iv (n:Int)] (.v (.string (decS n))):=by
 by_cases h:n < 10
 ·refine Zaa (tok:=0) Tryz.func320 rfl Tryz.ntmps320 Tryz.results320 Tryz.call320 (by rfl) (by simp) ?_;(focus (refine wkvd w_t w_t w_t ?_;(repeat' first|exact w_t|apply w_l);all_goals intros));simp (disch:=omega) only [go_sem];exact congrArg (λs=>AV.v (.string s)) (dig36_at n h)
 ·have e1:(n:Int)*2=((n*2:Nat):Int):=by omega
  have e2:((n*2:Nat):Int)+2=((n*2+2:Nat):Int):=by omega
  refine Zaa (tok:=0) Tryz.func320 rfl Tryz.ntmps320 Tryz.results320 Tryz.call320 (by rfl) (by simp) ?_
  (repeat' (first|(with_reducible first|refine stp ?_|apply gx1|apply gx2|apply gx3|apply gx4|apply gx5|apply gx6|apply gx7|apply gy8|apply gz2|apply gz3)|(with_reducible refine Zao ?_;intro _)|((with_reducible refine gE ?_);(try simp (disch:=omega) only [go_sem,e1,e2,List.append_eq,List.length_append])<;>first|rfl|omega)|with_reducible refine Zab (by decide) ?_|((with_reducible apply gy1);iterate 3 focus rfl)|((with_reducible apply gy2);iterate 3 focus rfl)|((with_reducible apply gy3);iterate 2 focus rfl)|((with_reducible apply gy4);iterate 1 focus rfl)|((with_reducible apply gy5);iterate 4 focus rfl)|((with_reducible apply gy5c);iterate 4 focus rfl)|((with_reducible apply gy6);iterate 4 focus rfl)|((with_reducible apply Za7);iterate 3 focus rfl)|((with_reducible apply Za6);iterate 1 focus rfl)|((with_reducible apply gy7);iterate 1 focus rfl)|((with_reducible apply gy9);(focus ((with_reducible refine gE ?_);(try simp (disch:=omega) only [go_sem,e1,e2,List.append_eq,List.length_append])<;>rfl)))|((with_reducible apply gz1);(focus first|rfl|(simp (disch:=omega) only [go_sem,e1,e2,List.append_eq,List.length_append];done)))|((with_reducible apply Zae (Zau []) [] []);(focus kernel_rfl);(focus rfl);(focus kernel_rfl);(focus (simp only [List.length_cons,List.length_nil,Nat.reduceAdd];rfl)))))
  simp (disch:=omega) only [go_sem];exact congrArg (λs=>AV.v (.string s)) (Zww n hn (by omega))
theorem scFormat (n:Nat) (hn:n < 100):Pure Tryz.prog 311 [.v (.int .i64 (n:Int)),iv 10] (.v (.string (decS n))):=by
 have c:=scSmall n hn;refine Zaa (tok:=0) Tryz.func311 rfl Tryz.ntmps311 Tryz.results311 Tryz.call311 (by rfl) (by simp) ?_;(focus (refine wkvd w_t (w_1 c) w_t ?_;(repeat' first|exact w_t|apply w_l);all_goals intros));simp (disch:=omega) only [go_sem]
theorem scItoaI (n:Nat) (hn:n < 100):Pure Tryz.prog 276 [iv (n:Int)] (.v (.string (decS n))):=by
 have c:=scFormat n hn;refine Zaa (tok:=0) Tryz.func276 rfl Tryz.ntmps276 Tryz.results276 Tryz.call276 (by rfl) (by simp) ?_;(focus (refine wkvd w_t (w_1 c) w_t ?_;(repeat' first|exact w_t|apply w_l);all_goals intros));simp (disch:=omega) only [go_sem]
theorem scItoa (n:Nat) (hn:n < 100):Pure Tryz.prog 216 [iv (n:Int)] (.v (.string (decS n))):=by
 have c:=scItoaI n hn;refine Zaa (tok:=0) Tryz.func216 rfl Tryz.ntmps216 Tryz.results216 Tryz.call216 (by rfl) (by simp) ?_;(focus (refine wkvd w_t (w_1 c) w_t ?_;(repeat' first|exact w_t|apply w_l);all_goals intros));simp (disch:=omega) only [go_sem]
def c1 (s:ByteArray) (ss:List ByteArray) (n:Int):ByteArray:=s++ss.getD n.toNat ByteArray.empty
def Qt.txt (q:Qt) (ss:List ByteArray):ByteArray :=
 if q.k=3 then ⟨#[116,40]⟩++decS q.a.toNat++⟨#[41]⟩
 else (if q.k=2 then ⟨#[80,40]⟩ else ⟨#[83,40]⟩)++ss.getD q.a.toNat ByteArray.empty++⟨#[44,32]⟩++ss.getD q.b.toNat ByteArray.empty++⟨#[44,32]⟩++ss.getD q.c.toNat ByteArray.empty++⟨#[41]⟩
theorem Zw2 {k a b c n m:Int} (h:Qt.chk ⟨k,a,b,c⟩ n m=0):(k=3∧0≤a∧a < 64∧a < m)∨(k≠3∧(k=1∨k=2)∧(0≤a∧a < n)∧(0≤b∧b < n)∧(0≤c∧c < n)):=by
 unfold Qt.chk Qt.ok at h;simp only [decide_eq_true_eq] at h;split at h
 ·split at h
  ·split at h<;>omega
  ·split at h<;>omega
 ·omega
theorem Zo4 {ss:List ByteArray} {j:Nat} (h:j < ss.length):(ss.map strA).getD j .u=strA (ss.getD j ByteArray.empty):=by
 rw [List.getD_eq_getElem?_getD,List.getElem?_map,List.getElem?_eq_getElem h,List.getD_eq_getElem?_getD,List.getElem?_eq_getElem h];rfl
theorem Zfd {ss:List ByteArray} (h:∀s∈ss,s.size≤1000) (j:Nat):(ss.getD j ByteArray.empty).size≤1000:=by
 rw [List.getD_eq_getElem?_getD];rcases Nat.lt_or_ge j ss.length with h1 | h1
 ·rw [List.getElem?_eq_getElem h1];exact h _ (List.getElem_mem h1)
 ·rw [List.getElem?_eq_none h1];exact Nat.zero_le _
theorem quText (k a b c:Int) (ss:List ByteArray) (hl:ss.length≤1000000000) (hs:∀s∈ss,s.size≤1000):Pure Tryz.prog 135 [Qt.av ⟨k,a,b,c⟩,.sl 1 (ss.map strA)] (if Qt.chk ⟨k,a,b,c⟩ ss.length 64=0 then .tup [strA (Qt.txt ⟨k,a,b,c⟩ ss),iv 0] else .tup [strA ⟨#[]⟩,iv (Qt.chk ⟨k,a,b,c⟩ ss.length 64)]):=by
 have cc:=Zu8 k a b c ss.length 64;have ok:=@Zw2 k a b c ss.length 64;generalize Qt.chk ⟨k,a,b,c⟩ ss.length 64=v at *;by_cases hv:v=0
 ·subst hv;rw [if_pos rfl];rcases ok rfl with⟨rfl,h1,h2,h3⟩ | ⟨h0,h1,h2,h3,h4⟩
  ·obtain⟨n,rfl⟩:∃n:Nat,a=n:=⟨a.toNat,by omega⟩;have ci:=scItoa n (by omega);have z:=Zfa n;have zl:(toL n).length≤1:=Zag.2 (by omega);have e:Qt.txt ⟨3,n,b,c⟩ ss=⟨#[116,40]⟩++decS n++⟨#[41]⟩:=by unfold Qt.txt;rfl
   rw [e];generalize decS n=s at *;have s1:(⟨#[116,40]⟩:ByteArray).size=2:=rfl;have s2:(⟨#[41]⟩:ByteArray).size=1:=rfl;refine Zaa (tok:=0) Tryz.func135 rfl Tryz.ntmps135 Tryz.results135 Tryz.call135 (by rfl) (by simp) ?_;(focus (refine wkld (w_4 @ByteArray.size_append s1 s2 @Zew) (w_2 cc ci) w_t w_t ?_;(repeat' first|exact w_t|apply w_l);all_goals intros))
  ·obtain⟨x,rfl⟩:∃n:Nat,a=n:=⟨a.toNat,by omega⟩;obtain⟨y,rfl⟩:∃n:Nat,b=n:=⟨b.toNat,by omega⟩;obtain⟨w,rfl⟩:∃n:Nat,c=n:=⟨c.toNat,by omega⟩;have hx:=Zo4 (ss:=ss) (j:=x) (by omega);have hy:=Zo4 (ss:=ss) (j:=y) (by omega);have hw:=Zo4 (ss:=ss) (j:=w) (by omega);have zx:=Zfd hs x;have zy:=Zfd hs y;have zw:=Zfd hs w;unfold Qt.txt;simp only [Int.toNat_natCast];generalize ss.getD x ByteArray.empty=sx at *;generalize ss.getD y ByteArray.empty=sy at *;generalize ss.getD w ByteArray.empty=sw at *;have s1:(⟨#[83,40]⟩:ByteArray).size=2:=rfl;have s2:(⟨#[80,40]⟩:ByteArray).size=2:=rfl
   have s3:(⟨#[44,32]⟩:ByteArray).size=2:=rfl;have s4:(⟨#[41]⟩:ByteArray).size=1:=rfl;refine Zaa (tok:=0) Tryz.func135 rfl Tryz.ntmps135 Tryz.results135 Tryz.call135 (by rfl) (by simp) ?_;(focus (refine wkld (w_9 @ByteArray.size_append s1 s2 s3 s4 @Zew hx hy hw) (w_1 cc) w_t w_t ?_;(repeat' first|exact w_t|apply w_l);all_goals intros))
 ·rw [if_neg hv];refine Zaa (tok:=0) Tryz.func135 rfl Tryz.ntmps135 Tryz.results135 Tryz.call135 (by rfl) (by simp) ?_;(focus (refine wkld (w_1 @Zew) (w_1 cc) w_t w_t ?_;(repeat' first|exact w_t|apply w_l);all_goals intros))
def isP (a b c:Int) (p:Nat):Bool:=decide (a=(p:Int)∨b=(p:Int)∨c=(p:Int))
def Qt.pts (q:Qt):List Int:=if q.ok=true∧q.k≠3 then ((List.range 40).filter (isP q.a q.b q.c)).map λn:Nat=>(n:Int) else []
attribute [local go_sem] Tryz.underlying110 Tryz.underlying194 szPt byPt zPt szVec zVec
abbrev ptQ (x y:Rat):AV:=.agg [.v (.bool (decide (x.num < 0))),lim (toL x.num.natAbs),lim (toL x.den),.v (.bool (decide (y.num < 0))),lim (toL y.num.natAbs),lim (toL y.den)]
theorem Zra (a b c d:Rat) {j:Nat} (ha:Sz a j) (hb:Sz b j) (hc:Sz c j) (hd:Sz d j) (hj:j≤100000):Pure Tryz.prog 172 [ptQ a b,ptQ c d] (ptQ (c - a) (d - b)):=by
 have c1:=Zq5 c a hc ha (by omega) (by omega);have c2:=Zq5 d b hd hb (by omega) (by omega);generalize c - a=u at *;generalize d - b=v at *;refine Zaa (tok:=0) Tryz.func172 rfl Tryz.ntmps172 Tryz.results172 Tryz.call172 (by rfl) (by simp) ?_
 (repeat' (first|(with_reducible first|refine stp ?_|apply gx1|apply gx2|apply gx3|apply gx4|apply gx5|apply gx6|apply gx7|apply gy8|apply gz2|apply gz3|refine gw0 (c1) ?_ ?_|refine gw3 (c1) ?_ ?_ ?_|refine gw0 (c2) ?_ ?_|refine gw3 (c2) ?_ ?_ ?_)|(with_reducible refine Zao ?_;intro _)|((with_reducible refine gE ?_);(try simp (disch:=omega) only [go_sem])<;>first|rfl|omega)|with_reducible refine Zab (by decide) ?_|((with_reducible apply gy1);iterate 3 focus rfl)|((with_reducible apply gy2);iterate 3 focus rfl)|((with_reducible apply gy3);iterate 2 focus rfl)|((with_reducible apply gy4);iterate 1 focus rfl)|((with_reducible apply gy5);iterate 4 focus rfl)|((with_reducible apply gy5c);iterate 4 focus rfl)|((with_reducible apply gy6);iterate 4 focus rfl)|((with_reducible apply Za7);iterate 3 focus rfl)|((with_reducible apply Za6);iterate 1 focus rfl)|((with_reducible apply gy7);iterate 1 focus rfl)|((with_reducible apply gy9);(focus ((with_reducible refine gE ?_);(try simp (disch:=omega) only [go_sem])<;>rfl)))|((with_reducible apply gz1);(focus first|rfl|(simp (disch:=omega) only [go_sem];done)))|((with_reducible apply Zae (Zau [(4,ratQ u),(9,ratQ v)]) [] [4]);(focus kernel_rfl);(focus rfl);(focus kernel_rfl);(focus (simp only [List.length_cons,List.length_nil,Nat.reduceAdd];rfl)))))
 simp (disch:=omega) only [go_sem]
theorem plCross (a b c d:Rat) {j:Nat} (ha:Sz a j) (hb:Sz b j) (hc:Sz c j) (hd:Sz d j) (hj:j≤100000):Pure Tryz.prog 173 [ptQ a b,ptQ c d] (ratQ (a*d - b*c)):=by
 have c1:=Zip a d ha hd (by omega) (by omega);have c2:=Zip b c hb hc (by omega) (by omega);have c3:=Zq5 (a*d) (b*c) (ha.mul hd) (hb.mul hc) (by omega) (by omega);generalize a*d - b*c=x at *;generalize a*d=u at *;generalize b*c=v at *;refine Zaa (tok:=0) Tryz.func173 rfl Tryz.ntmps173 Tryz.results173 Tryz.call173 (by rfl) (by simp) ?_
 (repeat' (first|(with_reducible first|refine stp ?_|apply gx1|apply gx2|apply gx3|apply gx4|apply gx5|apply gx6|apply gx7|apply gy8|apply gz2|apply gz3|refine gw0 (c1) ?_ ?_|refine gw3 (c1) ?_ ?_ ?_|refine gw0 (c2) ?_ ?_|refine gw3 (c2) ?_ ?_ ?_|refine gw0 (c3) ?_ ?_|refine gw3 (c3) ?_ ?_ ?_)|(with_reducible refine Zao ?_;intro _)|((with_reducible refine gE ?_);(try simp (disch:=omega) only [go_sem])<;>first|rfl|omega)|with_reducible refine Zab (by decide) ?_|((with_reducible apply gy1);iterate 3 focus rfl)|((with_reducible apply gy2);iterate 3 focus rfl)|((with_reducible apply gy3);iterate 2 focus rfl)|((with_reducible apply gy4);iterate 1 focus rfl)|((with_reducible apply gy5);iterate 4 focus rfl)|((with_reducible apply gy5c);iterate 4 focus rfl)|((with_reducible apply gy6);iterate 4 focus rfl)|((with_reducible apply Za7);iterate 3 focus rfl)|((with_reducible apply Za6);iterate 1 focus rfl)|((with_reducible apply gy7);iterate 1 focus rfl)|((with_reducible apply gy9);(focus ((with_reducible refine gE ?_);(try simp (disch:=omega) only [go_sem])<;>rfl)))|((with_reducible apply gz1);(focus first|rfl|(simp (disch:=omega) only [go_sem];done)))|((with_reducible apply Zae (Zau [(4,ratQ u),(9,ratQ v),(10,ratQ x)]) [] [4]);(focus kernel_rfl);(focus rfl);(focus kernel_rfl);(focus (simp only [List.length_cons,List.length_nil,Nat.reduceAdd];rfl)))))
 simp (disch:=omega) only [go_sem]
theorem plDot (a b c d:Rat) {j:Nat} (ha:Sz a j) (hb:Sz b j) (hc:Sz c j) (hd:Sz d j) (hj:j≤100000):Pure Tryz.prog 174 [ptQ a b,ptQ c d] (ratQ (a*c+b*d)):=by
 have c1:=Zip a c ha hc (by omega) (by omega);have c2:=Zip b d hb hd (by omega) (by omega);have c3:=Zni (a*c) (b*d) (ha.mul hc) (hb.mul hd) (by omega) (by omega);generalize a*c+b*d=x at *;generalize a*c=u at *;generalize b*d=v at *;refine Zaa (tok:=0) Tryz.func174 rfl Tryz.ntmps174 Tryz.results174 Tryz.call174 (by rfl) (by simp) ?_
 (repeat' (first|(with_reducible first|refine stp ?_|apply gx1|apply gx2|apply gx3|apply gx4|apply gx5|apply gx6|apply gx7|apply gy8|apply gz2|apply gz3|refine gw0 (c1) ?_ ?_|refine gw3 (c1) ?_ ?_ ?_|refine gw0 (c2) ?_ ?_|refine gw3 (c2) ?_ ?_ ?_|refine gw0 (c3) ?_ ?_|refine gw3 (c3) ?_ ?_ ?_)|(with_reducible refine Zao ?_;intro _)|((with_reducible refine gE ?_);(try simp (disch:=omega) only [go_sem])<;>first|rfl|omega)|with_reducible refine Zab (by decide) ?_|((with_reducible apply gy1);iterate 3 focus rfl)|((with_reducible apply gy2);iterate 3 focus rfl)|((with_reducible apply gy3);iterate 2 focus rfl)|((with_reducible apply gy4);iterate 1 focus rfl)|((with_reducible apply gy5);iterate 4 focus rfl)|((with_reducible apply gy5c);iterate 4 focus rfl)|((with_reducible apply gy6);iterate 4 focus rfl)|((with_reducible apply Za7);iterate 3 focus rfl)|((with_reducible apply Za6);iterate 1 focus rfl)|((with_reducible apply gy7);iterate 1 focus rfl)|((with_reducible apply gy9);(focus ((with_reducible refine gE ?_);(try simp (disch:=omega) only [go_sem])<;>rfl)))|((with_reducible apply gz1);(focus first|rfl|(simp (disch:=omega) only [go_sem];done)))|((with_reducible apply Zae (Zau [(4,ratQ u),(9,ratQ v),(10,ratQ x)]) [] [4]);(focus kernel_rfl);(focus rfl);(focus kernel_rfl);(focus (simp only [List.length_cons,List.length_nil,Nat.reduceAdd];rfl)))))
 simp (disch:=omega) only [go_sem]
abbrev PQ:=Rat × Rat
abbrev PQ.av (p:PQ):AV:=ptQ p.1 p.2
def PQ.sz (p:PQ) (j:Nat):Prop:=Sz p.1 j∧Sz p.2 j
def Zgf (p q r s:PQ):Rat:=(q.1 - p.1)*(s.2 - r.2) - (q.2 - p.2)*(s.1 - r.1)
def dotP (p q r s:PQ):Rat:=(q.1 - p.1)*(s.1 - r.1)+(q.2 - p.2)*(s.2 - r.2)
theorem Zw0 {p q r s:PQ} {j:Nat} (hp:p.sz j) (hq:q.sz j) (hr:r.sz j) (hs:s.sz j):Sz (Zgf p q r s) (8*j+5):=by
 unfold Zgf;exact(((hq.1.sub hp.1).mul (hs.2.sub hr.2)).sub ((hq.2.sub hp.2).mul (hs.1.sub hr.1))).mono (by omega)
theorem Zqb {p q r s:PQ} {j:Nat} (hp:p.sz j) (hq:q.sz j) (hr:r.sz j) (hs:s.sz j):Sz (dotP p q r s) (8*j+5):=by
 unfold dotP;exact(((hq.1.sub hp.1).mul (hs.1.sub hr.1)).add ((hq.2.sub hp.2).mul (hs.2.sub hr.2))).mono (by omega)
theorem plCrossP (p q r s:PQ) {j:Nat} (hp:p.sz j) (hq:q.sz j) (hr:r.sz j) (hs:s.sz j) (hj:j≤10000):Pure Tryz.prog 96 [p.av,q.av,r.av,s.av] (ratQ (Zgf p q r s)):=by
 have c1:=Zra p.1 p.2 q.1 q.2 hp.1 hp.2 hq.1 hq.2 (by omega);have c2:=Zra r.1 r.2 s.1 s.2 hr.1 hr.2 hs.1 hs.2 (by omega);have c3:=plCross (q.1 - p.1) (q.2 - p.2) (s.1 - r.1) (s.2 - r.2) (hq.1.sub hp.1) (hq.2.sub hp.2) (hs.1.sub hr.1) (hs.2.sub hr.2) (by omega);unfold Zgf;obtain⟨p1,p2⟩:=p;obtain⟨q1,q2⟩:=q;obtain⟨r1,r2⟩:=r;obtain⟨s1,s2⟩:=s;simp only at *;generalize (q1 - p1)*(s2 - r2) - (q2 - p2)*(s1 - r1)=x at *;generalize q1 - p1=a at *;generalize q2 - p2=b at *;generalize s1 - r1=c at *;generalize s2 - r2=d at *;refine Zaa (tok:=0) Tryz.func96 rfl Tryz.ntmps96 Tryz.results96 Tryz.call96 (by rfl) (by simp) ?_
 (repeat' (first|(with_reducible first|refine stp ?_|apply gx1|apply gx2|apply gx3|apply gx4|apply gx5|apply gx6|apply gx7|apply gy8|apply gz2|apply gz3|refine gw0 (c1) ?_ ?_|refine gw3 (c1) ?_ ?_ ?_|refine gw0 (c2) ?_ ?_|refine gw3 (c2) ?_ ?_ ?_|refine gw0 (c3) ?_ ?_|refine gw3 (c3) ?_ ?_ ?_)|(with_reducible refine Zao ?_;intro _)|((with_reducible refine gE ?_);(try simp (disch:=omega) only [go_sem])<;>first|rfl|omega)|with_reducible refine Zab (by decide) ?_|((with_reducible apply gy1);iterate 3 focus rfl)|((with_reducible apply gy2);iterate 3 focus rfl)|((with_reducible apply gy3);iterate 2 focus rfl)|((with_reducible apply gy4);iterate 1 focus rfl)|((with_reducible apply gy5);iterate 4 focus rfl)|((with_reducible apply gy5c);iterate 4 focus rfl)|((with_reducible apply gy6);iterate 4 focus rfl)|((with_reducible apply Za7);iterate 3 focus rfl)|((with_reducible apply Za6);iterate 1 focus rfl)|((with_reducible apply gy7);iterate 1 focus rfl)|((with_reducible apply gy9);(focus ((with_reducible refine gE ?_);(try simp (disch:=omega) only [go_sem])<;>rfl)))|((with_reducible apply gz1);(focus first|rfl|(simp (disch:=omega) only [go_sem];done)))|((with_reducible apply Zae (Zau [(2,ptQ a b),(5,ptQ c d),(6,ratQ x)]) [] [8]);(focus kernel_rfl);(focus rfl);(focus kernel_rfl);(focus (simp only [List.length_cons,List.length_nil,Nat.reduceAdd];rfl)))))
 simp (disch:=omega) only [go_sem]
theorem plDotP (p q r s:PQ) {j:Nat} (hp:p.sz j) (hq:q.sz j) (hr:r.sz j) (hs:s.sz j) (hj:j≤10000):Pure Tryz.prog 97 [p.av,q.av,r.av,s.av] (ratQ (dotP p q r s)):=by
 have c1:=Zra p.1 p.2 q.1 q.2 hp.1 hp.2 hq.1 hq.2 (by omega);have c2:=Zra r.1 r.2 s.1 s.2 hr.1 hr.2 hs.1 hs.2 (by omega);have c3:=plDot (q.1 - p.1) (q.2 - p.2) (s.1 - r.1) (s.2 - r.2) (hq.1.sub hp.1) (hq.2.sub hp.2) (hs.1.sub hr.1) (hs.2.sub hr.2) (by omega);unfold dotP;obtain⟨p1,p2⟩:=p;obtain⟨q1,q2⟩:=q;obtain⟨r1,r2⟩:=r;obtain⟨s1,s2⟩:=s;simp only at *;generalize (q1 - p1)*(s1 - r1)+(q2 - p2)*(s2 - r2)=x at *;generalize q1 - p1=a at *;generalize q2 - p2=b at *;generalize s1 - r1=c at *;generalize s2 - r2=d at *;refine Zaa (tok:=0) Tryz.func97 rfl Tryz.ntmps97 Tryz.results97 Tryz.call97 (by rfl) (by simp) ?_
 (repeat' (first|(with_reducible first|refine stp ?_|apply gx1|apply gx2|apply gx3|apply gx4|apply gx5|apply gx6|apply gx7|apply gy8|apply gz2|apply gz3|refine gw0 (c1) ?_ ?_|refine gw3 (c1) ?_ ?_ ?_|refine gw0 (c2) ?_ ?_|refine gw3 (c2) ?_ ?_ ?_|refine gw0 (c3) ?_ ?_|refine gw3 (c3) ?_ ?_ ?_)|(with_reducible refine Zao ?_;intro _)|((with_reducible refine gE ?_);(try simp (disch:=omega) only [go_sem])<;>first|rfl|omega)|with_reducible refine Zab (by decide) ?_|((with_reducible apply gy1);iterate 3 focus rfl)|((with_reducible apply gy2);iterate 3 focus rfl)|((with_reducible apply gy3);iterate 2 focus rfl)|((with_reducible apply gy4);iterate 1 focus rfl)|((with_reducible apply gy5);iterate 4 focus rfl)|((with_reducible apply gy5c);iterate 4 focus rfl)|((with_reducible apply gy6);iterate 4 focus rfl)|((with_reducible apply Za7);iterate 3 focus rfl)|((with_reducible apply Za6);iterate 1 focus rfl)|((with_reducible apply gy7);iterate 1 focus rfl)|((with_reducible apply gy9);(focus ((with_reducible refine gE ?_);(try simp (disch:=omega) only [go_sem])<;>rfl)))|((with_reducible apply gz1);(focus first|rfl|(simp (disch:=omega) only [go_sem];done)))|((with_reducible apply Zae (Zau [(2,ptQ a b),(5,ptQ c d),(6,ratQ x)]) [] [8]);(focus kernel_rfl);(focus rfl);(focus kernel_rfl);(focus (simp only [List.length_cons,List.length_nil,Nat.reduceAdd];rfl)))))
 simp (disch:=omega) only [go_sem]
theorem Zvb (a b:Rat) {j k:Nat} (ha:Sz a j) (hb:Sz b k) (hj:j≤1000000) (hk:k≤1000000):Pure Tryz.prog 33 [ratQ a,ratQ b] (.v (.bool (decide (a=b)))):=by
 have c:=qCmp a b ha hb (by omega) (by omega)
 have e:(cmpQ a b == 0)=decide (a=b):=by
  rw [Bool.eq_iff_iff,beq_iff_eq,decide_eq_true_eq];unfold cmpQ;constructor
  ·intro h;split at h
   ·omega
   ·split at h
    ·omega
    ·rename_i h1 h2;exact Rat.le_antisymm (Rat.not_lt.1 h2) (Rat.not_lt.1 h1)
  ·rintro rfl
   simp
 rw [←e];generalize cmpQ a b=s at *;refine Zaa (tok:=0) Tryz.func33 rfl Tryz.ntmps33 Tryz.results33 Tryz.call33 (by rfl) (by simp) ?_;(focus (refine wkvp w_t (w_1 c) ?_;(repeat' first|exact w_t|apply w_l);all_goals intros));simp (disch:=omega) only [go_sem]
attribute [local go_sem] Tryz.underlying56 Tryz.underlying55
def Qt.val (q:Qt) (ps:List PQ) (rs:List Rat):Rat :=
 if q.k=3 then rs.getD q.a.toNat 0
 else if q.k=1 then Zgf (ps.getD q.a.toNat (0,0)) (ps.getD q.b.toNat (0,0)) (ps.getD q.a.toNat (0,0)) (ps.getD q.c.toNat (0,0))
 else 2*dotP (ps.getD q.b.toNat (0,0)) (ps.getD q.a.toNat (0,0)) (ps.getD q.b.toNat (0,0)) (ps.getD q.c.toNat (0,0))
theorem Zqc {k a b c n m:Int} (h:Qt.chk ⟨k,a,b,c⟩ n m=0):(k=3∧0≤a∧a < 64∧a < m)∨(k≠3∧(k=1∨k=2)∧(0≤a∧a < n)∧(0≤b∧b < n)∧(0≤c∧c < n)):=Zw2 h
abbrev Zmw:AV:=.agg [.v (.bool false),.v (.slice none 0 0),.v (.slice none 0 0)]
theorem quValue (k a b c:Int) (ps:List PQ) (rs:List Rat) {j:Nat} (hl:ps.length≤1000000000) (hr:rs.length≤1000000000) (hp:∀p∈ps,p.sz j) (hq:∀r∈rs,Sz r j) (hj:j≤10000) :
 Pure Tryz.prog 39 [Qt.av ⟨k,a,b,c⟩,.sl 6 (ps.map PQ.av),.sl 3 (rs.map ratQ)] (if Qt.chk ⟨k,a,b,c⟩ ps.length rs.length=0 then .tup [ratQ (Qt.val ⟨k,a,b,c⟩ ps rs),iv 0] else .tup [Zmw,iv (Qt.chk ⟨k,a,b,c⟩ ps.length rs.length)]):=by
 have cc:=Zu8 k a b c ps.length rs.length;have ok:=@Zqc k a b c ps.length rs.length;generalize Qt.chk ⟨k,a,b,c⟩ ps.length rs.length=v at *;by_cases hv:v=0
 ·subst hv;rw [if_pos rfl];rcases ok rfl with⟨rfl,h1,h2,h3⟩ | ⟨h0,h1,h2,h3,h4⟩
  ·obtain⟨x,rfl⟩:∃n:Nat,a=n:=⟨a.toNat,by omega⟩;have hx:=Zde (f:=ratQ) (l:=rs) (d:=0) (j:=x) (by omega);rw [show Qt.val ⟨3,x,b,c⟩ ps rs=rs.getD x 0 from by unfold Qt.val;rfl];generalize rs.getD x 0=q at *;refine Zaa (tok:=0) Tryz.func39 rfl Tryz.ntmps39 Tryz.results39 Tryz.call39 (by rfl) (by simp) ?_;(focus (refine wkld (w_2 @Zew hx) (w_1 cc) w_t w_t ?_;(repeat' first|exact w_t|apply w_l);all_goals intros))
  ·obtain⟨x,rfl⟩:∃n:Nat,a=n:=⟨a.toNat,by omega⟩;obtain⟨y,rfl⟩:∃n:Nat,b=n:=⟨b.toNat,by omega⟩;obtain⟨w,rfl⟩:∃n:Nat,c=n:=⟨c.toNat,by omega⟩;have hx:=Zde (f:=PQ.av) (l:=ps) (d:=(0,0)) (j:=x) (by omega);have hy:=Zde (f:=PQ.av) (l:=ps) (d:=(0,0)) (j:=y) (by omega);have hw:=Zde (f:=PQ.av) (l:=ps) (d:=(0,0)) (j:=w) (by omega);have zx:=hp _ (Zdd (d:=(0,0)) (show x < ps.length by omega));have zy:=hp _ (Zdd (d:=(0,0)) (show y < ps.length by omega));have zw:=hp _ (Zdd (d:=(0,0)) (show w < ps.length by omega));rw [show Qt.val ⟨k,x,y,w⟩ ps rs=if k=1 then Zgf (ps.getD x (0,0)) (ps.getD y (0,0)) (ps.getD x (0,0)) (ps.getD w (0,0)) else 2*dotP (ps.getD y (0,0)) (ps.getD x (0,0)) (ps.getD y (0,0)) (ps.getD w (0,0)) from by
    unfold Qt.val;simp only [Int.toNat_natCast];rw [if_neg h0]]
   generalize ps.getD x (0,0)=X at *;generalize ps.getD y (0,0)=Y at *;generalize ps.getD w (0,0)=W at *;have k1:=plCrossP X Y X W zx zy zx zw (by omega);have k2:=plDotP Y X Y W zy zx zy zw (by omega);have k3:Pure Tryz.prog 57 [iv 2] (ratQ 2):=Znh 2 (by omega);have k4:=Zip 2 (dotP Y X Y W) (Zl3 2 (by omega)) (Zqb zy zx zy zw) (by omega) (by omega);have e2:((2:Nat):Rat)=2:=rfl;generalize Zgf X Y X W=u at *;generalize 2*dotP Y X Y W=z at *;generalize dotP Y X Y W=v at *;generalize (2:Rat)=tw at *;obtain⟨X1,X2⟩:=X;obtain⟨Y1,Y2⟩:=Y;obtain⟨W1,W2⟩:=W;rcases h1 with rfl | rfl
   ·rw [if_pos rfl];refine Zaa (tok:=0) Tryz.func39 rfl Tryz.ntmps39 Tryz.results39 Tryz.call39 (by rfl) (by simp) ?_;(focus (refine wkld (w_4 @Zew hx hy hw) (w_2 cc k1) w_t w_t ?_;(repeat' first|exact w_t|apply w_l);all_goals intros))
   ·rw [if_neg (by omega)];refine Zaa (tok:=0) Tryz.func39 rfl Tryz.ntmps39 Tryz.results39 Tryz.call39 (by rfl) (by simp) ?_;(focus (refine wkld (w_4 @Zew hx hy hw) (w_4 cc k2 k3 k4) w_t (w_2 (w_d 6 [] [] []) (w_d 9 [(0,ratQ tw),(5,ratQ v),(6,ratQ z)] [] [6])) ?_;(repeat' first|exact w_t|apply w_l);all_goals intros))
 ·rw [if_neg hv];refine Zaa (tok:=0) Tryz.func39 rfl Tryz.ntmps39 Tryz.results39 Tryz.call39 (by rfl) (by simp) ?_;(focus (refine wkld (w_1 @Zew) (w_1 cc) w_t w_t ?_;(repeat' first|exact w_t|apply w_l);all_goals intros))
def shortB (ss:List ByteArray):Bool:=decide (ss.length≤60) && ss.all λs=>decide (s.size≤30)
section
attribute [local go_sem] Tryz.underlying3 Tryz.underlying2 Tryz.underlying4 Tryz.underlying36 Tryz.underlying25 Tryz.underlying130 Tryz.underlying33 Tryz.underlying9 Tryz.underlying45 Tryz.underlying56 Tryz.underlying110 Tryz.underlying55 sz3 by3 z3 Zaj Zaw Zhl zErr Zcr Zi0 zStr Zak Bool.and_self Zbd zRat szPt byPt zPt
end
attribute [local go_sem] beq_self_eq_true
section
variable {N n:Nat} {cs:List AV}
end
end Go.Proofs.YtjekhacnoopdpaaGreatDoor
namespace Go.Pol
structure KO {α:Type} (D:α→Prop) (lt:α→α→Prop):Prop where
 irr:∀x,¬lt x x
 tr:∀x y z,lt x y→lt y z→lt x z
 tri:∀x y,D x→D y→lt x y∨x=y∨lt y x
section
variable {α:Type} {D:α→Prop} {lt:α→α→Prop} [DecidableEq α]
def cof:List (Rat × α)→α→Rat
 | [],_=>0
 | t :: p,x=>(if t.2=x then t.1 else 0)+cof p x
end
section
variable {α:Type} {D:α→Prop} {lt:α→α→Prop}
def addP (lt:α→α→Prop) [DecidableRel lt]:List (Rat × α)→List (Rat × α)→List (Rat × α)
 | [],q=>q
 | s :: p,[]=>s :: p
 | s :: p,t :: q =>
   if lt t.2 s.2 then s :: addP lt p (t :: q)
   else if lt s.2 t.2 then t :: addP lt (s :: p) q
   else if s.1+t.1=0 then addP lt p q
   else (s.1+t.1,s.2) :: addP lt p q
termination_by p q=>p.length+q.length
def Srt (D:α→Prop) (lt:α→α→Prop) (p:List (Rat × α)):Prop:=(∀t∈p,t.1≠0∧D t.2)∧p.Pairwise (λs t=>lt t.2 s.2)
end
section
variable {α:Type} {D:α→Prop} {lt:α→α→Prop} [DecidableEq α]
end
section
variable {α:Type} {D:α→Prop} {lt:α→α→Prop} [DecidableRel lt]
theorem Zsf (p:List (Rat × α)):addP lt p []=p:=by cases p<;>simp [addP]
theorem Zl6 {p q:List (Rat × α)} {t:Rat × α} (h:t∈addP lt p q):∃s∈p++q,t.2=s.2:=by
 fun_induction addP lt p q with
 | case1 q=>exact⟨t,by simpa using h,rfl⟩
 | case2 s p=>exact⟨t,by simpa using h,rfl⟩
 | case3 s p u q h1 ih =>
   rcases List.mem_cons.1 h with rfl | h
   ·exact⟨t,by simp,rfl⟩
   ·obtain⟨v,hv,e⟩:=ih h;exact⟨v,by simp only [List.cons_append,List.mem_cons,List.mem_append] at hv ⊢;rcases hv with hv | hv | hv<;>simp [hv],e⟩
 | case4 s p u q h1 h2 ih =>
   rcases List.mem_cons.1 h with rfl | h
   ·exact⟨t,by simp,rfl⟩
   ·obtain⟨v,hv,e⟩:=ih h;exact⟨v,by simp only [List.cons_append,List.mem_cons,List.mem_append] at hv ⊢;rcases hv with hv | hv | hv<;>simp [hv],e⟩
 | case5 s p u q h1 h2 h3 ih =>
   obtain⟨v,hv,e⟩:=ih h;exact⟨v,by simp only [List.cons_append,List.mem_cons,List.mem_append] at hv ⊢;rcases hv with hv | hv<;>simp [hv],e⟩
 | case6 s p u q h1 h2 h3 ih =>
   rcases List.mem_cons.1 h with rfl | h
   ·exact⟨s,by simp,rfl⟩
   ·obtain⟨v,hv,e⟩:=ih h;exact⟨v,by simp only [List.cons_append,List.mem_cons,List.mem_append] at hv ⊢;rcases hv with hv | hv<;>simp [hv],e⟩
end
section
variable {α:Type} {D:α→Prop} {lt:α→α→Prop} [DecidableEq α] [DecidableRel lt]
theorem Zfq (o:KO D lt) {p q:List (Rat × α)} (x:α) (hp:∀t∈p,D t.2) (hq:∀t∈q,D t.2):cof (addP lt p q) x=cof p x+cof q x:=by
 fun_induction addP lt p q with
 | case1 q=>show cof q x=0+cof q x;rw [Rat.zero_add]
 | case2 s p=>show cof (s :: p) x=cof (s :: p) x+0;rw [Rat.add_zero]
 | case3 s p u q h1 ih =>
   have:=ih (λt h=>hp t (.tail _ h)) hq;simp only [cof] at this ⊢;rw [this];grind
 | case4 s p u q h1 h2 ih =>
   have:=ih hp (λt h=>hq t (.tail _ h));simp only [cof] at this ⊢;rw [this];grind
 | case5 s p u q h1 h2 h3 ih =>
   have e:s.2=u.2:=by rcases o.tri s.2 u.2 (hp s (.head _)) (hq u (.head _)) with h | h | h;exact absurd h h2;exact h;exact absurd h h1
   have:=ih (λt h=>hp t (.tail _ h)) (λt h=>hq t (.tail _ h));simp only [cof] at this ⊢;rw [this,e];split<;>grind
 | case6 s p u q h1 h2 h3 ih =>
   have e:s.2=u.2:=by rcases o.tri s.2 u.2 (hp s (.head _)) (hq u (.head _)) with h | h | h;exact absurd h h2;exact h;exact absurd h h1
   have:=ih (λt h=>hp t (.tail _ h)) (λt h=>hq t (.tail _ h));simp only [cof] at this ⊢;rw [this,e];split<;>grind
end
section
variable {α:Type} {D:α→Prop} {lt:α→α→Prop}
theorem Srt.nil:Srt D lt ([]:List (Rat × α)):=⟨by simp,.nil⟩
theorem Srt.tail {t:Rat × α} {p:List (Rat × α)} (h:Srt D lt (t :: p)):Srt D lt p:=⟨λu hu=>h.1 u (.tail _ hu),(List.pairwise_cons.1 h.2).2⟩
theorem Srt.cons {t:Rat × α} {p:List (Rat × α)} (h:Srt D lt p) (h1:t.1≠0) (h2:D t.2) (h3:∀u∈p,lt u.2 t.2):Srt D lt (t :: p) :=
 ⟨λu hu=>by rcases List.mem_cons.1 hu with rfl | hu;exact⟨h1,h2⟩;exact h.1 u hu,List.pairwise_cons.2 ⟨h3,h.2⟩⟩
theorem Srt.dom {p:List (Rat × α)} (h:Srt D lt p):∀t∈p,D t.2:=λt ht=>(h.1 t ht).2
theorem Srt.head_lt {t:Rat × α} {p:List (Rat × α)} (h:Srt D lt (t :: p)):∀u∈p,lt u.2 t.2:=(List.pairwise_cons.1 h.2).1
end
section
variable {α:Type} {D:α→Prop} {lt:α→α→Prop} [DecidableRel lt]
theorem Zcu (o:KO D lt) {p q:List (Rat × α)} (hp:Srt D lt p) (hq:Srt D lt q):Srt D lt (addP lt p q):=by
 fun_induction addP lt p q with
 | case1 q=>exact hq
 | case2 s p=>exact hp
 | case3 s p u q h1 ih =>
   refine(ih hp.tail hq).cons (hp.1 s (.head _)).1 (hp.1 s (.head _)).2 λv hv=>?_;obtain⟨w,hw,e⟩:=Zl6 hv;rw [e];rcases List.mem_append.1 hw with hw | hw
   ·exact hp.head_lt w hw
   ·rcases List.mem_cons.1 hw with rfl | hw
    ·exact h1
    ·exact o.tr _ _ _ (hq.head_lt w hw) h1
 | case4 s p u q h1 h2 ih =>
   refine(ih hp hq.tail).cons (hq.1 u (.head _)).1 (hq.1 u (.head _)).2 λv hv=>?_;obtain⟨w,hw,e⟩:=Zl6 hv;rw [e];rcases List.mem_append.1 hw with hw | hw
   ·rcases List.mem_cons.1 hw with rfl | hw
    ·exact h2
    ·exact o.tr _ _ _ (hp.head_lt w hw) h2
   ·exact hq.head_lt w hw
 | case5 s p u q h1 h2 h3 ih=>exact ih hp.tail hq.tail
 | case6 s p u q h1 h2 h3 ih =>
   have es:s.2=u.2:=by rcases o.tri s.2 u.2 (hp.dom s (.head _)) (hq.dom u (.head _)) with h | h | h;exact absurd h h2;exact h;exact absurd h h1
   refine(ih hp.tail hq.tail).cons h3 (hp.1 s (.head _)).2 λv hv=>?_;obtain⟨w,hw,e⟩:=Zl6 hv;rw [e];rcases List.mem_append.1 hw with hw | hw
   ·exact hp.head_lt w hw
   ·show lt w.2 s.2;rw [es];exact hq.head_lt w hw
end
section
variable {α:Type} {D:α→Prop} {lt:α→α→Prop} [DecidableEq α]
theorem Zj7 (o:KO D lt) {p:List (Rat × α)} {x:α} (h:∀t∈p,lt t.2 x):cof p x=0:=by
 induction p with
 | nil=>rfl
 | cons t p ih =>
   show(if t.2=x then t.1 else 0)+cof p x=0;rw [if_neg (by rintro rfl;exact o.irr _ (h t (.head _))),ih λu hu=>h u (.tail _ hu),Rat.add_zero]
theorem Zgy (o:KO D lt) {t:Rat × α} {p:List (Rat × α)} (h:Srt D lt (t :: p)):cof (t :: p) t.2=t.1:=by
 show(if t.2=t.2 then t.1 else 0)+cof p t.2=t.1;rw [if_pos rfl,Zj7 o h.head_lt,Rat.add_zero]
theorem Zh6 (o:KO D lt):∀{p q:List (Rat × α)},Srt D lt p→Srt D lt q→(∀x,cof p x=cof q x)→p=q
 | [],[],_,_,_=>rfl
 | [],t :: q,_,hq,h=>absurd ((Zgy o hq).symm.trans (h t.2).symm) (hq.1 t (.head _)).1
 | s :: p,[],hp,_,h=>absurd ((Zgy o hp).symm.trans (h s.2)) (hp.1 s (.head _)).1
 | s :: p,t :: q,hp,hq,h=>by
   have ks:s.2=t.2:=by
    rcases o.tri s.2 t.2 (hp.dom s (.head _)) (hq.dom t (.head _)) with hl | hl | hl
    ·have h1:cof (s :: p) t.2=0:=Zj7 o λu hu=>by
      rcases List.mem_cons.1 hu with rfl | hu
      ·exact hl
      ·exact o.tr _ _ _ (hp.head_lt u hu) hl
     exact absurd (((h t.2).symm.trans h1).symm.trans (Zgy o hq)).symm (hq.1 t (.head _)).1
    ·exact hl
    ·have h1:cof (t :: q) s.2=0:=Zj7 o λu hu=>by
      rcases List.mem_cons.1 hu with rfl | hu
      ·exact hl
      ·exact o.tr _ _ _ (hq.head_lt u hu) hl
     exact absurd (((h s.2).trans h1).symm.trans (Zgy o hp)).symm (hp.1 s (.head _)).1
   have kc:s.1=t.1:=by
    have h1:=h s.2;rw [Zgy o hp,ks,Zgy o hq] at h1;exact h1
   have e:s=t:=Prod.ext kc ks;subst e;congr 1;refine Zh6 o hp.tail hq.tail λx=>?_;have h1:=h x;simp only [cof] at h1
   grind
end
section
variable {α:Type} {D:α→Prop} {lt:α→α→Prop}
def Zhk (m:α→α→α) (p:List (Rat × α)) (t:Rat × α):List (Rat × α):=p.map λs=>(s.1*t.1,m s.2 t.2)
structure KM (D:α→Prop) (lt:α→α→Prop) (m:α→α→α):Prop where
 comm:∀x y,m x y=m y x
 dom:∀x y,D x→D y→D (m x y)
 mono:∀x y z,D x→D y→D z→lt x y→lt (m x z) (m y z)
theorem Zt0 {m:α→α→α} (k:KM D lt m) {p:List (Rat × α)} {t:Rat × α} (hp:Srt D lt p) (h1:t.1≠0) (h2:D t.2):Srt D lt (Zhk m p t):=by
 refine⟨λu hu=>?_,?_⟩
 ·obtain⟨s,hs,rfl⟩:=List.mem_map.1 hu;have:=hp.1 s hs;exact⟨by show s.1*t.1≠0;intro h0;rcases Rat.mul_eq_zero.1 h0 with h | h;exact this.1 h;exact h1 h,k.dom _ _ this.2 h2⟩
 ·refine List.pairwise_map.2 (hp.2.imp_of_mem λ{a b} ha hb hl=>k.mono _ _ _ (hp.dom b hb) (hp.dom a ha) h2 hl)
end
section
variable {α:Type} {D:α→Prop} {lt:α→α→Prop} [DecidableEq α]
def cofM (m:α→α→α) (p:List (Rat × α)):List (Rat × α)→α→Rat
 | [],_=>0
 | t :: q,x=>cof (Zhk m p t) x+cofM m p q x
end
section
variable {α:Type} {D:α→Prop} {lt:α→α→Prop}
def mulR (lt:α→α→Prop) [DecidableRel lt] (m:α→α→α) (p q:List (Rat × α)):List (Rat × α):=q.foldl (λout t=>addP lt out (Zhk m p t)) []
end
section
variable {α:Type} {D:α→Prop} {lt:α→α→Prop} [DecidableRel lt]
theorem Zog (o:KO D lt) {m:α→α→α} (k:KM D lt m) {p:List (Rat × α)} (hp:Srt D lt p):∀(q out:List (Rat × α)),Srt D lt q→Srt D lt out→Srt D lt (q.foldl (λout t=>addP lt out (Zhk m p t)) out)
 | [],_,_,ho=>ho
 | t :: q,_,hq,ho=>Zog o k hp q _ hq.tail (Zcu o ho (Zt0 k hp (hq.1 t (.head _)).1 (hq.1 t (.head _)).2))
end
section
variable {α:Type} {D:α→Prop} {lt:α→α→Prop} [DecidableEq α] [DecidableRel lt]
end
section
variable {α:Type} {D:α→Prop} {lt:α→α→Prop} [DecidableRel lt]
theorem mulR_srt (o:KO D lt) {m:α→α→α} (k:KM D lt m) {p q:List (Rat × α)} (hp:Srt D lt p) (hq:Srt D lt q):Srt D lt (mulR lt m p q):=Zog o k hp q [] hq .nil
end
section
variable {α:Type} {D:α→Prop} {lt:α→α→Prop} [DecidableEq α] [DecidableRel lt]
end
section
variable {α:Type} {D:α→Prop} {lt:α→α→Prop}
def sumH (lt:α→α→Prop) [DecidableRel lt]:List (List (Rat × α))→List (Rat × α)
 | []=>[]
 | [p]=>p
 | p :: q :: l=>addP lt (sumH lt ((p :: q :: l).take ((p :: q :: l).length/2))) (sumH lt ((p :: q :: l).drop ((p :: q :: l).length/2)))
termination_by l=>l.length
decreasing_by all_goals (simp only [List.length_take,List.length_drop,List.length_cons];omega)
end
section
variable {α:Type} {D:α→Prop} {lt:α→α→Prop} [DecidableEq α]
def cofL:List (List (Rat × α))→α→Rat
 | [],_=>0
 | p :: l,x=>cof p x+cofL l x
theorem cofL_app (l k:List (List (Rat × α))) (x:α):cofL (l++k) x=cofL l x+cofL k x:=by
 induction l with
 | nil=>show cofL k x=0+cofL k x;rw [Rat.zero_add]
 | cons p l ih=>show _+cofL (l++k) x=(_+cofL l x)+cofL k x;rw [ih,Rat.add_assoc]
end
section
variable {α:Type} {D:α→Prop} {lt:α→α→Prop} [DecidableRel lt]
theorem Zgm (o:KO D lt) (l:List (List (Rat × α))) (h:∀p∈l,Srt D lt p):Srt D lt (sumH lt l):=by
 fun_induction sumH lt l with
 | case1=>exact .nil
 | case2 p=>exact h p (.head _)
 | case3 p q l ih1 ih2=>exact Zcu o (ih1 λu hu=>h u (List.mem_of_mem_take hu)) (ih2 λu hu=>h u (List.mem_of_mem_drop hu))
end
section
variable {α:Type} {D:α→Prop} {lt:α→α→Prop} [DecidableEq α] [DecidableRel lt]
theorem sumH_cof (o:KO D lt) (x:α) (l:List (List (Rat × α))) (h:∀p∈l,Srt D lt p):cof (sumH lt l) x=cofL l x:=by
 fun_induction sumH lt l with
 | case1=>rfl
 | case2 p=>show cof p x=cof p x+0;rw [Rat.add_zero]
 | case3 p q l ih1 ih2 =>
   have h1:∀u∈(p :: q :: l).take ((p :: q :: l).length/2),Srt D lt u:=λu hu=>h u (List.mem_of_mem_take hu);have h2:∀u∈(p :: q :: l).drop ((p :: q :: l).length/2),Srt D lt u:=λu hu=>h u (List.mem_of_mem_drop hu);rw [Zfq o x (Zgm o _ h1).dom (Zgm o _ h2).dom,ih1 h1,ih2 h2,←cofL_app,List.take_append_drop]
end
section
variable {α:Type} {D:α→Prop} {lt:α→α→Prop}
def mulH (lt:α→α→Prop) [DecidableRel lt] (m:α→α→α) (p q:List (Rat × α)):List (Rat × α):=sumH lt (p.map λt=>Zhk m q t)
end
section
variable {α:Type} {D:α→Prop} {lt:α→α→Prop} [DecidableEq α] [DecidableRel lt]
theorem Zxj (o:KO D lt) {p q:List (Rat × α)} (hp:Srt D lt p) (hq:Srt D lt q):addP lt p q=addP lt q p :=
 Zh6 o (Zcu o hp hq) (Zcu o hq hp) λx=>by rw [Zfq o x hp.dom hq.dom,Zfq o x hq.dom hp.dom,Rat.add_comm]
theorem Ztm (o:KO D lt) {p q r:List (Rat × α)} (hp:Srt D lt p) (hq:Srt D lt q) (hr:Srt D lt r):addP lt (addP lt p q) r=addP lt p (addP lt q r) :=
 Zh6 o (Zcu o (Zcu o hp hq) hr) (Zcu o hp (Zcu o hq hr)) λx=>by
  rw [Zfq o x (Zcu o hp hq).dom hr.dom,Zfq o x hp.dom hq.dom,Zfq o x hp.dom (Zcu o hq hr).dom,Zfq o x hq.dom hr.dom,Rat.add_assoc]
end
section
variable {α:Type} {D:α→Prop} {lt:α→α→Prop} [DecidableRel lt]
theorem Zmt (p q:List (Rat × α)):(addP lt p q).length≤p.length+q.length:=by
 fun_induction addP lt p q<;>simp_all only [List.length_cons,List.length_nil]<;>omega
end
end Go.Pol
section
namespace Go.Pol
structure CO {α:Type} (cmp:α→α→Int):Prop where
 eqz:∀a b,cmp a b=0→a=b
 refl:∀a,cmp a a=0
 flip:∀a b,cmp a b < 0↔0 < cmp b a
 tr:∀a b c,cmp a b < 0→cmp b c < 0→cmp a c < 0
structure CP {α:Type} (cmp:α→α→Int):Prop where
 tr:∀{a b c},cmp a b≤0→cmp b c≤0→cmp a c≤0
 tot:∀a b,¬cmp a b < 0→cmp b a≤0
theorem CP.key {α β:Type} {cmp:α→α→Int} (o:CP cmp) (f:β→α):CP (λs t=>cmp (f s) (f t)):=⟨λh k=>o.tr h k,λ_ _ h=>o.tot _ _ h⟩
namespace CO
variable {α:Type} {cmp:α→α→Int}
theorem le_tr (o:CO cmp) {a b c:α} (h:cmp a b≤0) (k:cmp b c≤0):cmp a c≤0:=by
 by_cases h0:cmp a b=0
 ·rw [o.eqz a b h0];exact k
 ·by_cases k0:cmp b c=0
  ·rw [←o.eqz b c k0];exact h
  ·have:=o.tr a b c (by omega) (by omega);omega
theorem le_total (o:CO cmp) (a b:α) (h:¬cmp a b < 0):cmp b a≤0:=by
 have:=(o.flip b a);have:=(o.flip a b);omega
theorem anti (o:CO cmp) {a b:α} (h:cmp a b≤0) (k:cmp b a≤0):a=b:=by
 refine o.eqz a b ?_;have:=(o.flip b a);have:=(o.flip a b);omega
theorem cp (o:CO cmp):CP cmp:=⟨λh k=>o.le_tr h k,o.le_total⟩
theorem ko (o:CO cmp):KO (λ_=>True) (λx y=>cmp y x < 0) where
 irr x h:=by rw [o.refl] at h;omega
 tr x y z h k:=o.tr z y x k h
 tri x y _ _:=by
  by_cases h:cmp y x < 0
  ·exact .inl h
  ·by_cases h0:cmp x y < 0
   ·exact .inr (.inr h0)
   ·exact .inr (.inl (o.eqz x y (by have:=o.flip y x;omega)))
end CO
section
variable {α:Type} (cmp:α→α→Int)
def Asc (l:List α):Prop:=l.Pairwise λa b=>cmp a b≤0
def insI (P:List α) (x:α):Nat→List α
 | 0=>x :: P
 | j+1=>if cmp x (P.getD j x) < 0 then insI P x j else P.take (j+1)++x :: P.drop (j+1)
def srtN (L:List α):Nat→List α
 | 0=>[]
 | n+1=>match L[n]? with
   | some x=>insI cmp (srtN L n) x (srtN L n).length
   | none=>srtN L n
def srtQ (L:List α):List α:=srtN cmp L L.length
variable {cmp}
theorem Zjz (P:List α) (x:α):∀j,j≤P.length→(∀t (h:t < P.length),j≤t→cmp x P[t] < 0)→∃k,k≤P.length∧insI cmp P x j=P.take k++x :: P.drop k∧(∀t (h:t < P.length),k≤t→cmp x P[t] < 0)∧∀t (h:t < P.length),t+1=k→¬cmp x P[t] < 0
 | 0,_,h=>⟨0,Nat.zero_le _,by simp [insI],h,λt ht e=>by omega⟩
 | j+1,hj,h=>by
   have hg:P.getD j x=P[j]'(by omega):=by rw [List.getD_eq_getElem?_getD,List.getElem?_eq_getElem (by omega)];rfl
   unfold insI;rw [hg];split
   ·rename_i hc;refine Zjz P x j (by omega) λt ht hjt=>?_;by_cases e:t=j
    ·subst e;exact hc
    ·exact h t ht (by omega)
   ·rename_i hc
    exact⟨j+1,hj,rfl,h,λt ht e=>by have:t=j:=by omega
                                   subst this;exact hc⟩
theorem Zwc (P:List α) (x:α):(insI cmp P x P.length).Perm (x :: P):=by
 obtain⟨k,_,e,_⟩:=Zjz (cmp:=cmp) P x P.length (Nat.le_refl _) (λt h1 h2=>by omega);rw [e];refine(List.perm_middle).trans ?_;rw [List.take_append_drop]
theorem insI_asc (o:CP cmp) {P:List α} (hP:Asc cmp P) (x:α):Asc cmp (insI cmp P x P.length):=by
 obtain⟨k,hk,e,h1,h2⟩:=Zjz (cmp:=cmp) P x P.length (Nat.le_refl _) (λt h1 h2=>by omega);rw [e];unfold Asc at *;have hle:∀a∈P.take k,cmp a x≤0:=λa ha=>by
  obtain⟨t,ht,rfl⟩:=List.mem_iff_getElem.1 ha;rw [List.length_take] at ht;rw [List.getElem_take];have hn:=h2 (k - 1) (by omega) (by omega);have hlast:=o.tot _ _ hn;by_cases et:t=k - 1
  ·subst et;exact hlast
  ·exact o.tr (List.pairwise_iff_getElem.1 hP t (k - 1) (by omega) (by omega) (by omega)) hlast
 have hge:∀b∈P.drop k,cmp x b≤0:=λb hb=>by
  obtain⟨t,ht,rfl⟩:=List.mem_iff_getElem.1 hb;rw [List.length_drop] at ht;rw [List.getElem_drop];have:=h1 (k+t) (by omega) (by omega);omega
 refine List.pairwise_append.2 ⟨hP.sublist (List.take_sublist _ _),List.pairwise_cons.2 ⟨hge,hP.sublist (List.drop_sublist _ _)⟩,λa ha b hb=>?_⟩;rcases List.mem_cons.1 hb with rfl | hb
 ·exact hle a ha
 ·exact o.tr (hle a ha) (hge b hb)
theorem Zm6 (L:List α):∀n,n≤L.length→(srtN cmp L n).Perm (L.take n)
 | 0,_=>by simp [srtN]
 | n+1,h=>by
   have hn:L[n]?=some (L[n]'(by omega)):=List.getElem?_eq_getElem (by omega);unfold srtN;rw [hn];simp only;rw [List.take_add_one,hn];refine(Zwc _ _).trans ?_;refine(List.Perm.cons _ (Zm6 L n (by omega))).trans ?_;simp only [Option.toList_some];exact(List.perm_append_singleton _ _).symm
theorem Zlh (o:CP cmp) (L:List α):∀n,Asc cmp (srtN cmp L n)
 | 0=>.nil
 | n+1=>by
   unfold srtN;split
   ·exact insI_asc o (Zlh o L n) _
   ·exact Zlh o L n
theorem Zbt (L:List α):(srtQ cmp L).Perm L:=by
 have:=Zm6 (cmp:=cmp) L L.length (Nat.le_refl _)
 rwa [List.take_length] at this
theorem Zc3 (o:CP cmp) (L:List α):Asc cmp (srtQ cmp L):=Zlh o L _
theorem srtQ_len (L:List α):(srtQ cmp L).length=L.length:=(Zbt L).length_eq
theorem Zhh (o:CO cmp):∀{l m:List α},Asc cmp l→Asc cmp m→l.Perm m→l=m
 | [],m,_,_,p=>(List.nil_perm.1 p).symm
 | a :: l,[],_,_,p=>by have:=p.length_eq;simp at this
 | a :: l,b :: m,hl,hm,p=>by
   have hl':=List.pairwise_cons.1 hl;have hm':=List.pairwise_cons.1 hm
   have hab:a=b:=by
    have h1:a∈b :: m:=p.mem_iff.1 (.head _);have h2:b∈a :: l:=p.mem_iff.2 (.head _);rcases List.mem_cons.1 h1 with h | h1
    ·exact h
    ·rcases List.mem_cons.1 h2 with h | h2
     ·exact h.symm
     ·exact o.anti (hl'.1 b h2) (hm'.1 a h1)
   subst hab;rw [Zhh o hl'.2 hm'.2 (List.Perm.cons_inv p)]
def putQ (cmp:α→α→Int):List α→α→List α
 | [],q=>[q]
 | a :: l,q=>if cmp a q≤0 then a :: putQ cmp l q else q :: a :: l
theorem Zjo (q:α):∀l:List α,(putQ cmp l q).Perm (q :: l)
 | []=>.refl _
 | a :: l=>by
   unfold putQ;split
   ·exact((Zjo q l).cons a).trans (.swap ..)
   ·exact .refl _
theorem Zq9 (o:CP cmp) (q:α):∀{l:List α},Asc cmp l→Asc cmp (putQ cmp l q)
 | [],_=>List.pairwise_singleton ..
 | a :: l,h=>by
   have h':=List.pairwise_cons.1 h;unfold putQ;split
   ·rename_i hc;refine List.pairwise_cons.2 ⟨λb hb=>?_,Zq9 o q h'.2⟩;rcases List.mem_cons.1 ((Zjo q l).mem_iff.1 hb) with rfl | hb
    ·exact hc
    ·exact h'.1 b hb
   ·rename_i hc;have hqa:cmp q a≤0:=o.tot a q (by omega);refine List.pairwise_cons.2 ⟨λb hb=>?_,h⟩;rcases List.mem_cons.1 hb with rfl | hb
    ·exact hqa
    ·exact o.tr hqa (h'.1 b hb)
theorem Zex (L:List α):∀acc:List α,(L.foldl (putQ cmp) acc).Perm (L++acc):=by
 induction L with
 | nil=>intro acc;exact .refl _
 | cons a L ih =>
   intro acc;show(L.foldl (putQ cmp) (putQ cmp acc a)).Perm (a :: (L++acc));refine(ih _).trans (((Zjo a acc).append_left L).trans ?_);exact List.perm_middle
theorem Zmh (o:CP cmp) (L:List α):∀acc:List α,Asc cmp acc→Asc cmp (L.foldl (putQ cmp) acc):=by
 induction L with
 | nil=>intro acc h;exact h
 | cons a L ih=>intro acc h;exact ih _ (Zq9 o a h)
theorem Zof (o:CO cmp) (L:List α):L.foldl (putQ cmp) []=srtQ cmp L :=
 Zhh o (Zmh o.cp L [] .nil) (Zc3 o.cp L) (by
  have:=Zex (cmp:=cmp) L [];rw [List.append_nil] at this;exact this.trans (Zbt L).symm)
end
section
variable {α:Type} (cmp:α→α→Int)
def lexL:List α→List α→Int
 | [],[]=>0
 | [],_ :: _=>-1
 | _ :: _,[]=>1
 | a :: l,b :: m=>if cmp a b=0 then lexL l m else cmp a b
def ordL (l m:List α):Int:=if l.length < m.length then -1 else if m.length < l.length then 1 else lexL cmp l m
variable {cmp}
theorem Zjy (a b:α) (l m:List α):lexL cmp (a :: l) (b :: m)=if cmp a b=0 then lexL cmp l m else cmp a b:=rfl
theorem Zl8 (o:CO cmp):CO (lexL cmp) where
 eqz:=by
  intro l
  induction l with
  | nil=>intro m h;cases m with
    | nil=>rfl
    | cons b m=>exact absurd h (by simp [lexL])
  | cons a l ih=>intro m h;cases m with
    | nil=>exact absurd h (by simp [lexL])
    | cons b m =>
      unfold lexL at h;split at h
      ·rename_i h0;rw [o.eqz a b h0,ih m h]
      ·contradiction
 refl:=by
  intro l
  induction l with
  | nil=>rfl
  | cons a l ih=>unfold lexL;rw [if_pos (o.refl a)];exact ih
 flip:=by
  intro l
  induction l with
  | nil=>intro m;cases m<;>simp [lexL]
  | cons a l ih=>intro m;cases m with
    | nil=>simp [lexL]
    | cons b m =>
      have h1:=o.flip a b;have h2:=o.flip b a;unfold lexL;by_cases h:cmp a b=0
      ·rw [if_pos h,if_pos (by rw [o.eqz a b h];exact o.refl b)];exact ih m
      ·rw [if_neg h,if_neg (by omega)];exact h1
 tr:=by
  intro l
  induction l with
  | nil=>intro m n h k;cases n with
    | nil=>cases m with
      | nil=>exact h
      | cons b m=>simp [lexL] at k
    | cons c n=>simp [lexL]
  | cons a l ih=>intro m n h k;cases m with
    | nil=>simp [lexL] at h
    | cons b m=>cases n with
      | nil=>simp [lexL] at k
      | cons c n =>
        rw [Zjy] at *;by_cases hab:cmp a b=0
        ·rw [if_pos hab] at h;by_cases hbc:cmp b c=0
         ·rw [if_pos hbc] at k;rw [if_pos (by rw [o.eqz a b hab,hbc])];exact ih m n h k
         ·rw [if_neg hbc] at k;rw [o.eqz a b hab,if_neg hbc];exact k
        ·rw [if_neg hab] at h;by_cases hbc:cmp b c=0
         ·rw [←o.eqz b c hbc,if_neg hab];exact h
         ·rw [if_neg hbc] at k;have:=o.tr a b c h k;rw [if_neg (by omega)];exact this
theorem ordL_co (o:CO cmp):CO (ordL cmp) where
 eqz l m h:=by
  unfold ordL at h;split at h
  ·omega
  ·split at h
   ·omega
   ·exact(Zl8 o).eqz l m h
 refl l:=by unfold ordL;rw [if_neg (by omega),if_neg (by omega)];exact(Zl8 o).refl l
 flip l m:=by
  have:=(Zl8 o).flip l m;unfold ordL;by_cases h1:l.length < m.length
  ·rw [if_pos h1,if_neg (by omega),if_pos h1];omega
  ·by_cases h2:m.length < l.length
   ·rw [if_neg h1,if_pos h2,if_pos h2];omega
   ·rw [if_neg h1,if_neg h2,if_neg h2,if_neg h1];exact this
 tr l m n h k:=by
  have:=(Zl8 o).tr l m n;unfold ordL at *;by_cases h1:l.length < m.length
  ·by_cases k1:m.length < n.length
   ·rw [if_pos (by omega)];omega
   ·by_cases k2:n.length < m.length
    ·rw [if_neg k1,if_pos k2] at k;omega
    ·rw [if_pos (by omega)];omega
  ·by_cases h2:m.length < l.length
   ·rw [if_neg h1,if_pos h2] at h;omega
   ·by_cases k1:m.length < n.length
    ·rw [if_pos (by omega)];omega
    ·by_cases k2:n.length < m.length
     ·rw [if_neg k1,if_pos k2] at k;omega
     ·rw [if_neg h1,if_neg h2] at h;rw [if_neg k1,if_neg k2] at k;rw [if_neg (by omega),if_neg (by omega)];exact this h k
end
section
variable {κ:Type} [DecidableEq κ]
def addC:List (Rat × κ)→Rat × κ→List (Rat × κ)
 | [],t=>[t]
 | s :: l,t=>if s.2=t.2 then (s.1+t.1,s.2) :: l else s :: addC l t
theorem cof_addC (l:List (Rat × κ)) (t:Rat × κ) (x:κ):cof (addC l t) x=cof l x+if t.2=x then t.1 else 0:=by
 induction l with
 | nil=>show(if t.2=x then t.1 else 0)+0=0+_;rw [Rat.add_comm]
 | cons s l ih =>
   unfold addC;split
   ·rename_i h;simp only [cof];rw [h];split<;>grind
   ·simp only [cof];rw [ih];grind
theorem addC_key {l:List (Rat × κ)} {t u:Rat × κ} (h:u∈addC l t):u.2=t.2∨∃s∈l,s.2=u.2:=by
 induction l with
 | nil=>rw [List.mem_singleton.1 h];exact .inl rfl
 | cons s l ih =>
   unfold addC at h;split at h
   ·rename_i e;rcases List.mem_cons.1 h with rfl | h
    ·exact .inl e
    ·exact .inr ⟨u,.tail _ h,rfl⟩
   ·rcases List.mem_cons.1 h with rfl | h
    ·exact .inr ⟨u,.head _,rfl⟩
    ·rcases ih h with h | ⟨s',h1,h2⟩
     ·exact .inl h
     ·exact .inr ⟨s',.tail _ h1,h2⟩
def Dst (l:List (Rat × κ)):Prop:=l.Pairwise λs t=>s.2≠t.2
theorem addC_dst {l:List (Rat × κ)} (h:Dst l) (t:Rat × κ):Dst (addC l t):=by
 induction l with
 | nil=>exact List.pairwise_singleton ..
 | cons s l ih =>
   have h':=List.pairwise_cons.1 h;unfold addC;split
   ·exact List.pairwise_cons.2 ⟨λu hu=>h'.1 u hu,h'.2⟩
   ·rename_i hne;refine List.pairwise_cons.2 ⟨λu hu=>?_,ih h'.2⟩;rcases addC_key hu with e | ⟨v,hv,e⟩
    ·rw [e];exact hne
    ·rw [←e];exact h'.1 v hv
theorem Zk5 (l:List (Rat × κ)) (x:κ):cof (l.filter λt=>decide (t.1≠0)) x=cof l x:=by
 induction l with
 | nil=>rfl
 | cons t l ih =>
   rw [List.filter_cons];split
   ·simp only [cof];rw [ih]
   ·rename_i h;have h0:t.1=0:=by simpa using h
    simp only [cof];rw [ih,h0];grind
theorem cof_perm {l m:List (Rat × κ)} (h:l.Perm m) (x:κ):cof l x=cof m x:=by
 induction h with
 | nil=>rfl
 | cons a _ ih=>simp only [cof];rw [ih]
 | swap a b l=>simp only [cof];grind
 | trans _ _ ih1 ih2=>rw [ih1,ih2]
end
section
variable {κ:Type} (cmp:κ→κ→Int)
def sumG (l:List (Rat × κ)):List (Rat × κ):=sumH (λx y=>cmp y x < 0) (l.map λt=>if t.1=0 then [] else [t])
variable {cmp}
theorem Zli (o:CO cmp):∀{l:List (Rat × κ)},Dst l→(srtQ (λs t:Rat × κ=>cmp s.2 t.2) l).Pairwise λs t=>cmp s.2 t.2 < 0:=by
 intro l hd;have hp:=Zbt (cmp:=λs t:Rat × κ=>cmp s.2 t.2) l
 have hd2:Dst (srtQ (λs t:Rat × κ=>cmp s.2 t.2) l):=by
  refine(List.Perm.pairwise_iff ?_ hp).2 hd;intro a b h e;exact h e.symm
 have ha:(srtQ (λs t:Rat × κ=>cmp s.2 t.2) l).Pairwise λs t=>cmp s.2 t.2≤0:=Zc3 (o.cp.key λs:Rat × κ=>s.2) l;exact(ha.and hd2).imp λ{a b} h=>by
  obtain⟨h1,h2⟩:=h;by_cases h0:cmp a.2 b.2=0
  ·exact absurd (o.eqz _ _ h0) h2
  ·omega
theorem Zkm (l:List (Rat × κ)):∀p∈l.map (λt=>if t.1=0 then [] else [t]),Srt (λ_=>True) (λx y=>cmp y x < 0) p:=λp hp=>by
 obtain⟨t,_,rfl⟩:=List.mem_map.1 hp;split
 ·exact .nil
 ·rename_i h;exact Srt.nil.cons h trivial (λu hu=>by cases hu)
theorem Zld (o:CO cmp) (l:List (Rat × κ)):Srt (λ_=>True) (λx y=>cmp y x < 0) (sumG cmp l):=Zgm o.ko _ (Zkm l)
end
section
variable {κ:Type} [DecidableEq κ]
variable (cmp:κ→κ→Int)
def sumC (l:List (Rat × κ)):List (Rat × κ):=srtQ (λs t=>cmp s.2 t.2) ((l.foldl addC []).filter λt=>decide (t.1≠0))
variable {cmp}
theorem Zkh (L:List (Rat × κ)) (x:κ):∀acc:List (Rat × κ),cof (L.foldl addC acc) x=cof acc x+cof L x:=by
 induction L with
 | nil=>intro acc;show cof acc x=cof acc x+0;rw [Rat.add_zero]
 | cons t L ih =>
   intro acc;show cof (L.foldl addC (addC acc t)) x=cof acc x+((if t.2=x then t.1 else 0)+cof L x);rw [ih,cof_addC,Rat.add_assoc]
theorem Zey (L:List (Rat × κ)):∀acc:List (Rat × κ),Dst acc→Dst (L.foldl addC acc):=by
 induction L with
 | nil=>intro acc h;exact h
 | cons t L ih=>intro acc h;exact ih _ (addC_dst h t)
theorem sumC_srt (o:CO cmp) (l:List (Rat × κ)):Srt (λ_=>True) (λx y=>cmp y x < 0) (sumC cmp l):=by
 have hd:Dst ((l.foldl addC []).filter λt=>decide (t.1≠0)):=List.Pairwise.sublist (List.filter_sublist ..) (Zey l [] .nil);refine⟨λt ht=>⟨?_,trivial⟩,Zli o hd⟩;have:=((Zbt _).mem_iff.1 ht);have:=(List.mem_filter.1 this).2;exact of_decide_eq_true this
theorem sumC_cof (l:List (Rat × κ)) (x:κ):cof (sumC cmp l) x=cof l x:=by
 unfold sumC;rw [cof_perm (Zbt _),Zk5,Zkh];show 0+_=_;rw [Rat.zero_add]
theorem Zle (o:CO cmp) (l:List (Rat × κ)) (x:κ):cof (sumG cmp l) x=cof l x:=by
 unfold sumG;rw [sumH_cof o.ko x _ (Zkm l)]
 induction l with
 | nil=>rfl
 | cons t l ih =>
   show cof _ x+cofL (l.map _) x=(if t.2=x then t.1 else 0)+cof l x;rw [ih];congr 1;show cof (if t.1=0 then [] else [t]) x=_;by_cases h:t.1=0
   ·rw [if_pos h,h];show(0:Rat)=_;split<;>rfl
   ·rw [if_neg h];show _+(0:Rat)=_;rw [Rat.add_zero]
theorem Zlf (o:CO cmp) (l:List (Rat × κ)):sumC cmp l=sumG cmp l:=Zh6 o.ko (sumC_srt o l) (Zld o l) λx=>by rw [sumC_cof,Zle o]
end
end Go.Pol
end
namespace Go.Proofs.YtjekhacnoopdpaaGreatDoor
open Go Go.RowKit Go.Pg
attribute [-bool_to_prop] Bool.and_eq_decide Bool.or_eq_decide Bool.decide_beq_decide decide_eq_decide
theorem Zan:Zez Tryz.prog 25=some 32:=by kernel_rfl
theorem Zbs:szOf Tryz.prog 47=some 1:=by kernel_rfl
theorem zSlQ:Zav Tryz.prog 47=some (.slice none 0 0):=by kernel_rfl
theorem szSlU8:szOf Tryz.prog 245=some 1:=by kernel_rfl
theorem zSlU8:Zav Tryz.prog 245=some (.slice none 0 0):=by kernel_rfl
theorem szQT:szOf Tryz.prog 49=some 4:=by kernel_rfl
theorem byQT:Zez Tryz.prog 49=some 80:=by kernel_rfl
theorem zQT:Zav Tryz.prog 49=some (.agg #[.bool false,.slice none 0 0,.slice none 0 0,.slice none 0 0]):=by kernel_rfl
theorem Zby:szOf Tryz.prog 22=some 1:=by kernel_rfl
theorem zSlT:Zav Tryz.prog 22=some (.slice none 0 0):=by kernel_rfl
theorem szQP:szOf Tryz.prog 23=some 1:=by kernel_rfl
theorem zQP:Zav Tryz.prog 23=some (.slice none 0 0):=by kernel_rfl
theorem Zm3:szOf Tryz.prog 168=some 2:=by kernel_rfl
theorem Zin:szOf Tryz.prog 100=some 1:=by kernel_rfl
theorem Zmx:Zav Tryz.prog 100=some (.pointer none):=by kernel_rfl
theorem Zm4:szOf Tryz.prog 166=some 1:=by kernel_rfl
end Go.Proofs.YtjekhacnoopdpaaGreatDoor
namespace Go.Proofs.YtjekhacnoopdpaaGreatDoor
open Go Go.RowKit Go.Pg Go.Pol
attribute [-bool_to_prop] Bool.and_eq_decide Bool.or_eq_decide Bool.decide_beq_decide decide_eq_decide
attribute [local go_sem] Tryz.underlying3 Tryz.underlying4 Tryz.underlying5 Tryz.underlying9 Tryz.underlying245 Tryz.underlying25 Tryz.underlying47 sz3 by3 z3 szB zB Zcr Zi0 zStr Zaj Zaw Zak Bool.and_self Zan szU8 byU8 zU8 szSlU8 zSlU8 Zbs zSlQ
abbrev qsA (l:List Qt):AV:=.sl 4 (l.map Qt.av)
def LTq (p q:Qt):Prop:=p.k < q.k∨(p.k=q.k∧(p.a < q.a∨(p.a=q.a∧(p.b < q.b∨(p.b=q.b∧p.c < q.c)))))
theorem Zgt (x y:Int):(ordI x y=-1∧x < y)∨(ordI x y=0∧x=y)∨(ordI x y=1∧y < x):=by
 unfold ordI;split
 ·exact .inl ⟨rfl,by omega⟩
 ·split
  ·exact .inr (.inr ⟨rfl,by omega⟩)
  ·exact .inr (.inl ⟨rfl,by omega⟩)
theorem Zgg (p q:Qt):(Qt.cmp p q=-1∧LTq p q)∨(Qt.cmp p q=0∧p=q)∨(Qt.cmp p q=1∧LTq q p):=by
 obtain⟨k,a,b,c⟩:=p;obtain⟨k',a',b',c'⟩:=q;unfold Qt.cmp or4 LTq;simp only;rcases Zgt k k' with⟨h,g⟩ | ⟨h,g⟩ | ⟨h,g⟩
 ·rw [h];exact .inl ⟨rfl,by omega⟩
 ·rw [h];rcases Zgt a a' with⟨i,f⟩ | ⟨i,f⟩ | ⟨i,f⟩
  ·rw [i];exact .inl ⟨rfl,by omega⟩
  ·rw [i];rcases Zgt b b' with⟨j,e⟩ | ⟨j,e⟩ | ⟨j,e⟩
   ·rw [j];exact .inl ⟨rfl,by omega⟩
   ·rw [j];rcases Zgt c c' with⟨m,d⟩ | ⟨m,d⟩ | ⟨m,d⟩
    ·rw [m];exact .inl ⟨rfl,by omega⟩
    ·rw [m];exact .inr (.inl ⟨rfl,by rw [g,f,e,d]⟩)
    ·rw [m];exact .inr (.inr ⟨rfl,by omega⟩)
   ·rw [j];exact .inr (.inr ⟨rfl,by omega⟩)
  ·rw [i];exact .inr (.inr ⟨rfl,by omega⟩)
 ·rw [h];exact .inr (.inr ⟨rfl,by omega⟩)
theorem LTq.asymm {p q:Qt} (h:LTq p q) (k:LTq q p):False:=by unfold LTq at *;omega
theorem LTq.irr {p:Qt} (h:LTq p p):False:=h.asymm h
theorem cmp_lt (p q:Qt):Qt.cmp p q < 0↔LTq p q:=by
 rcases Zgg p q with⟨h,g⟩ | ⟨h,g⟩ | ⟨h,g⟩
 ·rw [h];exact⟨λ_=>g,λ_=>by omega⟩
 ·rw [h];exact⟨λe=>by omega,λe=>by rw [g] at e;exact e.irr.elim⟩
 ·rw [h];exact⟨λe=>by omega,λe=>(g.asymm e).elim⟩
theorem cmp_gt (p q:Qt):0 < Qt.cmp p q↔LTq q p:=by
 rcases Zgg p q with⟨h,g⟩ | ⟨h,g⟩ | ⟨h,g⟩
 ·rw [h];exact⟨λe=>by omega,λe=>(g.asymm e).elim⟩
 ·rw [h];exact⟨λe=>by omega,λe=>by rw [g] at e;exact e.irr.elim⟩
 ·rw [h];exact⟨λ_=>g,λ_=>by omega⟩
theorem qtO:CO Qt.cmp where
 eqz p q h:=by
  rcases Zgg p q with⟨e,_⟩ | ⟨_,g⟩ | ⟨e,_⟩
  ·omega
  ·exact g
  ·omega
 refl p:=by
  rcases Zgg p p with⟨_,g⟩ | ⟨e,_⟩ | ⟨_,g⟩
  ·exact g.irr.elim
  ·exact e
  ·exact g.irr.elim
 flip p q:=by rw [cmp_lt,cmp_gt]
 tr p q r h k:=by rw [cmp_lt] at *;unfold LTq at *;omega
abbrev ordQ:List Qt→List Qt→Int:=ordL Qt.cmp
theorem Zcc:CO ordQ:=ordL_co qtO
abbrev w8 (n:Int):Int:=IntKind.u8.wrap n
def keyN (l:List Qt):List Int:=l.flatMap λq=>[w8 q.k,w8 q.a,w8 q.b,w8 q.c]
def keyS (l:List Qt):ByteArray:=Zfv (keyN l)
abbrev u8A (n:Int):AV:=.v (.int .u8 n)
theorem Ztv (l:List Int):Zlb (l.map u8A)=some l:=by
 induction l with
 | nil=>rfl
 | cons a l ih=>show(Zlb (l.map u8A)).map (a :: ·)=_;rw [ih];rfl
theorem Zwb (l:List Qt) (q:Qt):keyN (l++[q])=keyN l++[w8 q.k,w8 q.a,w8 q.b,w8 q.c]:=by unfold keyN;rw [List.flatMap_append];simp
theorem Zh0 (l:List Qt):(keyN l).length=4*l.length:=by
 induction l with
 | nil=>rfl
 | cons a l ih =>
   show([_,_,_,_]++keyN l).length=_;rw [List.length_append,ih];simp only [List.length_cons,List.length_nil];omega
theorem Zo5 (ns:List Int):(Zfv ns).data.toList=ns.map λn=>UInt8.ofNat n.toNat:=by
 have key:∀(ns:List Int) (acc:ByteArray),(ns.foldl (λr n=>r.push (UInt8.ofNat n.toNat)) acc).data.toList=acc.data.toList++ns.map λn=>UInt8.ofNat n.toNat:=by
  intro ns
  induction ns with
  | nil=>intro acc;simp
  | cons n ns ih=>intro acc;rw [List.foldl_cons,ih];simp [ByteArray.push]
 unfold Zfv;rw [key];rfl
theorem Zmz {n:Int} (h0:0≤n) (h1:n < 256):w8 n=n:=by unfold w8 IntKind.wrap;simp [IntKind.signed,IntKind.bits];omega
def Qt.b8 (q:Qt):Prop:=(0≤q.k∧q.k < 256)∧(0≤q.a∧q.a < 256)∧(0≤q.b∧q.b < 256)∧0≤q.c∧q.c < 256
theorem ok_b8 {q:Qt} (h:q.ok=true):q.b8:=by
 unfold Qt.ok at h;have h:=of_decide_eq_true h;unfold Qt.b8;omega
theorem Zrr:∀{l m:List Qt},(∀q∈l,q.b8)→(∀q∈m,q.b8)→keyN l=keyN m→l=m
 | [],[],_,_,_=>rfl
 | [],b :: m,_,_,h=>by have:=congrArg List.length h;rw [Zh0,Zh0] at this;simp at this
 | a :: l,[],_,_,h=>by have:=congrArg List.length h;rw [Zh0,Zh0] at this;simp at this
 | a :: l,b :: m,hl,hm,h=>by
   have h:w8 a.k :: w8 a.a :: w8 a.b :: w8 a.c :: keyN l=w8 b.k :: w8 b.a :: w8 b.b :: w8 b.c :: keyN m:=h;simp only [List.cons.injEq] at h;obtain⟨h1,h2,h3,h4,h5⟩:=h;obtain⟨⟨a1,a2⟩,⟨a3,a4⟩,⟨a5,a6⟩,a7,a8⟩:=hl a (.head _);obtain⟨⟨b1,b2⟩,⟨b3,b4⟩,⟨b5,b6⟩,b7,b8⟩:=hm b (.head _);rw [Zmz a1 a2,Zmz b1 b2] at h1;rw [Zmz a3 a4,Zmz b3 b4] at h2;rw [Zmz a5 a6,Zmz b5 b6] at h3;rw [Zmz a7 a8,Zmz b7 b8] at h4;rw [Zrr (λq hq=>hl q (.tail _ hq)) (λq hq=>hm q (.tail _ hq)) h5];congr 1;obtain⟨_,_,_,_⟩:=a;obtain⟨_,_,_,_⟩:=b;simp only at h1 h2 h3 h4;rw [h1,h2,h3,h4]
theorem keyN_b (l:List Qt):∀n∈keyN l,0≤n∧n < 256:=by
 have hw:∀n,0≤w8 n∧w8 n < 256:=λn=>by unfold w8 IntKind.wrap;simp [IntKind.signed,IntKind.bits];omega
 intro n hn;unfold keyN at hn;simp only [List.mem_flatMap,List.mem_cons,List.not_mem_nil,or_false] at hn;obtain⟨q,_,h | h | h | h⟩:=hn<;>(rw [h];exact hw _)
theorem Zop:∀{a b:List Int},(∀n∈a,0≤n∧n < 256)→(∀n∈b,0≤n∧n < 256)→(a.map λn:Int=>UInt8.ofNat n.toNat)=(b.map λn:Int=>UInt8.ofNat n.toNat)→a=b
 | [],[],_,_,_=>rfl
 | [],_ :: _,_,_,h=>by simp at h
 | _ :: _,[],_,_,h=>by simp at h
 | x :: a,y :: b,ha,hb,h=>by
   simp only [List.map_cons,List.cons.injEq] at h;obtain⟨h1,h2⟩:=h;obtain⟨x0,x1⟩:=ha x (.head _);obtain⟨y0,y1⟩:=hb y (.head _);have e:=congrArg UInt8.toNat h1;simp only [UInt8.toNat_ofNat'] at e;have:x=y:=by omega
   rw [this,Zop (λn hn=>ha n (.tail _ hn)) (λn hn=>hb n (.tail _ hn)) h2]
theorem Zrq {l m:List Qt} (hl:∀q∈l,q.b8) (hm:∀q∈m,q.b8) (h:keyS l=keyS m):l=m:=by
 refine Zrr hl hm (Zop (keyN_b l) (keyN_b m) ?_);have:=congrArg (λs:ByteArray=>s.data.toList) h;simp only [keyS,Zo5] at this;exact this
theorem qt_at {l:List Qt} {j:Nat} (h:j < l.length):(l.map Qt.av).getD j .u=Qt.av (l.getD j Qt.zero):=Zde h
theorem exKey (l:List Qt) (hl:l.length≤1000):Pure Tryz.prog 150 [qsA l] (strA (keyS l)):=by
 have hlm:(l.map Qt.av).length=l.length:=List.length_map ..;have hg:∀j,j < l.length→(l.map Qt.av).getD j .u=Qt.av (l.getD j Qt.zero):=λj h=>qt_at h;have hz:(4*(l.length:Int)).toNat=4*l.length:=by omega
 show Pure _ _ [.sl 4 (l.map Qt.av)] _;generalize l.map Qt.av=M at *;refine Zaa (tok:=0) Tryz.func150 rfl Tryz.ntmps150 Tryz.results150 Tryz.call150 (by rfl) (by simp) ?_;(focus (refine wkad (w_2 hlm hz) w_t w_t ?_;(repeat' first|exact w_t|apply w_l);all_goals intros));refine Zad (ι:=Nat) (λi e m=>i≤l.length∧(∃sv,e 3=.own 9 sv∧m 9=some (.row sv 5 1 ((keyN (l.take i)).map u8A) 0))∧e 10=.sl 4 M∧e 11=iv l.length∧e 12=iv i) (λi=>l.length - i) 0 (by rfl) ?_ ?_
 ·rintro i e m ⟨hi,⟨sv,e3,m9⟩,e10,e11,e12⟩
  by_cases hlt:i < l.length
  ·have hgi:=hg i hlt
   have hs:keyN (l.take (i+1))=keyN (l.take i)++[w8 (l.getD i Qt.zero).k,w8 (l.getD i Qt.zero).a,w8 (l.getD i Qt.zero).b,w8 (l.getD i Qt.zero).c]:=by
    rw [List.take_add_one,List.getElem?_eq_getElem hlt,List.getD_eq_getElem?_getD,List.getElem?_eq_getElem hlt];exact Zwb _ _
   have hkl:((keyN (l.take i)).map u8A).length=4*i:=by rw [List.length_map,Zh0,List.length_take];omega
   have hma:(keyN (l.take (i+1))).map u8A=(keyN (l.take i)).map u8A++[u8A (w8 (l.getD i Qt.zero).k),u8A (w8 (l.getD i Qt.zero).a),u8A (w8 (l.getD i Qt.zero).b),u8A (w8 (l.getD i Qt.zero).c)]:=by rw [hs,List.map_append];rfl
   clear hg hs;generalize (keyN (l.take i)).map u8A=K at *;generalize l.getD i Qt.zero=q at *;obtain⟨k,a,b,c⟩:=q;simp only at *;(focus (refine wkad (w_8 e3 m9 e10 e11 e12 hlm hgi hkl) w_t w_t ?_;(repeat' first|exact w_t|apply w_l);all_goals intros));exact⟨i+1,⟨by omega,⟨_,by exact gC,by rw [hma];exact gC⟩,by exact gW e10,by exact gW e11,by exact gS⟩,by omega⟩
  ·have hil:i=l.length:=by omega
   subst hil;have hu:Zlb ((keyN l).map u8A)=some (keyN l):=Ztv _;rw [List.take_length] at m9;unfold keyS;generalize (keyN l).map u8A=K at *;(focus (refine wkad (w_6 e3 m9 e10 e11 e12 hu) w_t w_t ?_;(repeat' first|exact w_t|apply w_l);all_goals intros));all_goals exact gL
 ·exact⟨Nat.zero_le _,⟨_,by exact gC,by exact gC⟩,by exact gC,by exact gW hlm,by exact gC⟩
attribute [local go_sem] Tryz.underlying172 Tryz.underlying49 Tryz.underlying22 Tryz.underlying23 szQT byQT zQT Zby zSlT szQP zQP
theorem Zv6 {α:Type} {cmp:α→α→Int} {l m:List α} {i:Nat} (hl:i < l.length) (hm:i < m.length):lexL cmp (l.drop i) (m.drop i)=if cmp l[i] m[i]=0 then lexL cmp (l.drop (i+1)) (m.drop (i+1)) else cmp l[i] m[i]:=by
 rw [List.drop_eq_getElem_cons hl,List.drop_eq_getElem_cons hm,Zjy]
abbrev ordT (s t:Rat × List Qt):Int:=ordQ s.2 t.2
abbrev qtA (t:Rat × List Qt):AV:=.agg [.v (.bool (decide (t.1.num < 0))),lim (toL t.1.num.natAbs),lim (toL t.1.den),qsA t.2]
theorem slCmpQ (l m:List Qt) (hl:l.length≤1000000) (he:l.length=m.length):Pure Tryz.prog 156 [qsA l,qsA m,.fn 73 []] (iv (lexL Qt.cmp l m)):=by
 have hlm:(l.map Qt.av).length=l.length:=List.length_map ..;have hmm:(m.map Qt.av).length=l.length:=by rw [List.length_map];omega
 have hgl:∀j (h:j < l.length),(l.map Qt.av).getD j .u=Qt.av l[j]:=λj h=>Za0 Qt.av h;have hgm:∀j (h:j < m.length),(m.map Qt.av).getD j .u=Qt.av m[j]:=λj h=>Za0 Qt.av h;show Pure _ _ [.sl 4 (l.map Qt.av),.sl 4 (m.map Qt.av),.fn 73 []] _;generalize l.map Qt.av=A at *;generalize m.map Qt.av=B at *;refine Zaa (tok:=0) Tryz.func156 rfl Tryz.ntmps156 Tryz.results156 Tryz.call156 (by rfl) (by simp) ?_;(focus (refine wkad (w_2 hlm hmm) w_t w_t ?_;(repeat' first|exact w_t|apply w_l);all_goals intros));refine Zad (ι:=Nat) (λi e _=>i≤l.length∧lexL Qt.cmp l m=lexL Qt.cmp (l.drop i) (m.drop i)∧e 0=.sl 4 A∧e 1=.sl 4 B∧e 2=.fn 73 []∧e 11=.sl 4 A∧e 12=iv l.length∧e 13=iv i) (λi=>l.length - i) 0 (by rfl) ?_ ?_
 ·rintro i e m' ⟨hi,hx,e0,e1,e2,e11,e12,e13⟩
  by_cases hlt:i < l.length
  ·have g1:=hgl i hlt;have g2:=hgm i (by omega);have hs:=Zv6 (cmp:=Qt.cmp) hlt (show i < m.length by omega);have cc:=quCmp l[i].k l[i].a l[i].b l[i].c (m[i]'(by omega)).k (m[i]'(by omega)).a (m[i]'(by omega)).b (m[i]'(by omega)).c;rw [hx,hs];clear hgl hgm;by_cases hz:Qt.cmp l[i] (m[i]'(by omega))=0
   ·rw [if_pos hz];have hx2:lexL Qt.cmp l m=lexL Qt.cmp (l.drop (i+1)) (m.drop (i+1)):=by rw [hx,hs,if_pos hz]
    clear hx hs;rw [←hx2];generalize l[i]=x at *;generalize m[i]'(by omega)=y at *;obtain⟨x1,x2,x3,x4⟩:=x;obtain⟨y1,y2,y3,y4⟩:=y;simp only at *;rw [hz] at cc;(focus (refine wkad (w_10 e0 e1 e2 e11 e12 e13 hlm hmm g1 g2) (w_1 cc) w_t ?_;(repeat' first|exact w_t|apply w_l);all_goals intros));exact⟨i+1,⟨by omega,hx2,by exact gW e0,by exact gW e1,by exact gW e2,by exact gW e11,by exact gW e12,by exact gS⟩,by omega⟩
   ·rw [if_neg hz];clear hx hs;generalize l[i]=x at *;generalize m[i]'(by omega)=y at *;obtain⟨x1,x2,x3,x4⟩:=x;obtain⟨y1,y2,y3,y4⟩:=y;simp only at *;generalize Qt.cmp _ _=z at *;(focus (refine wkad (w_10 e0 e1 e2 e11 e12 e13 hlm hmm g1 g2) (w_1 cc) w_t ?_;(repeat' first|exact w_t|apply w_l);all_goals intros));all_goals exact gL
  ·have hil:i=l.length:=by omega
   subst hil;rw [hx,List.drop_of_length_le (Nat.le_refl _),List.drop_of_length_le (by omega)];show _;clear hgl hgm hx;(focus (refine wkad (w_8 e0 e1 e2 e11 e12 e13 hlm hmm) w_t w_t ?_;(repeat' first|exact w_t|apply w_l);all_goals intros));all_goals (all_goals (try simp (disch:=omega) only [go_sem,lexL,decide_eq_true,decide_eq_false,if_pos,if_neg,Int.reduceAdd,Int.reduceSub,Int.reduceToNat,Int.zero_add]));(all_goals first|done|rfl|(congr 2;first|done|omega|(rw [Bool.eq_iff_iff];simp only [bool_to_prop,Bool.false_eq_true,iff_true,true_iff,iff_false,false_iff];omega))|skip)
 ·exact⟨Nat.zero_le _,rfl,by exact gC,by exact gC,by exact gC,by exact gC,by exact gW hlm,by exact gC⟩
theorem exCmpP (l m:List Qt) (hl:l.length≤1000000) (hm:m.length≤1000000):Pure Tryz.prog 80 [qsA l,qsA m] (iv (ordQ l m)):=by
 have hlm:(l.map Qt.av).length=l.length:=List.length_map ..;have hmm:(m.map Qt.av).length=m.length:=List.length_map ..;unfold ordQ ordL;by_cases h1:l.length < m.length
 ·rw [if_pos h1];show Pure _ _ [.sl 4 (l.map Qt.av),.sl 4 (m.map Qt.av)] _;generalize l.map Qt.av=A at *;generalize m.map Qt.av=B at *;refine Zaa (tok:=0) Tryz.func80 rfl Tryz.ntmps80 Tryz.results80 Tryz.call80 (by rfl) (by simp) ?_;(focus (refine wkad (w_2 hlm hmm) w_t w_t ?_;(repeat' first|exact w_t|apply w_l);all_goals intros));all_goals exact gL
 ·by_cases h2:m.length < l.length
  ·rw [if_neg h1,if_pos h2];show Pure _ _ [.sl 4 (l.map Qt.av),.sl 4 (m.map Qt.av)] _;generalize l.map Qt.av=A at *;generalize m.map Qt.av=B at *;refine Zaa (tok:=0) Tryz.func80 rfl Tryz.ntmps80 Tryz.results80 Tryz.call80 (by rfl) (by simp) ?_;(focus (refine wkad (w_2 hlm hmm) w_t w_t ?_;(repeat' first|exact w_t|apply w_l);all_goals intros));all_goals exact gL
  ·rw [if_neg h1,if_neg h2];have cc:=slCmpQ l m hl (by omega);show Pure _ _ [.sl 4 (l.map Qt.av),.sl 4 (m.map Qt.av)] _;generalize lexL Qt.cmp l m=z at *;have cc:Pure Tryz.prog 156 [.sl 4 (l.map Qt.av),.sl 4 (m.map Qt.av),.fn 73 []] (iv z):=cc;generalize l.map Qt.av=A at *;generalize m.map Qt.av=B at *;refine Zaa (tok:=0) Tryz.func80 rfl Tryz.ntmps80 Tryz.results80 Tryz.call80 (by rfl) (by simp) ?_;(focus (refine wkad (w_2 hlm hmm) (w_1 cc) w_t ?_;(repeat' first|exact w_t|apply w_l);all_goals intros));all_goals exact gL
theorem exCmpT (s t:Rat × List Qt) (hl:s.2.length≤1000000) (hm:t.2.length≤1000000):Pure Tryz.prog 152 [qtA s,qtA t] (iv (ordT s t)):=by
 have cc:=exCmpP s.2 t.2 hl hm;obtain⟨a,l⟩:=s;obtain⟨b,m⟩:=t;simp only at *;show Pure _ _ [.agg [.v (.bool (decide (a.num < 0))),lim (toL a.num.natAbs),lim (toL a.den),.sl 4 (l.map Qt.av)],.agg [.v (.bool (decide (b.num < 0))),lim (toL b.num.natAbs),lim (toL b.den),.sl 4 (m.map Qt.av)]] (iv (ordQ l m));have cc:Pure Tryz.prog 80 [.sl 4 (l.map Qt.av),.sl 4 (m.map Qt.av)] (iv (ordQ l m)):=cc;generalize ordQ l m=z at *;generalize l.map Qt.av=A at *;generalize m.map Qt.av=B at *;generalize toL a.num.natAbs=a1 at *;generalize toL a.den=a2 at *;generalize toL b.num.natAbs=b1 at *;generalize toL b.den=b2 at *
 refine Zaa (tok:=0) Tryz.func152 rfl Tryz.ntmps152 Tryz.results152 Tryz.call152 (by rfl) (by simp) ?_;(focus (refine wkad w_t (w_1 cc) w_t ?_;(repeat' first|exact w_t|apply w_l);all_goals intros));all_goals exact gL
theorem Zpc (l m:List Qt) (hl:l.length≤1000000) (hm:m.length≤1000000):Pure Tryz.prog 68 [qsA l,qsA m] (iv (ordQ l m)):=by
 have hlm:(l.map Qt.av).length=l.length:=List.length_map ..;have hmm:(m.map Qt.av).length=m.length:=List.length_map ..;have hgl:∀j (h:j < l.length),(l.map Qt.av).getD j .u=Qt.av l[j]:=λj h=>Za0 Qt.av h;have hgm:∀j (h:j < m.length),(m.map Qt.av).getD j .u=Qt.av m[j]:=λj h=>Za0 Qt.av h;unfold ordQ ordL;show Pure _ _ [.sl 4 (l.map Qt.av),.sl 4 (m.map Qt.av)] _;by_cases h1:l.length < m.length
 ·rw [if_pos h1];clear hgl hgm;generalize l.map Qt.av=A at *;generalize m.map Qt.av=B at *;refine Zaa (tok:=0) Tryz.func68 rfl Tryz.ntmps68 Tryz.results68 Tryz.call68 (by rfl) (by simp) ?_;(focus (refine wkad (w_2 hlm hmm) w_t w_t ?_;(repeat' first|exact w_t|apply w_l);all_goals intros));all_goals exact gL
 ·by_cases h2:m.length < l.length
  ·rw [if_neg h1,if_pos h2];clear hgl hgm;generalize l.map Qt.av=A at *;generalize m.map Qt.av=B at *;refine Zaa (tok:=0) Tryz.func68 rfl Tryz.ntmps68 Tryz.results68 Tryz.call68 (by rfl) (by simp) ?_;(focus (refine wkad (w_2 hlm hmm) w_t w_t ?_;(repeat' first|exact w_t|apply w_l);all_goals intros));all_goals exact gL
  ·rw [if_neg h1,if_neg h2];have he:m.length=l.length:=by omega
   rw [he] at hmm;generalize l.map Qt.av=A at *;generalize m.map Qt.av=B at *;refine Zaa (tok:=0) Tryz.func68 rfl Tryz.ntmps68 Tryz.results68 Tryz.call68 (by rfl) (by simp) ?_;(focus (refine wkad (w_2 hlm hmm) w_t w_t ?_;(repeat' first|exact w_t|apply w_l);all_goals intros));refine Zad (ι:=Nat) (λi e _=>i≤l.length∧lexL Qt.cmp l m=lexL Qt.cmp (l.drop i) (m.drop i)∧e 0=.sl 4 A∧e 1=.sl 4 B∧e 5=iv i) (λi=>l.length - i) 0 (by rfl) ?_ ?_
   ·rintro i e m' ⟨hi,hx,e0,e1,e5⟩
    by_cases hlt:i < l.length
    ·have g1:=hgl i hlt;have g2:=hgm i (by omega);have hs:=Zv6 (cmp:=Qt.cmp) hlt (show i < m.length by omega);have cc:=Zpg l[i].k l[i].a l[i].b l[i].c (m[i]'(by omega)).k (m[i]'(by omega)).a (m[i]'(by omega)).b (m[i]'(by omega)).c;rw [hx,hs];clear hgl hgm;by_cases hz:Qt.cmp l[i] (m[i]'(by omega))=0
     ·rw [if_pos hz];have hx2:lexL Qt.cmp l m=lexL Qt.cmp (l.drop (i+1)) (m.drop (i+1)):=by rw [hx,hs,if_pos hz]
      clear hx hs;rw [←hx2];generalize l[i]=x at *;generalize m[i]'(by omega)=y at *;obtain⟨x1,x2,x3,x4⟩:=x;obtain⟨y1,y2,y3,y4⟩:=y;simp only at *;rw [hz] at cc;(focus (refine wkad (w_7 e0 e1 e5 hlm hmm g1 g2) (w_1 cc) (w_1 (w_d 8 [(8,iv 0)] [] [])) ?_;(repeat' first|exact w_t|apply w_l);all_goals intros));exact⟨i+1,⟨by omega,hx2,by exact gW e0,by exact gW e1,by exact gS⟩,by omega⟩
     ·rw [if_neg hz];clear hx hs;generalize l[i]=x at *;generalize m[i]'(by omega)=y at *;obtain⟨x1,x2,x3,x4⟩:=x;obtain⟨y1,y2,y3,y4⟩:=y;simp only at *;generalize Qt.cmp _ _=z at *;(focus (refine wkad (w_7 e0 e1 e5 hlm hmm g1 g2) (w_1 cc) (w_1 (w_d 8 [(8,iv z)] [] [])) ?_;(repeat' first|exact w_t|apply w_l);all_goals intros));all_goals exact gL
    ·have hil:i=l.length:=by omega
     subst hil;rw [hx,List.drop_of_length_le (Nat.le_refl _),List.drop_of_length_le (by omega)];clear hgl hgm hx;(focus (refine wkad (w_5 e0 e1 e5 hlm hmm) w_t w_t ?_;(repeat' first|exact w_t|apply w_l);all_goals intros));all_goals (all_goals (try simp (disch:=omega) only [go_sem,lexL,decide_eq_true,decide_eq_false,if_pos,if_neg,Int.reduceAdd,Int.reduceSub,Int.reduceToNat,Int.zero_add]));(all_goals first|done|rfl|(congr 2;first|done|omega|(rw [Bool.eq_iff_iff];simp only [bool_to_prop,Bool.false_eq_true,iff_true,true_iff,iff_false,false_iff];omega))|skip)
   ·exact⟨Nat.zero_le _,rfl,by exact gC,by exact gC,by exact gC⟩
end Go.Proofs.YtjekhacnoopdpaaGreatDoor
namespace Go.Proofs.YtjekhacnoopdpaaGreatDoor
open Go Go.RowKit Go.Pg
attribute [-bool_to_prop] Bool.and_eq_decide Bool.or_eq_decide Bool.decide_beq_decide decide_eq_decide
def expOk (x:Int):Bool:=!decide (x < 0) && !decide (1048576 < x)
def rightB (l:List Int):Bool:=decide (l.length≤64) && !(l.getLast?.getD 1 == 0) && l.all expOk
attribute [local go_sem] Tryz.underlying221 Tryz.underlying3 sz3 by3 z3
def Sm (l:List Int):Prop:=l.length≤1000∧∀j,0≤gI l j∧gI l j≤16777216
def sumT (l:List Int):Nat→Int
 | 0=>0
 | k+1=>sumT l k+gI l k
def expI (l:List Int) (v:Int):Int:=if v < 0 then 0 else gI l v.toNat
theorem toNat_lt {l:List Int} {v:Int} (h0:0≤v) (h:v < l.length):v.toNat < l.length:=by omega
def sgn (n:Int):Int:=if n < 0 then -1 else if 0 < n then 1 else 0
attribute [local go_sem] Tryz.underlying130
def trimN (l:List Int):Nat→Nat
 | 0=>0
 | n+1=>if gI l n=0 then trimN l n else n+1
def trimI (l:List Int):List Int:=l.take (trimN l l.length)
def zipI (F:Int→Int→Int) (a b:List Int):List Int:=(List.range (max a.length b.length)).map λi=>F (gI a i) (gI b i)
def upto (n k:Nat) (F:Nat→Int):List AV:=(List.range n).map λi=>AV.v (.int .i64 (if i < k then F i else 0))
def Wd (l:List Int):Prop:=l.length≤1000∧∀j,-4503599627370496≤gI l j∧gI l j≤4503599627370496
theorem Sm.wd {l:List Int} (h:Sm l):Wd l:=⟨h.1,λj=>by have:=h.2 j;omega⟩
def divI (a b:List Int):Bool:=(List.range a.length).all λi=>decide (gI a i≤gI b i)
def copI (a b:List Int):Bool:=(List.range a.length).all λi=>decide (gI a i=0∨gI b i=0)
def outL (F:Nat→Int) (k:Nat):List AV:=(List.range k).map λi=>AV.v (.int .i64 (F i))
def quoI (a b:List Int):List Int:=if divI b a=true then trimI (zipI (· - ·) a b) else []
def quoR (a b:List Int):List Int:=if divI b a=true then trimI ((List.range a.length).map λi=>gI a i - gI b i) else []
section
attribute [local go_sem] Tryz.underlying4
theorem sz23:szOf Tryz.prog 221=some 1:=by kernel_rfl
attribute [local go_sem] sz23
def normI (l:List Int):List Int:=if rightB (trimI l)=true then trimI l else []
def lt1 (x y:Int):Int:=if x < y then -1 else 1
def lexC (a b:List Int):Nat→Int
 | 0=>0
 | n+1=>if gI a n=gI b n then lexC a b n else lt1 (gI a n) (gI b n)
def cmpI (a b:List Int) (o:Int):Int :=
 if o=1∧sumT a a.length≠sumT b b.length then lt1 (sumT a a.length) (sumT b b.length) else lexC a b (max a.length b.length)
end
attribute [local go_sem] Tryz.underlying4 sz23
def low (x:Int):Bool:=!decide (262144 < x)
def rightL (ls:List (List Int)):Bool:=ls.all λl=>rightB l && l.all low
def gLs (ls:List (List Int)) (k:Nat):List Int:=ls.getD k []
end Go.Proofs.YtjekhacnoopdpaaGreatDoor
namespace Go.Proofs.YtjekhacnoopdpaaGreatDoor
open Go Go.RowKit Go.Pg
def Can (l:List Int):Prop:=(∀j,0≤gI l j)∧(l.length=0∨gI l (l.length - 1)≠0)
def LTm (a b:List Int):Prop:=∃k,gI a k < gI b k∧∀j,k < j→gI a j=gI b j
def ltM (a b:List Int):Prop:=lexC a b (max a.length b.length)=-1
instance:DecidableRel ltM:=λa b=>inferInstanceAs (Decidable (lexC a b (max a.length b.length)=-1))
theorem Zv7 {a b:List Int}:∀n,lexC a b n=-1↔∃k,k < n∧gI a k < gI b k∧∀j,k < j→j < n→gI a j=gI b j
 | 0=>by
   constructor
   ·intro h;exact absurd h (by show ¬(0:Int)=-1;omega)
   ·rintro ⟨k,h,_⟩;omega
 | n+1=>by
   unfold lexC;by_cases h:gI a n=gI b n
   ·rw [if_pos h,Zv7 n];constructor
    ·rintro ⟨k,h1,h2,h3⟩
     exact⟨k,by omega,h2,λj h4 h5=>by by_cases hj:j=n;subst hj;exact h;exact h3 j h4 (by omega)⟩
    ·rintro ⟨k,h1,h2,h3⟩
     have:k≠n:=by rintro rfl;omega
     exact⟨k,by omega,h2,λj h4 h5=>h3 j h4 (by omega)⟩
   ·rw [if_neg h];unfold lt1;constructor
    ·intro h1;by_cases h2:gI a n < gI b n
     ·exact⟨n,by omega,h2,λj h3 h4=>by omega⟩
     ·rw [if_neg h2] at h1;omega
    ·rintro ⟨k,h1,h2,h3⟩
     by_cases hk:k=n
     ·subst hk;rw [if_pos h2]
     ·exact absurd (h3 n (by omega) (by omega)) h
theorem Zib {a b:List Int}:ltM a b↔LTm a b:=by
 unfold ltM LTm;rw [Zv7];constructor
 ·rintro ⟨k,h1,h2,h3⟩
  refine⟨k,h2,λj h4=>?_⟩;by_cases hj:j < max a.length b.length
  ·exact h3 j h4 hj
  ·rw [Ze9 (by omega),Ze9 (by omega)]
 ·rintro ⟨k,h2,h3⟩
  refine⟨k,?_,h2,λj h4 _=>h3 j h4⟩;by_cases hk:k < max a.length b.length
  ·exact hk
  ·rw [Ze9 (by omega),Ze9 (by omega)] at h2;omega
theorem Zku {a b:List Int}:∀n,lexC a b n=0∧(∀j,j < n→gI a j=gI b j)∨lexC a b n=-1∨lexC a b n=1
 | 0=>.inl ⟨rfl,λj h=>by omega⟩
 | n+1=>by
   unfold lexC;by_cases h:gI a n=gI b n
   ·rw [if_pos h];rcases @Zku a b n with⟨h1,h2⟩ | h1
    ·exact .inl ⟨h1,λj hj=>by by_cases e:j=n;subst e;exact h;exact h2 j (by omega)⟩
    ·exact .inr h1
   ·rw [if_neg h];unfold lt1;split
    ·exact .inr (.inl rfl)
    ·exact .inr (.inr rfl)
theorem Zrp {a b:List Int}:∀n,lexC b a n=- lexC a b n
 | 0=>rfl
 | n+1=>by
   unfold lexC;by_cases h:gI a n=gI b n
   ·rw [if_pos h,if_pos h.symm,Zrp n]
   ·rw [if_neg h,if_neg (λe=>h e.symm)];unfold lt1;by_cases h1:gI a n < gI b n
    ·rw [if_pos h1,if_neg (by omega)];rfl
    ·rw [if_neg h1,if_pos (by omega)]
theorem can_ext {a b:List Int} (ha:Can a) (hb:Can b) (h:∀j,gI a j=gI b j):a=b:=by
 have hl:a.length=b.length:=by
  have h1:=h (a.length - 1);have h2:=h (b.length - 1);rcases Nat.lt_trichotomy a.length b.length with hl | hl | hl
  ·rcases hb.2 with hb0 | hb0
   ·omega
   ·rw [←h2,Ze9 (by omega)] at hb0;exact absurd rfl hb0
  ·exact hl
  ·rcases ha.2 with ha0 | ha0
   ·omega
   ·rw [h1,Ze9 (by omega)] at ha0;exact absurd rfl ha0
 refine List.ext_getElem hl λj h1 h2=>?_;have:=h j
 rwa [gI_at h1,gI_at h2] at this
theorem ordM:Go.Pol.KO Can ltM where
 irr x h:=by obtain⟨k,h1,_⟩:=Zib.1 h;omega
 tr x y z h g:=by
  obtain⟨k,h1,h2⟩:=Zib.1 h;obtain⟨i,g1,g2⟩:=Zib.1 g;rw [Zib];rcases Nat.lt_trichotomy k i with h3 | h3 | h3
  ·exact⟨i,by rw [h2 i h3];exact g1,λj hj=>by rw [h2 j (by omega),g2 j hj]⟩
  ·subst h3;exact⟨k,by omega,λj hj=>by rw [h2 j hj,g2 j hj]⟩
  ·exact⟨k,by rw [←g2 k h3];exact h1,λj hj=>by rw [h2 j hj,g2 j (by omega)]⟩
 tri x y hx hy:=by
  rcases @Zku x y (max x.length y.length) with⟨_,h⟩ | h | h
  ·refine .inr (.inl (can_ext hx hy λj=>?_));by_cases hj:j < max x.length y.length
   ·exact h j hj
   ·rw [Ze9 (by omega),Ze9 (by omega)]
  ·exact .inl h
  ·refine .inr (.inr ?_);unfold ltM;rw [Nat.max_comm,Zrp,h]
theorem Zj1 (F:Int→Int→Int) (h0:F 0 0=0) (a b:List Int) (j:Nat):gI (zipI F a b) j=F (gI a j) (gI b j):=by
 by_cases h:j < max a.length b.length
 ·rw [gI_at (by unfold zipI;simpa using h)];unfold zipI;simp only [List.getElem_map,List.getElem_range]
 ·rw [Ze9 (by unfold zipI;simp only [List.length_map,List.length_range];omega),Ze9 (by omega),Ze9 (by omega),h0]
abbrev mulM (a b:List Int):List Int:=zipI (·+·) a b
theorem Zrk (a b:List Int):(mulM a b).length=max a.length b.length:=by simp [mulM,zipI]
theorem mulK:Go.Pol.KM Can ltM mulM where
 comm x y:=by
  unfold mulM zipI;rw [Nat.max_comm];exact List.map_congr_left λi _=>Int.add_comm _ _
 dom x y hx hy:=by
  refine⟨λj=>by rw [Zj1 _ rfl];have:=hx.1 j;have:=hy.1 j;omega,?_⟩;rw [Zrk,Zj1 _ rfl];have a1:=hx.1 (max x.length y.length - 1);have b1:=hy.1 (max x.length y.length - 1);rcases Nat.le_total x.length y.length with h | h
  ·rw [Nat.max_eq_right h] at *;rcases hy.2 with h1 | h1
   ·exact .inl h1
   ·exact .inr (by omega)
  ·rw [Nat.max_eq_left h] at *;rcases hx.2 with h1 | h1
   ·exact .inl h1
   ·exact .inr (by omega)
 mono x y z _ _ _ h:=by
  obtain⟨k,h1,h2⟩:=Zib.1 h;rw [Zib];exact⟨k,by rw [Zj1 _ rfl,Zj1 _ rfl];omega,λj hj=>by rw [Zj1 _ rfl,Zj1 _ rfl,h2 j hj]⟩
def mvN (v:Nat→Rat) (m:List Int):Nat→Rat
 | 0=>1
 | n+1=>mvN v m n*v n ^ (gI m n).toNat
def mv (v:Nat→Rat) (m:List Int):Rat:=mvN v m m.length
end Go.Proofs.YtjekhacnoopdpaaGreatDoor
namespace Go.Pol
def evl {α:Type} (φ:α→Rat):List (Rat × α)→Rat
 | []=>0
 | t :: p=>t.1*φ t.2+evl φ p
theorem Zws {α:Type} (φ:α→Rat) (p q:List (Rat × α)):evl φ (p++q)=evl φ p+evl φ q:=by
 induction p with
 | nil=>show evl φ q=0+evl φ q;rw [Rat.zero_add]
 | cons t p ih=>show _+evl φ (p++q)=(_+evl φ p)+evl φ q;rw [ih,Rat.add_assoc]
section
variable {α:Type} {D:α→Prop} {lt:α→α→Prop} [DecidableRel lt]
theorem Zrz (o:KO D lt) (φ:α→Rat) {p q:List (Rat × α)} (hp:∀t∈p,D t.2) (hq:∀t∈q,D t.2):evl φ (addP lt p q)=evl φ p+evl φ q:=by
 fun_induction addP lt p q with
 | case1 q=>show evl φ q=0+evl φ q;rw [Rat.zero_add]
 | case2 s p=>show evl φ (s :: p)=evl φ (s :: p)+0;rw [Rat.add_zero]
 | case3 s p u q h1 ih =>
   have:=ih (λt h=>hp t (.tail _ h)) hq;simp only [evl] at this ⊢;rw [this];grind
 | case4 s p u q h1 h2 ih =>
   have:=ih hp (λt h=>hq t (.tail _ h));simp only [evl] at this ⊢;rw [this];grind
 | case5 s p u q h1 h2 h3 ih =>
   have e:s.2=u.2:=by rcases o.tri s.2 u.2 (hp s (.head _)) (hq u (.head _)) with h | h | h;exact absurd h h2;exact h;exact absurd h h1
   have:=ih (λt h=>hp t (.tail _ h)) (λt h=>hq t (.tail _ h));simp only [evl] at this ⊢;have e2:s.1*φ s.2+u.1*φ u.2=0:=by rw [e,←Rat.add_mul,h3,Rat.zero_mul]
   rw [this];grind
 | case6 s p u q h1 h2 h3 ih =>
   have e:s.2=u.2:=by rcases o.tri s.2 u.2 (hp s (.head _)) (hq u (.head _)) with h | h | h;exact absurd h h2;exact h;exact absurd h h1
   have:=ih (λt h=>hp t (.tail _ h)) (λt h=>hq t (.tail _ h));simp only [evl] at this ⊢;rw [this,e];grind
end
section
variable {α:Type} {D:α→Prop} {lt:α→α→Prop}
def Zc6 (a:Rat) (p:List (Rat × α)):List (Rat × α):=p.map λs=>(s.1*a,s.2)
theorem Znc {a:Rat} {p:List (Rat × α)} (hp:Srt D lt p) (h:a≠0):Srt D lt (Zc6 a p):=by
 refine⟨λu hu=>?_,List.pairwise_map.2 hp.2⟩;obtain⟨s,hs,rfl⟩:=List.mem_map.1 hu;have:=hp.1 s hs;exact⟨by show s.1*a≠0;intro h0;rcases Rat.mul_eq_zero.1 h0 with h1 | h1;exact this.1 h1;exact h h1,this.2⟩
end
section
variable {α:Type} [DecidableEq α]
end
end Go.Pol
