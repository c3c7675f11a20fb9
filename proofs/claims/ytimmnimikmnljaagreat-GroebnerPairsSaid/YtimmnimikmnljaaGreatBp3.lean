/- Contracts of the functions that the law reaches, and the rules by which they are walked. They say what a call hands back for every input within the bounds that each names; no other condition. -/
import Derived.Test.YtimmnimikmnljaaGreatBp2
import Derived.Scope
set_option linter.unusedSimpArgs false
set_option linter.unusedVariables false
set_option maxRecDepth 20000
set_option maxHeartbeats 16000000
namespace Go.Proofs.YtimmnimikmnljaaGreat
open Go Go.RowKit Go.Pg
attribute [-bool_to_prop] Bool.and_eq_decide Bool.or_eq_decide Bool.decide_beq_decide decide_eq_decide
attribute [local go_sem] Tryz.underlying40 Tryz.underlying3 Tryz.underlying104 Tryz.underlying161 Tryz.underlying115 Tryz.underlying21 Tryz.underlying5 sz3 by3 z3 szL byL zL
theorem natRight (a:List Nat) (n:Nat) (ha:a.length≤1000000000) (la:Lm a) (hn:n≤1048576):Pure Tryz.prog 190 [lim a,.v (.int .i64 (n:Int))] (lim (toL (nv a/2 ^ n))):=by
 have hns:n=16*(n/16)+n%16:=by omega
 have q1:(n:Int).tdiv 16=((n/16:Nat):Int):=Zdu n 16;have q2:(n:Int).tmod 16=((n%16:Nat):Int):=Zea n 16;have hs:n%16 < 16:=Nat.mod_lt _ (by omega);rw [hns,Zqw,Zsg la,←hns];generalize n/16=l at *;generalize n%16=s at *;by_cases hl:a.length≤l
 ·have hz:toL (nv (a.drop l)/2 ^ s)=[]:=by rw [List.drop_eq_nil_of_le hl];simp [nv,Za4]
  rw [slN hz];refine Pure.wk (r:=.v (.slice none 0 0)) ?_ (.nil 1);refine Zaa (tok:=0) (rs:=[.tmp 4]) Tryz.func190 rfl Tryz.ntmps190 Tryz.results190 Tryz.call190 (by rfl) (by simp) ?_;(focus (refine wkvp (w_2 q1 q2) w_t ?_;(repeat' first|exact w_t|apply w_l);all_goals intros));simp (disch:=omega) only [go_sem]
 ·have hc:(a.length:Int) - (l:Int)=((a.length - l:Nat):Int):=by omega
  refine Zaa (tok:=0) (rs:=[.tmp 4]) Tryz.func190 rfl Tryz.ntmps190 Tryz.results190 Tryz.call190 (by rfl) (by simp) ?_;(focus (refine wkvp (w_3 q1 q2 hc) w_t ?_;(repeat' first|exact w_t|apply w_l);all_goals intros));refine Zal (ι:=Nat) (λk e m=>k≤a.length - l∧(e 0=lim a∧e 5=.v (.int .i64 (l:Int))∧e 6=.v (.int .i64 (s:Int))∧e 24=.v (.int .i64 (a.length - l:Nat))∧e 25=.v (.int .i64 (k:Int)))∧∃sv o,(e 7=.own 22 sv∧m 22=some (.row sv 104 1 (u16s o) 0))∧o.length=a.length - l∧Lm o∧nv (o.take k)=(nv (a.drop l)/2 ^ s)%65536 ^ k) (λk=>a.length - l - k) 0 (by rfl) ?_ ?_
  ·rintro k e m ⟨hk,⟨e0,e5,e6,e24,e25⟩,sv,o,⟨e7,em⟩,hol,hLo,hv⟩
   by_cases hlt:k < a.length - l
   ·have ga:=Zbw la (k+l);have gb:=Zbw la (k+l+1)
    have hd:((gN a (k+l)+65536*gN a (k+l+1))/2 ^ s)%65536=(nv (a.drop l)/65536 ^ k/2 ^ s)%65536:=by
     rw [Zsg (la.drop l),List.drop_drop,Zby,Zby a (l+k+1),shr_dig (by omega),Nat.add_comm l k]
    have hst:=shr_step hv hd;have w0:((gN a (k+l)+65536*gN a (k+l+1))/2 ^ s)%65536 < 65536:=Nat.mod_lt _ (by omega);have sh:=λx=>shr_32 (x:=x) (s:=s) (by omega);by_cases hmore:k+l+1 < a.length
    ·(repeat' (first|(with_reducible first|refine stp ?_|apply gx1|apply gx2|apply gx3|apply gx4|apply gx5|apply gx6|apply gx7)|(with_reducible refine Zbi ?_;intro _)|((with_reducible refine gE ?_);(try simp (disch:=omega) only [go_sem,e0,e5,e6,e24,e25,e7,em,hol,Za0,Zbr,Zba,or16_32',sh])<;>first|rfl|omega)|with_reducible refine Zaf (by decide) ?_))
     exact⟨k+1,⟨by omega,by exact gV (And.intro e0 (And.intro e5 (And.intro e6 (And.intro e24 e25)))),sv,_,⟨by exact gW e7,by exact gC⟩,by simpa using hol,hLo.set _ w0,by rw [Zcy (by omega)];exact hst⟩,by omega⟩
    ·have g0:gN a (k+l+1)=0:=Zdy (by omega);simp only [g0,Nat.mul_zero,Nat.add_zero] at hst w0;(focus (refine wkvp (w_12 e0 e5 e6 e24 e25 e7 em hol @Za0 @Zbr @Zba sh) w_t ?_;(repeat' first|exact w_t|apply w_l);all_goals intros));exact⟨k+1,⟨by omega,by exact gV (And.intro e0 (And.intro e5 (And.intro e6 (And.intro e24 e25)))),sv,_,⟨by exact gW e7,by exact gC⟩,by simpa using hol,hLo.set _ w0,by rw [Zcy (by omega)];exact hst⟩,by omega⟩
   ·rw [Zbk (by omega)] at hv;have h5:=Zgq (la.drop l);rw [List.length_drop] at h5;have hk2:k=a.length - l:=by omega
    rw [Nat.mod_eq_of_lt (Nat.lt_of_le_of_lt (Nat.div_le_self _ _) (by rw [hk2];exact h5))] at hv;(focus (refine wkax (w_8 e0 e5 e6 e24 e25 e7 em hol) w_t w_t (w_1 (Za3 o (by omega) hLo)) w_t w_t (w_r 0) ?_;(repeat' first|exact w_t|apply w_l);all_goals intros));simp (disch:=omega) only [go_sem,hv]
  ·exact⟨Nat.zero_le _,by exact gC,_,List.replicate (a.length - l) 0,⟨by exact gC,by exact gC⟩,by simp,Lm.zeros _,by simp [nv,Nat.mod_one]⟩
theorem Zqy (σ:Mem) (K:Nat) (sv:Value) (l:List Nat) (hs:l.length≤1000000000) (hl:Lm l) (hσ:σ K=some (.row sv 104 1 (u16s l) 0)) :
 ACall Tryz.prog 170 [.own K sv] σ λr σ'=>r=.view K sv 1 0 (toL (nv l)).length∧σ'=σ:=by
 refine Zcg (tok:=0) (rs:=[.tmp 2]) Tryz.func170 rfl Tryz.ntmps170 Tryz.results170 Tryz.call170 (by rfl) (by simp) ?_;(focus (refine wkvp (w_1 hσ) w_t ?_;(repeat' first|exact w_t|apply w_l);all_goals intros));refine Zal (ι:=Nat) (λk e m=>k≤l.length∧e 0=.own K sv∧e 3=.v (.int .i64 (k:Int))∧m=σ∧∀j,k≤j→gN l j=0) (λk=>k) l.length (by rfl) ?_ ?_
 ·rintro k e m ⟨hk,e0,e3,rfl,hz⟩
  have gl:=Zbw hl (k - 1);have fin:(k=0∨0 < gN l (k - 1))→k=(toL (nv l)).length:=λh=>by
   rw [←Zje hl hk hz h,List.length_take,Nat.min_eq_left hk]
  by_cases h0:k=0
  ·subst h0;have f:=fin (.inl rfl);(focus (refine wkvp (w_3 e0 e3 hσ) w_t ?_;(repeat' first|exact w_t|apply w_l);all_goals intros));simp (disch:=omega) only [go_sem,←f]
  ·by_cases h1:gN l (k - 1)=0
   ·(focus (refine wkvp (w_3 e0 e3 hσ) w_t ?_;(repeat' first|exact w_t|apply w_l);all_goals intros));exact⟨k - 1,⟨by omega,by exact gW e0,by(simp (disch:=omega) only [go_sem,e3];congr 2;omega),rfl,λj hj=>by
     rcases Nat.lt_or_ge j k with h2 | h2
     ·rw [show j=k - 1 by omega];exact h1
     ·exact hz j h2⟩,by omega⟩
   ·have f:=fin (.inr (by omega));(focus (refine wkvp (w_3 e0 e3 hσ) w_t ?_;(repeat' first|exact w_t|apply w_l);all_goals intros));simp (disch:=omega) only [go_sem,←f,Nat.sub_zero]
 ·exact⟨Nat.le_refl _,by exact gC,by exact gC,rfl,λj hj=>Zdy hj⟩
theorem Zmu (σ:Mem) (a:List Nat) (n:Nat) (ha:a.length≤400000000) (la:Lm a) (hn:n≤1048576) (h0:nv a≠0) :
 ACall Tryz.prog 176 [lim a,.v (.int .i64 (n:Int))] σ λr σ'=>∃sv o,r=.view 44 sv 1 0 (toL (nv a*2 ^ n)).length∧σ'=upd σ 44 (some (.row sv 104 1 (u16s o) 0))∧o.length=(toL (nv a)).length+n/16+1∧Lm o∧nv o=nv a*2 ^ n:=by
 have hns:n=16*(n/16)+n%16:=by omega
 have q1:(n:Int).tdiv 16=((n/16:Nat):Int):=Zdu n 16;have q2:(n:Int).tmod 16=((n%16:Nat):Int):=Zea n 16;have hs:n%16 < 16:=Nat.mod_lt _ (by omega)
 have hnv:nv a*2 ^ n=nv a*2 ^ (n%16)*65536 ^ (n/16):=by
  have:=Zqv (a:=nv a) (l:=n/16) (s:=n%16)
  rwa [←hns] at this
 have h1:=Zax la;have h2:=(Zdr h0).1;have va:=Zas (nv a);have ma:=Zav (nv a);have h16:n/16≤65536:=by omega
 clear hns;generalize hl:n/16=l at *;generalize hss:n%16=s at *;generalize hA:toL (nv a)=A at *;refine Zcg (tok:=0) (rs:=[.tmp 4]) Tryz.func176 rfl Tryz.ntmps176 Tryz.results176 Tryz.call176 (by rfl) (by simp) ?_;(focus (refine wkvp (w_5 q1 q2 hA @Za0 @Zbr) (w_1 (Za3 a (by omega) la)) ?_;(repeat' first|exact w_t|apply w_l);all_goals intros));rw [hA];have e1:((A.length+l:Nat):Int)+3=((A.length+l+3:Nat):Int):=by omega
 (focus (refine wkvp (w_4 hA @Za0 @Zbr e1) w_t ?_;(repeat' first|exact w_t|apply w_l);all_goals intros));refine Zal (ι:=Nat) (λk e m=>k≤A.length∧(e 5=.v (.int .i64 (l:Int))∧e 6=.v (.int .i64 (s:Int))∧e 45=lim A∧e 46=.v (.int .i64 A.length)∧e 47=.v (.int .i64 (k:Int)))∧∃sv o,(e 7=.own 44 sv∧m=upd σ 44 (some (.row sv 104 1 (u16s o) 0)))∧o.length=A.length+l+1∧Lm o∧gN o (k+l) < 2 ^ s∧(∀j,k+l < j→gN o j=0)∧nv o=nv (A.take k)*2 ^ s*65536 ^ l) (λk=>A.length - k) 0 (by rfl) ?_ ?_
 ·rintro k e m ⟨hk,⟨e5,e6,e45,e46,e47⟩,sv,o,⟨e7,rfl⟩,hol,hLo,hg,hz,hv⟩
  by_cases hlt:k < A.length
  ·have gx:=Zbw ma k
   have p16:(2:Nat) ^ s≤32768:=by
    have:(2:Nat) ^ s≤2 ^ 15:=Nat.pow_le_pow_right (by omega) (by omega);omega
   have bx:gN A k*2 ^ s≤65535*32768:=Nat.mul_le_mul (by omega) p16;have sh:=shl_32 (x:=gN A k) (s:=s) (by omega) (by omega);have lo:=low_mul (x:=gN A k) (s:=s) (by omega);have hlo:(gN A k*2 ^ s)%65536 < 65536:=Nat.mod_lt _ (by omega);rw [lo] at hlo;have hor:=or_16 (b:=gN o (k+l)) (by omega) hg hlo;rw [←lo] at hor
   have hhi:gN A k*2 ^ s/65536 < 2 ^ s:=by
    rw [Nat.div_lt_iff_lt_mul (by omega),Nat.mul_comm];exact Nat.mul_lt_mul_of_pos_left gx (Nat.two_pow_pos s)
   have hsum:gN o (k+l)+(gN A k*2 ^ s)%65536 < 65536:=by
    rw [lo];have h5:(gN A k%2 ^ (16 - s)+1)*2 ^ s≤2 ^ (16 - s)*2 ^ s:=Nat.mul_le_mul_right _ (Nat.mod_lt _ (Nat.two_pow_pos _));rw [←Nat.pow_add,Nat.sub_add_cancel (by omega),Nat.add_mul,Nat.one_mul] at h5;omega
   have hcut:gN A k*2 ^ s/65536%65536=gN A k*2 ^ s/65536:=Nat.mod_eq_of_lt (by omega);(focus (refine wkvp (w_14 e5 e6 e45 e46 e47 e7 hol @Za0 @Zbr @Zba sh hor hcut @l_set) w_t ?_;(repeat' first|exact w_t|apply w_l);all_goals intros));refine⟨k+1,⟨by omega,by exact gV (And.intro e5 (And.intro e6 (And.intro e45 (And.intro e46 e47)))),sv,_,⟨by exact gW e7,by(simp (disch:=omega) only [go_sem,Zgw]<;>repeat' first|rfl|refine⟨?_,?_⟩)⟩,by simpa using hol,(hLo.set _ hsum).set _ (by omega),?_,λj hj=>?_,?_⟩,by omega⟩
   ·rw [Ze5 (by simp;omega),if_pos (by omega)];exact hhi
   ·rw [Ze5 (by simp;omega),if_neg (by omega),Ze5 (by omega),if_neg (by omega)];exact hz j (by omega)
   ·have h3:=Zmr (o:=o) (j:=k+l) (by omega) (gN o (k+l)+(gN A k*2 ^ s)%65536);have h4:=Zmr (o:=o.set (k+l) (gN o (k+l)+(gN A k*2 ^ s)%65536)) (j:=k+l+1) (by simp;omega) (gN A k*2 ^ s/65536);rw [Ze5 (by omega),if_neg (by omega),hz (k+l+1) (by omega),Nat.mul_zero,Nat.add_zero] at h4;rw [h4,Zay,Nat.add_mul,Nat.add_mul,←hv]
    have h5:65536 ^ (k+l)*(gN A k*2 ^ s%65536)+65536 ^ (k+l+1)*(gN A k*2 ^ s/65536)=65536 ^ k*gN A k*2 ^ s*65536 ^ l:=by
     rw [Nat.pow_succ,Nat.mul_assoc (65536 ^ (k+l)),←Nat.mul_add,Nat.mod_add_div,Nat.pow_add];simp only [Nat.mul_assoc,Nat.mul_left_comm,Nat.mul_comm]
    rw [Nat.mul_add] at h3;omega
  ·have hkA:k=A.length:=by omega
   subst hkA;rw [Zbk (Nat.le_refl _),va,←hnv] at hv;have ct:=Zqy (upd σ 44 (some (.row sv 104 1 (u16s o) 0))) 44 sv o (by omega) hLo (by simp only [Zaz,if_true]);rw [hv] at ct
   (repeat' (first|(with_reducible first|refine stp ?_|apply gx1|apply gx2|apply gx3|apply gx4|apply gx5|apply gx6|apply gx7|refine Zhf (ct) ?_)|(with_reducible refine Zbi ?_;intro _)|((with_reducible refine gE ?_);(try simp (disch:=omega) only [go_sem,e5,e6,e45,e46,e47,e7])<;>first|rfl|omega)|with_reducible refine Zaf (by decide) ?_))
   simp (disch:=omega) only [go_sem];exact⟨sv,o,rfl,rfl,hol,hLo,hv⟩
 ·refine⟨Nat.zero_le _,by exact gC,_,List.replicate (A.length+l+1) 0,⟨by exact gC,by exact gC⟩,by simp,Lm.zeros _,?_,λj _=>Zgk _ _,by simp [nv,Zlf]⟩;rw [Zgk];exact Nat.two_pow_pos s
theorem natShl (a:List Nat) (n:Nat) (ha:a.length≤400000000) (la:Lm a) (hn:n≤1048576):Pure Tryz.prog 176 [lim a,.v (.int .i64 (n:Int))] (lim (toL (nv a*2 ^ n))):=by
 by_cases h0:nv a=0
 ·have h2:=Zbn.2 h0;rw [slN (show toL (nv a*2 ^ n)=[] by rw [h0,Nat.zero_mul,Za4])];refine Pure.wk (r:=.v (.slice none 0 0)) ?_ (.nil 1);refine Zaa (tok:=0) (rs:=[.tmp 4]) Tryz.func176 rfl Tryz.ntmps176 Tryz.results176 Tryz.call176 (by rfl) (by simp) ?_;(focus (refine wkvp (w_1 h2) (w_1 (Za3 a (by omega) la)) ?_;(repeat' first|exact w_t|apply w_l);all_goals intros));simp (disch:=omega) only [go_sem]
 ·refine Zk7 (Zmu Zan a n ha la hn h0) λr σ' ⟨sv,o,hr,hσ,hol,hLo,hv⟩=>?_;subst hr;subst hσ;have hlen:=Zax hLo;rw [hv] at hlen;refine⟨by simp (disch:=omega) only [go_sem],?_⟩;simp (disch:=omega) only [go_sem,Nat.zero_add];obtain⟨k,h1,h2⟩:=Zky hLo;rw [hv] at h2;have h3:k=(toL (nv a*2 ^ n)).length:=by rw [←h2,List.length_take];omega
  rw [←h3,h2]
theorem natShr (a:List Nat) (n:Nat) (ha:a.length≤400000000) (la:Lm a) (h0:0 < n) (hn:n≤1048576):Pure Tryz.prog 176 [lim a,.v (.int .i64 (-(n:Int)))] (lim (toL (nv a/2 ^ n))):=by
 by_cases hz:nv a=0
 ·have h2:=Zbn.2 hz;rw [slN (show toL (nv a/2 ^ n)=[] by rw [hz,Nat.zero_div,Za4])];refine Pure.wk (r:=.v (.slice none 0 0)) ?_ (.nil 1);refine Zaa (tok:=0) (rs:=[.tmp 4]) Tryz.func176 rfl Tryz.ntmps176 Tryz.results176 Tryz.call176 (by rfl) (by simp) ?_;(focus (refine wkvp (w_1 h2) (w_1 (Za3 a (by omega) la)) ?_;(repeat' first|exact w_t|apply w_l);all_goals intros));simp (disch:=omega) only [go_sem]
 ·have h2:=(Zdr hz).1;have h1:=Zax la;have hr:=natRight (toL (nv a)) n (by omega) (Zav _) hn;rw [Zas] at hr;have w:(0:Int) - -(n:Int)=(n:Int):=by omega
  refine Zaa (tok:=0) (rs:=[.tmp 4]) Tryz.func176 rfl Tryz.ntmps176 Tryz.results176 Tryz.call176 (by rfl) (by simp) ?_;(focus (refine wkvp (w_1 w) (w_2 (Za3 a (by omega) la) hr) ?_;(repeat' first|exact w_t|apply w_l);all_goals intros));simp (disch:=omega) only [go_sem]
theorem Zog (σ:Mem) (K:Nat) (sv:Value) (pre w post v:List Nat) (d:Nat) (hσ:σ K=some (.row sv 104 1 (u16s (pre++(w++post))) 0)) (hwv:w.length=v.length+1) (hsz:(pre++(w++post)).length≤1000000000) (lw:Lm w) (lv:Lm v) (hd:d < 65536) :
 ACall Tryz.prog 192 [.view K sv 1 pre.length w.length,lim v,.v (.int .u32 (d:Int))] σ λr σ'=>∃(w':List Nat) (b:Nat),r=.v (.bool (decide (0 < (b:Int))))∧σ'=upd σ K (some (.row sv 104 1 (u16s (pre++(w'++post))) 0))∧w'.length=w.length∧Lm w'∧b≤1∧nv w'+d*nv v=nv w+65536 ^ w.length*b:=by
 have hsz2:pre.length+(w.length+post.length)≤1000000000:=by simpa using hsz
 refine Zcg (tok:=0) (rs:=[.tmp 6]) Tryz.func192 rfl Tryz.ntmps192 Tryz.results192 Tryz.call192 (by rfl) (by simp) ?_;(focus (refine wkvp w_t w_t ?_;(repeat' first|exact w_t|apply w_l);all_goals intros));refine Zal (ι:=Nat) (λk e m=>k≤w.length∧(e 0=.view K sv 1 pre.length w.length∧e 1=lim v∧e 2=.v (.int .u32 (d:Int))∧e 12=.v (.int .i64 w.length)∧e 13=.v (.int .i64 (k:Int)))∧∃w' c r,(e 7=.v (.int .u32 (c:Nat))∧e 8=.v (.int .i32 (r:Nat))∧m=upd σ K (some (.row sv 104 1 (u16s (pre++(w'++post))) 0)))∧w'.length=w.length∧Lm w'∧c < 65536∧(v.length < k→c=0)∧r≤1∧(∀j,k≤j→gN w' j=gN w j)∧nv (w'.take k)+d*nv (v.take k)=nv (w.take k)+65536 ^ k*(c+r)) (λk=>w.length - k) 0 (by rfl) ?_ ?_
 ·rintro k e m ⟨hk,⟨e0,e1,e2,e12,e13⟩,w',c,r,⟨e7,e8,rfl⟩,hwl,hLw,hc,hcz,hr,hsame,hv⟩
  by_cases hlt:k < w.length
  ·have gw:=Zbw lw k;have gv:=Zbw lv k;have hgw:=hsame k (Nat.le_refl _);have mid:=gN_mid (pre:=pre) (post:=post) (show k < w'.length by omega);have smid:=λx=>Zrp (pre:=pre) (post:=post) (show k < w'.length by omega) x;have hln:(pre++(w'++post)).length=pre.length+(w'.length+post.length):=by simp
   have bd:=Zmw hd gv;have step:∀(x r' c1:Nat),c1=c+d*gN v k→x+c1%65536+r=gN w k+65536*r'→x < 65536→r'≤1 →
    (w'.set k x).length=w.length∧Lm (w'.set k x)∧c1/65536 < 65536∧(v.length < k+1→c1/65536=0)∧r'≤1∧(∀j,k+1≤j→gN (w'.set k x) j=gN w j)∧nv ((w'.set k x).take (k+1))+d*nv (v.take (k+1))=nv (w.take (k+1))+65536 ^ (k+1)*(c1/65536+r'):=by
    intro x r' c1 h1 h2 h3 h4;have h5:=Zno hv h1 h2;refine⟨by simpa using hwl,hLw.set k h3,by omega,λh6=>?_,h4,λj hj=>?_,?_⟩
    ·have:gN v k=0:=Zdy (by omega);rw [this,Nat.mul_zero] at h1;omega
    ·rw [Ze5 (by omega),if_neg (by omega)];exact hsame j (by omega)
    ·rw [Zcy (by omega),Zay,Zay,Nat.pow_succ];exact h5
   by_cases hkv:k < v.length
   ·generalize hxy:d*gN v k=xy at *;by_cases hneg:gN w k < (c+xy)%65536+r
    ·have hs:=step (gN w k+65536 - (c+xy)%65536 - r) 1 (c+xy) rfl (by omega) (by omega) (by omega);have wv:(gN w k:Int) - ((c+xy)%65536:Nat) - r+65536=((gN w k+65536 - (c+xy)%65536 - r:Nat):Int):=by omega
     have wm:(gN w k+65536 - (c+xy)%65536 - r)%65536=gN w k+65536 - (c+xy)%65536 - r:=Nat.mod_eq_of_lt (by omega);(focus (refine wkvp (w_18 e0 e1 e2 e12 e13 e7 e8 hln hwl mid smid hgw @Za0 @Zec @Zba hxy wv wm) w_t ?_;(repeat' first|exact w_t|apply w_l);all_goals intros));exact⟨k+1,⟨by omega,by exact gV (And.intro e0 (And.intro e1 (And.intro e2 (And.intro e12 e13)))),_,_,1,⟨by exact gC,by exact gC,by(simp (disch:=omega) only [go_sem,Zgw]<;>repeat' first|rfl|refine⟨?_,?_⟩)⟩,hs⟩,by omega⟩
    ·have hs:=step (gN w k - (c+xy)%65536 - r) 0 (c+xy) rfl (by omega) (by omega) (by omega);have wv:(gN w k:Int) - ((c+xy)%65536:Nat) - r=((gN w k - (c+xy)%65536 - r:Nat):Int):=by omega
     have wm:(gN w k - (c+xy)%65536 - r)%65536=gN w k - (c+xy)%65536 - r:=Nat.mod_eq_of_lt (by omega);(focus (refine wkvp (w_18 e0 e1 e2 e12 e13 e7 e8 hln hwl mid smid hgw @Za0 @Zec @Zba hxy wv wm) w_t ?_;(repeat' first|exact w_t|apply w_l);all_goals intros));exact⟨k+1,⟨by omega,by exact gV (And.intro e0 (And.intro e1 (And.intro e2 (And.intro e12 e13)))),_,_,0,⟨by exact gC,by exact gC,by(simp (disch:=omega) only [go_sem,Zgw]<;>repeat' first|rfl|refine⟨?_,?_⟩)⟩,hs⟩,by omega⟩
   ·have g0:gN v k=0:=Zdy (by omega);have hcm:c%65536=c:=Nat.mod_eq_of_lt hc;simp only [g0,Nat.mul_zero,Nat.add_zero] at step;by_cases hneg:gN w k < c+r
    ·have hs:=step (gN w k+65536 - c - r) 1 c rfl (by omega) (by omega) (by omega);have wv:(gN w k:Int) - (c:Nat) - r+65536=((gN w k+65536 - c - r:Nat):Int):=by omega
     have wm:(gN w k+65536 - c - r)%65536=gN w k+65536 - c - r:=Nat.mod_eq_of_lt (by omega);(focus (refine wkvp (w_16 e0 e1 e2 e12 e13 e7 e8 hln hwl mid smid hgw @Zba hcm wv wm) w_t ?_;(repeat' first|exact w_t|apply w_l);all_goals intros));exact⟨k+1,⟨by omega,by exact gV (And.intro e0 (And.intro e1 (And.intro e2 (And.intro e12 e13)))),_,_,1,⟨by exact gC,by exact gC,by(simp (disch:=omega) only [go_sem,Zgw]<;>repeat' first|rfl|refine⟨?_,?_⟩)⟩,hs⟩,by omega⟩
    ·have hs:=step (gN w k - c - r) 0 c rfl (by omega) (by omega) (by omega);have wv:(gN w k:Int) - (c:Nat) - r=((gN w k - c - r:Nat):Int):=by omega
     have wm:(gN w k - c - r)%65536=gN w k - c - r:=Nat.mod_eq_of_lt (by omega);(focus (refine wkvp (w_16 e0 e1 e2 e12 e13 e7 e8 hln hwl mid smid hgw @Zba hcm wv wm) w_t ?_;(repeat' first|exact w_t|apply w_l);all_goals intros));exact⟨k+1,⟨by omega,by exact gV (And.intro e0 (And.intro e1 (And.intro e2 (And.intro e12 e13)))),_,_,0,⟨by exact gC,by exact gC,by(simp (disch:=omega) only [go_sem,Zgw]<;>repeat' first|rfl|refine⟨?_,?_⟩)⟩,hs⟩,by omega⟩
  ·have hkw:k=w.length:=by omega
   subst hkw;have hc0:=hcz (by omega);subst hc0;rw [Zbk (by omega),Zbk (by omega),Zbk (Nat.le_refl _),Nat.zero_add] at hv;(focus (refine wkvp (w_7 e0 e1 e2 e12 e13 e7 e8) w_t ?_;(repeat' first|exact w_t|apply w_l);all_goals intros));simp (disch:=omega) only [go_sem];refine⟨w',r,?_,?_,hwl,hLw,hr,hv⟩<;>rfl
 ·exact⟨Nat.zero_le _,by exact gC,w,0,0,⟨by exact gC,by exact gC,by rw [Zo1 hσ]⟩,rfl,lw,by omega,λ_=>rfl,by omega,λ_ _=>rfl,by simp [nv]⟩
theorem Zqz (σ:Mem) (K:Nat) (sv:Value) (pre w post v:List Nat) (hσ:σ K=some (.row sv 104 1 (u16s (pre++(w++post))) 0)) (hwv:v.length≤w.length) (hsz:(pre++(w++post)).length≤1000000000) (lw:Lm w) (lv:Lm v) :
 ACall Tryz.prog 193 [.view K sv 1 pre.length w.length,lim v] σ λr σ'=>∃(w':List Nat) (c:Nat),r=.tup []∧σ'=upd σ K (some (.row sv 104 1 (u16s (pre++(w'++post))) 0))∧w'.length=w.length∧Lm w'∧c≤1∧nv w'+65536 ^ w.length*c=nv w+nv v:=by
 have hsz2:pre.length+(w.length+post.length)≤1000000000:=by simpa using hsz
 refine Zcg (tok:=0) (rs:=[]) Tryz.func193 rfl Tryz.ntmps193 Tryz.results193 Tryz.call193 (by rfl) (by simp) ?_;(focus (refine wkvp w_t w_t ?_;(repeat' first|exact w_t|apply w_l);all_goals intros));refine Zal (ι:=Nat) (λk e m=>k≤w.length∧(e 0=.view K sv 1 pre.length w.length∧e 1=lim v∧e 7=.v (.int .i64 w.length)∧e 8=.v (.int .i64 (k:Int)))∧∃w' c,(e 4=.v (.int .u32 (c:Nat))∧m=upd σ K (some (.row sv 104 1 (u16s (pre++(w'++post))) 0)))∧w'.length=w.length∧Lm w'∧c≤1∧(∀j,k≤j→gN w' j=gN w j)∧nv (w'.take k)+65536 ^ k*c=nv (w.take k)+nv (v.take k)) (λk=>w.length - k) 0 (by rfl) ?_ ?_
 ·rintro k e m ⟨hk,⟨e0,e1,e7,e8⟩,w',c,⟨e4,rfl⟩,hwl,hLw,hc,hsame,hv⟩
  by_cases hlt:k < w.length
  ·have gw:=Zbw lw k;have gv:=Zbw lv k;have hgw:=hsame k (Nat.le_refl _);have mid:=gN_mid (pre:=pre) (post:=post) (show k < w'.length by omega);have smid:=λx=>Zrp (pre:=pre) (post:=post) (show k < w'.length by omega) x;have hln:(pre++(w'++post)).length=pre.length+(w'.length+post.length):=by simp
   have hs:=Zl3 (x:=gN w k) (y:=gN v k) hv;have w1:(c+gN w k+gN v k)/65536≤1:=by omega
   have w2:(c+gN w k+gN v k)%65536 < 65536:=by omega
   have hsm:∀x j,k+1≤j→gN (w'.set k x) j=gN w j:=λx j hj=>by
    rw [Ze5 (by omega),if_neg (by omega)];exact hsame j (by omega)
   rw [←Zcy (o:=w') (by omega),←Nat.pow_succ,←Zay,←Zay] at hs;by_cases hkv:k < v.length
   ·(focus (refine wkvp (w_12 e0 e1 e7 e8 e4 hln hwl mid smid hgw @Za0 @Zba) w_t ?_;(repeat' first|exact w_t|apply w_l);all_goals intros));exact⟨k+1,⟨by omega,by exact gV (And.intro e0 (And.intro e1 (And.intro e7 e8))),_,_,⟨by exact gC,by(simp (disch:=omega) only [go_sem,Zgw]<;>repeat' first|rfl|refine⟨?_,?_⟩)⟩,by simpa using hwl,hLw.set k w2,w1,hsm _,hs⟩,by omega⟩
   ·have g0:gN v k=0:=Zdy (by omega);simp only [g0,Nat.add_zero] at hs w1 w2;(focus (refine wkvp (w_12 e0 e1 e7 e8 e4 hln hwl mid smid hgw @Za0 @Zba) w_t ?_;(repeat' first|exact w_t|apply w_l);all_goals intros));exact⟨k+1,⟨by omega,by exact gV (And.intro e0 (And.intro e1 (And.intro e7 e8))),_,_,⟨by exact gC,by(simp (disch:=omega) only [go_sem,Zgw]<;>repeat' first|rfl|refine⟨?_,?_⟩)⟩,by simpa using hwl,hLw.set k w2,w1,hsm _,hs⟩,by omega⟩
  ·have hkw:k=w.length:=by omega
   subst hkw;rw [Zbk (by omega),Zbk (Nat.le_refl _),Zbk hwv] at hv;(focus (refine wkvp (w_5 e0 e1 e7 e8 e4) w_t ?_;(repeat' first|exact w_t|apply w_l);all_goals intros));simp (disch:=omega) only [go_sem];refine⟨w',c,?_,hwl,hLw,hc,hv⟩<;>rfl
 ·exact⟨Nat.zero_le _,by exact gC,w,0,⟨by exact gC,by rw [Zo1 hσ]⟩,rfl,lw,by omega,λ_ _=>rfl,by simp [nv]⟩
theorem Zof (σ:Mem) (sv:Value) (g2 g3 g5 g7 g9 g10:Nat) (U post v:List Nat) (d r j:Nat) (h2:σ 2=some (.box g2 40 [.view 44 sv 1 0 U.length] false)) (h3:σ 3=some (.box g3 40 [lim v] false)) (h5:σ 5=some (.box g5 3 [.v (.int .i64 v.length)] false))
 (h7:σ 7=some (.box g7 3 [.v (.int .i64 (j:Int))] false)) (h9:σ 9=some (.box g9 115 [.v (.int .u64 (d:Int))] false)) (h10:σ 10=some (.box g10 115 [.v (.int .u64 (r:Int))] false)) (h44:σ 44=some (.row sv 104 1 (u16s (U++post)) 0))
 (hn:2≤v.length) (hj:j+v.length < U.length) (hsz:U.length+post.length≤1000000000) (lv:Lm v) (lU:Lm U) (hr:r < 65536) :
 ACall Tryz.prog 191 [.pbox 9 g9 0,.pbox 3 g3 0,.pbox 5 g5 0,.pbox 10 g10 0,.pbox 2 g2 0,.pbox 7 g7 0] σ λx σ'=>x=.v (.bool (decide (65536≤d) || decide (r*65536+gN U (j+v.length - 2) < d*gN v (v.length - 2))))∧σ'=σ:=by
 refine Zcg (tok:=0) (rs:=[.tmp 6]) Tryz.func191 rfl Tryz.ntmps191 Tryz.results191 Tryz.call191 (by rfl) (by simp) ?_;by_cases hd:65536≤d
 ·(focus (refine wkvd (w_7 h2 h3 h5 h7 h9 h10 h44) w_t w_t ?_;(repeat' first|exact w_t|apply w_l);all_goals intros));simp (disch:=omega) only [go_sem,decide_eq_true hd]
 ·have gv:=Zbw lv (v.length - 2);have gu:=Zbw lU (j+v.length - 2);have bd:=Zmw (x:=d) (by omega) gv;have e1:(v.length:Int) - 2=((v.length - 2:Nat):Int):=by omega
  have e2:((j+v.length:Nat):Int) - 2=((j+v.length - 2:Nat):Int):=by omega
  have hg:gN (U++post) (j+v.length - 2)=gN U (j+v.length - 2):=Zot (by omega);have hl:(U++post).length=U.length+post.length:=List.length_append;generalize hxy:d*gN v (v.length - 2)=xy at *;by_cases ht:r*65536+gN U (j+v.length - 2) < xy
  ·(focus (refine wkvd (w_15 h2 h3 h5 h7 h9 h10 h44 e1 e2 hg hl @Za0 @Zec hxy @Nat.zero_add) w_t w_t ?_;(repeat' first|exact w_t|apply w_l);all_goals intros));simp (disch:=omega) only [go_sem,decide_eq_true ht]
  ·(focus (refine wkvd (w_15 h2 h3 h5 h7 h9 h10 h44 e1 e2 hg hl @Za0 @Zec hxy @Nat.zero_add) w_t w_t ?_;(repeat' first|exact w_t|apply w_l);all_goals intros));simp (disch:=omega) only [go_sem,decide_eq_false hd,decide_eq_false ht]
attribute [local go_sem] szQ zQ
theorem Zle {P:Program} {t d f:Nat} {args:List AV} {K:St→Prop} {e:Nat→AV} {m:Mem} {R:AV→Mem→Prop} (c:ACall P f args m R) (h:∀r σ',R r σ'→K ⟨upd e d r,σ'⟩):aRes P t (some d) (.call f args) K ⟨e,m⟩:=c.mono h
theorem Zmt {σ:Mem} {K:Nat} {sv:Value} {pre w post v:List Nat} {d i len:Nat} (hi:pre.length=i) (hw:w.length=len) (hσ:σ K=some (.row sv 104 1 (u16s (pre++(w++post))) 0)) (hwv:len=v.length+1) (hsz:(pre++(w++post)).length≤1000000000) (lw:Lm w) (lv:Lm v) (hd:d < 65536) :
 ACall Tryz.prog 192 [.view K sv 1 i len,lim v,.v (.int .u32 (d:Int))] σ λr σ'=>∃(w':List Nat) (b:Nat),r=.v (.bool (decide (0 < (b:Int))))∧σ'=upd σ K (some (.row sv 104 1 (u16s (pre++(w'++post))) 0))∧w'.length=len∧Lm w'∧b≤1∧nv w'+d*nv v=nv w+65536 ^ len*b:=by
 subst hi;subst hw;exact Zog σ K sv pre w post v d hσ hwv hsz lw lv hd
theorem Zoh {σ:Mem} {K:Nat} {sv:Value} {pre w post v:List Nat} {i len:Nat} (hi:pre.length=i) (hw:w.length=len) (hσ:σ K=some (.row sv 104 1 (u16s (pre++(w++post))) 0)) (hwv:v.length≤len) (hsz:(pre++(w++post)).length≤1000000000) (lw:Lm w) (lv:Lm v) :
 ACall Tryz.prog 193 [.view K sv 1 i len,lim v] σ λr σ'=>∃(w':List Nat) (c:Nat),r=.tup []∧σ'=upd σ K (some (.row sv 104 1 (u16s (pre++(w'++post))) 0))∧w'.length=len∧Lm w'∧c≤1∧nv w'+65536 ^ len*c=nv w+nv v:=by
 subst hi;subst hw;exact Zqz σ K sv pre w post v hσ hwv hsz lw lv
structure LongInv (U v q U':List Nat) (k:Nat):Prop where
 ql:q.length=U.length - v.length
 qL:Lm q
 qz:∀j,j < k→gN q j=0
 ul:U'.length=U.length
 uL:Lm U'
 eq:nv U'+nv v*nv (q.drop k)*65536 ^ k=nv U
 lt:nv (U'.drop k) < nv v
theorem LongInv.step {U v q U' w'':List Nat} {j n:Nat} (h:LongInv U v q U' (j+1)) (hn:v.length=n) (lv:Lm v) (hj:j+n < U.length) (hw:w''.length=n+1) (hwL:Lm w'')
 (hwv:nv w''=nv ((U'.drop j).take (n+1))%nv v) (hd:nv ((U'.drop j).take (n+1))/nv v < 65536) :
 LongInv U v (q.set j (nv ((U'.drop j).take (n+1))/nv v)) (U'.take j++(w''++U'.drop (j+n+1))) j:=by
 have hV:0 < nv v:=Nat.lt_of_le_of_lt (Nat.zero_le _) h.lt;have hz:=drop_zero lv hn h.lt;rw [List.drop_drop,show j+1+n=j+n+1 by omega] at hz;have hql:=h.ql;have hul:=h.ul;have hlj:(U'.take j).length=j:=by rw [List.length_take];omega
 have hj1:nv (U'.drop j)=nv ((U'.drop j).take (n+1)):=by
  have:=Zbt (U'.drop j) (n+1);rw [List.drop_drop,show j+(n+1)=j+n+1 by omega,hz] at this;omega
 have hw2:nv (w''++U'.drop (j+n+1))=nv w'':=by rw [Zda,hz];omega
 have hdr:nv ((U'.take j++(w''++U'.drop (j+n+1))).drop j)=nv w'':=by
  rw [List.drop_append_of_le_length (by omega),List.drop_eq_nil_of_le (by omega),List.nil_append,hw2]
 refine⟨by simpa using hql,h.qL.set j hd,λi hi=>?_,by simp;omega,(h.uL.take j).append (hwL.append (h.uL.drop _)),?_,by rw [hdr,hwv];exact Nat.mod_lt _ hV⟩
 ·rw [Ze5 (by omega),if_neg (by omega)];exact h.qz i (by omega)
 ·have h1:=h.eq;have h2:=Zbt U' j;have h3:=Nat.div_add_mod (nv ((U'.drop j).take (n+1))) (nv v);rw [Zda,hlj,hw2,hwv,Zby (q.set j _),Ze5 (by omega),if_pos rfl,List.drop_set_of_lt (by omega)];rw [←h1,h2,hj1,Nat.mul_add,Nat.add_mul,Nat.pow_succ];generalize nv ((U'.drop j).take (n+1))=W at *;generalize nv (q.drop (j+1))=Q at *
  have e1:nv v*(W/nv v)*65536 ^ j+65536 ^ j*(W%nv v)=65536 ^ j*W:=by
   rw [Nat.mul_comm (nv v*(W/nv v)),←Nat.mul_add,h3]
  have e2:nv v*(65536*Q)*65536 ^ j=nv v*Q*(65536 ^ j*65536):=by
   simp only [Nat.mul_assoc,Nat.mul_left_comm,Nat.mul_comm]
  omega
theorem natLong (σ:Mem) (sv:Value) (U post v:List Nat) (n:Nat) (hvn:v.length=n) (h44:σ 44=some (.row sv 104 1 (u16s (U++post)) 0)) (hn:2≤n) (hlen:n < U.length) (hsz:U.length+post.length≤1000000000) (lU:Lm U) (lp:Lm post) (lv:Lm v)
 (hvt:0 < gN v (n - 1)) (hlt:nv (U.drop (U.length - n)) < nv v) :
 ACall Tryz.prog 177 [.view 44 sv 1 0 U.length,lim v] σ λr σ'=>∃U':List Nat,r=lim (toL (nv U/nv v))∧σ' 44=some (.row sv 104 1 (u16s (U'++post)) 0)∧U'.length=U.length∧Lm U'∧nv U'=nv U%nv v:=by
 have hc:(U.length:Int) - (n:Int)=((U.length - n:Nat):Int):=by omega
 refine Zcg (tok:=0) (rs:=[.tmp 4]) Tryz.func177 rfl Tryz.ntmps177 Tryz.results177 Tryz.call177 (by rfl) (by simp) ?_;(focus (refine wkvp (w_2 hvn hc) w_t ?_;(repeat' first|exact w_t|apply w_l);all_goals intros));refine Zal (ι:=Nat) (λk e m=>k≤U.length - n∧∃g2 g3 g5 g7 svo q U',(e 2=.pbox 2 g2 0∧e 3=.pbox 3 g3 0∧e 5=.pbox 5 g5 0∧e 6=.own 18 svo∧e 7=.pbox 7 g7 0)∧m 2=some (.box g2 40 [.view 44 sv 1 0 U.length] false)∧m 3=some (.box g3 40 [lim v] false)∧m 5=some (.box g5 3 [.v (.int .i64 n)] false)∧m 7=some (.box g7 3 [.v (.int .i64 ((k:Int) - 1))] false) ∧
  m 18=some (.row svo 104 1 (u16s q) 0)∧m 44=some (.row sv 104 1 (u16s (U'++post)) 0)∧LongInv U v q U' k) (λk=>k) (U.length - n) (by rfl) ?_ ?_
 ·rintro k e m ⟨hk,g2,g3,g5,g7,svo,q,U',⟨e2,e3,e5,e6,e7⟩,m2,m3,m5,m7,m18,m44,inv⟩
  have hql:=inv.ql;rw [hvn] at hql;have hul:=inv.ul;rcases Nat.eq_zero_or_pos k with h0 | h0
  ·subst h0;have h1:=inv.eq;have h2:=inv.lt;rw [List.drop_zero] at h1 h2;rw [Nat.pow_zero,Nat.mul_one] at h1;have hq:nv U/nv v=nv q:=by rw [←h1,Nat.add_comm,Nat.mul_add_div (by omega),Nat.div_eq_of_lt h2,Nat.add_zero]
   have hr:nv U'=nv U%nv v:=by rw [←h1,Nat.add_comm,Nat.mul_add_mod,Nat.mod_eq_of_lt h2]
   (repeat' (first|(with_reducible first|refine stp ?_|apply gx1|apply gx2|apply gx3|apply gx4|apply gx5|apply gx6|apply gx7|apply gw1 (Za3 q (by omega) inv.qL))|(with_reducible refine Zbi ?_;intro _)|((with_reducible refine gE ?_);(try simp (disch:=omega) only [go_sem,e2,e3,e5,e6,e7,m2,m3,m5,m7,m18,m44])<;>first|rfl|omega)|with_reducible refine Zaf (by decide) ?_))
   simp (disch:=omega) only [go_sem,hq];refine⟨U',?_,hul,inv.uL,hr⟩;simp (disch:=omega) only [go_sem,m44]
  ·obtain⟨j,rfl⟩:∃j,k=j+1:=⟨k - 1,by omega⟩;have ej:((j+1:Nat):Int) - 1=(j:Int):=by omega
   rw [ej] at m7;have g0:=Zbw inv.uL (j+n);have g1:=Zbw inv.uL (j+n - 1);have g2':=Zbw inv.uL (j+n - 2);have gv1:=Zbw lv (n - 1);have gv2:=Zbw lv (n - 2);have hl:(U'++post).length=U'.length+post.length:=List.length_append;have x0:gN (U'++post) (j+n)=gN U' (j+n):=Zot (by omega);have x1:gN (U'++post) (j+n - 1)=gN U' (j+n - 1):=Zot (by omega);have ex1:((j+n:Nat):Int) - 1=((j+n - 1:Nat):Int):=by omega
   have ex2:(n:Int) - 1=((n - 1:Nat):Int):=by omega
   have hwl:((U'.drop j).take (n+1)).length=n+1:=by rw [List.length_take,List.length_drop];omega
   have hwL:Lm ((U'.drop j).take (n+1)):=(inv.uL.drop j).take _;have wg:∀i,i≤n→gN ((U'.drop j).take (n+1)) i=gN U' (j+i):=λi hi=>by rw [gN_take (by omega),Zs4]
   have hW:=nv_top3 hwl hn;rw [wg n (Nat.le_refl _),wg (n - 1) (by omega),wg (n - 2) (by omega),show j+(n - 1)=j+n - 1 by omega,show j+(n - 2)=j+n - 2 by omega] at hW;have hwl2:=Zgi hwL (n - 2);have hVt:=nv_top2 hvn hn;have hvl2:=Zgi lv (n - 2);have hV:0 < nv v:=Nat.lt_of_le_of_lt (Nat.zero_le _) inv.lt
   have htop:gN U' (j+n)≤gN v (n - 1):=by
    have:=top_le (inv.uL.drop (j+1)) lv hvn hn inv.lt
    rwa [Zs4,show j+1+(n - 1)=j+n by omega] at this
   have hWV:nv ((U'.drop j).take (n+1))/nv v < 65536:=by
    rw [Nat.div_lt_iff_lt_mul hV];have h1:=Zbt (U'.drop j) (n+1);have h2:=Zby U' j;have h3:=inv.lt;have h4:=Zbw inv.uL j;omega
   obtain⟨high,hhigh⟩:∃h,gN U' (j+n)*65536+gN U' (j+n - 1)=h:=⟨_,rfl⟩;rw [hhigh] at hW;have hinit:=kn_init (Nat.pow_pos (by omega)) hVt hW hwl2 g2' hvt (Nat.div_mul_le_self (nv ((U'.drop j).take (n+1))) (nv v));have hhd:=Nat.div_add_mod high (gN v (n - 1));have hhr:=Nat.mod_lt high hvt;have hhq:=Nat.div_le_self high (gN v (n - 1));rw [Nat.mul_comm] at hhd;have hv1i:(gN v (n - 1):Int)≠0:=by omega
   have hq1:(high:Int)/(gN v (n - 1):Int)≤4294967296:=by
    have:((high/gN v (n - 1):Nat):Int)≤4294967296:=by omega
    exact this
   have wq:IntKind.u64.wrap ((high/gN v (n - 1):Nat):Int)=((high/gN v (n - 1):Nat):Int):=Ze9 (Int.natCast_nonneg _) (by omega)
   (repeat' (first|(with_reducible first|refine stp ?_|apply gx1|apply gx2|apply gx3|apply gx4|apply gx5|apply gx6|apply gx7|apply gy8|apply gz2|apply gz3)|(with_reducible refine Zbi ?_;intro _)|((with_reducible refine gE ?_);(try simp (disch:=omega) only [go_sem,e2,e3,e5,e6,e7,m2,m3,m5,m7,m18,m44,hl,hul,hvn,x0,x1,ex1,ex2,hhigh,hv1i,Za0,Zdu,Zea,Nat.zero_add,wq])<;>first|rfl|omega)|with_reducible refine Zaf (by decide) ?_|((with_reducible apply gy1);iterate 3 focus rfl)|((with_reducible apply gy2);iterate 3 focus rfl)|((with_reducible apply gy3);iterate 2 focus rfl)|((with_reducible apply gy4);iterate 1 focus rfl)|((with_reducible apply gy5);iterate 4 focus rfl)|((with_reducible apply gy5c);iterate 4 focus rfl)|((with_reducible apply gy6);iterate 4 focus rfl)|((with_reducible apply Zc0);iterate 3 focus rfl)|((with_reducible apply Zcx);iterate 1 focus rfl)|((with_reducible apply gy7);iterate 1 focus rfl)|((with_reducible apply gy9);(focus ((with_reducible refine gE ?_);(try simp (disch:=omega) only [go_sem,e2,e3,e5,e6,e7,m2,m3,m5,m7,m18,m44,hl,hul,hvn,x0,x1,ex1,ex2,hhigh,hv1i,Za0,Zdu,Zea,Nat.zero_add,wq])<;>rfl)))|((with_reducible apply gz1);(focus first|rfl|(simp (disch:=omega) only [go_sem,e2,e3,e5,e6,e7,m2,m3,m5,m7,m18,m44,hl,hul,hvn,x0,x1,ex1,ex2,hhigh,hv1i,Za0,Zdu,Zea,Nat.zero_add,wq];done)))|((with_reducible apply Za2 (Zce []) [] [9,10]);(focus kernel_rfl);(focus rfl);(focus kernel_rfl);(focus (simp only [List.length_cons,List.length_nil,Nat.reduceAdd];rfl)))))
   rename_i g9 g10;have hlj:(U'.take j).length=j:=by rw [List.length_take];omega
   have hsplit:U'++post=U'.take j++((U'.drop j).take (n+1)++(U'.drop (j+n+1)++post)):=by
    have e1:U'=U'.take j++((U'.drop j).take (n+1)++U'.drop (j+n+1)):=by
     rw [show j+n+1=j+(n+1) by omega,←List.drop_drop,List.take_append_drop,List.take_append_drop]
    rw [←List.append_assoc ((U'.drop j).take (n+1)),←List.append_assoc,←e1]
   have esub:j+n+1 - j=n+1:=by omega
   obtain⟨W,hWd⟩:∃W,nv ((U'.drop j).take (n+1))=W:=⟨_,rfl⟩;have hstep:=fun(w'':List Nat) hw hwL2 hwv=>inv.step (w'':=w'') hvn lv (by omega) hw hwL2 hwv hWV;rw [hWd] at hinit hWV hW hstep
   have hzz:∀d r,high=d*gN v (n - 1)+r→65536≤r→d < 65536∧d*gN v (n - 2)≤r*65536+gN U' (j+n - 2):=by
    intro d r h1 h2
    have hd:d < 65536:=by
     rcases Nat.lt_or_ge d 65536 with h3 | h3
     ·exact h3
     ·exfalso;have h4:65536*gN v (n - 1)≤d*gN v (n - 1):=Nat.mul_le_mul_right _ h3;omega
    have:=Zmw hd gv2;omega
   refine Zal (ι:=Nat) (λd e' m'=>(e' 2=.pbox 2 g2 0∧e' 3=.pbox 3 g3 0∧e' 5=.pbox 5 g5 0∧e' 6=.own 18 svo∧e' 7=.pbox 7 g7 0∧e' 9=.pbox 9 g9 0∧e' 10=.pbox 10 g10 0∧e' 11=.fn 191 [.pbox 9 g9 0,.pbox 3 g3 0,.pbox 5 g5 0,.pbox 10 g10 0,.pbox 2 g2 0,.pbox 7 g7 0]) ∧
    m' 2=some (.box g2 40 [.view 44 sv 1 0 U.length] false)∧m' 3=some (.box g3 40 [lim v] false)∧m' 5=some (.box g5 3 [.v (.int .i64 n)] false)∧m' 7=some (.box g7 3 [.v (.int .i64 (j:Int))] false)∧m' 18=some (.row svo 104 1 (u16s q) 0)∧m' 44=some (.row sv 104 1 (u16s (U'++post)) 0) ∧
    m' 9=some (.box g9 115 [.v (.int .u64 (d:Int))] false)∧∃r:Nat,m' 10=some (.box g10 115 [.v (.int .u64 (r:Int))] false)∧high=d*gN v (n - 1)+r∧W/nv v≤d∧d≤high∧r < 131072) (λd=>d) (high/gN v (n - 1)) (by rfl) ?_ ?_
   ·rintro d e m ⟨⟨e2,e3,e5,e6,e7,e9,e10,e11⟩,m2,m3,m5,m7,m18,m44,m9,r,m10,hhi,hqd,hdh,hr2⟩
    have ct:=λhr=>Zof m sv g2 g3 g5 g7 g9 g10 U' post v d r j (by rw [hul];exact m2) m3 (by rw [hvn];exact m5) m7 m9 m10 m44 (by omega) (by omega) (by omega) lv inv.uL hr;rw [hvn] at ct;by_cases hgo:r < 65536∧(65536≤d∨r*65536+gN U' (j+n - 2) < d*gN v (n - 2))
    ·obtain⟨hr,ht⟩:=hgo;have hb:(decide (65536≤d) || decide (r*65536+gN U' (j+n - 2) < d*gN v (n - 2)))=true:=by simpa using ht
     have hd1:1≤d:=by
      rcases Nat.eq_zero_or_pos d with h | h
      ·subst h;omega
      ·exact h
     have ed:(d:Int) - 1=((d - 1:Nat):Int):=by omega
     have hq2:W/nv v≤d - 1:=by
      rcases ht with h | h
      ·omega
      ·have h1:=kn_step hVt hW hwl2 hhi h;rw [←Nat.div_lt_iff_lt_mul hV] at h1;omega
     have hh2:high=(d - 1)*gN v (n - 1)+(r+gN v (n - 1)):=by
      obtain⟨d',rfl⟩:∃d',d=d'+1:=⟨d - 1,by omega⟩;rw [Nat.add_sub_cancel,hhi,Nat.add_mul,Nat.one_mul];omega
     (repeat' (first|(with_reducible first|refine stp ?_|apply gx1|apply gx2|apply gx3|apply gx4|apply gx5|apply gx6|apply gx7|apply gy8|apply gz2|apply gz3|refine Zhf (ct hr) ?_)|(with_reducible refine Zbi ?_;intro _)|((with_reducible refine gE ?_);(try simp (disch:=omega) only [go_sem,e2,e3,e5,e6,e7,e9,e10,e11,m2,m3,m5,m7,m18,m44,m9,m10,hb,ed,ex2,hvn,Za0])<;>first|rfl|omega)|with_reducible refine Zaf (by decide) ?_|((with_reducible apply gy1);iterate 3 focus rfl)|((with_reducible apply gy2);iterate 3 focus rfl)|((with_reducible apply gy3);iterate 2 focus rfl)|((with_reducible apply gy4);iterate 1 focus rfl)|((with_reducible apply gy5);iterate 4 focus rfl)|((with_reducible apply gy5c);iterate 4 focus rfl)|((with_reducible apply gy6);iterate 4 focus rfl)|((with_reducible apply Zc0);iterate 3 focus rfl)|((with_reducible apply Zcx);iterate 1 focus rfl)|((with_reducible apply gy7);iterate 1 focus rfl)|((with_reducible apply gy9);(focus ((with_reducible refine gE ?_);(try simp (disch:=omega) only [go_sem,e2,e3,e5,e6,e7,e9,e10,e11,m2,m3,m5,m7,m18,m44,m9,m10,hb,ed,ex2,hvn,Za0])<;>rfl)))|((with_reducible apply gz1);(focus first|rfl|(simp (disch:=omega) only [go_sem,e2,e3,e5,e6,e7,e9,e10,e11,m2,m3,m5,m7,m18,m44,m9,m10,hb,ed,ex2,hvn,Za0];done)))|((with_reducible apply Za2 (Zce []) [8] []);(focus kernel_rfl);(focus rfl);(focus kernel_rfl);(focus (simp only [List.length_cons,List.length_nil,Nat.reduceAdd];rfl)))))
     exact⟨d - 1,⟨⟨by exact gW e2,by exact gW e3,by exact gW e5,by exact gW e6,by exact gW e7,by exact gW e9,by exact gW e10,by exact gW e11⟩,by exact gW m2,by exact gW m3,by exact gW m5,by exact gW m7,by exact gW m18,by exact gW m44,by exact gC,_,by exact gC,hh2,hq2,by omega,by omega⟩,by omega⟩
    ·obtain⟨hd,hdv⟩:d < 65536∧d*gN v (n - 2)≤r*65536+gN U' (j+n - 2):=by
      rcases Nat.lt_or_ge r 65536 with h | h
      ·have h2:¬(65536≤d∨r*65536+gN U' (j+n - 2) < d*gN v (n - 2)):=λh2=>hgo ⟨h,h2⟩;omega
      ·exact hzz d r hhi h
     have hb:(decide (65536≤d) || decide (r*65536+gN U' (j+n - 2) < d*gN v (n - 2)))=false:=by
      rw [Bool.or_eq_false_iff,decide_eq_false_iff_not,decide_eq_false_iff_not];omega
     have hnear:=kn_near hV hqd (kn_exit hVt hvl2 hW hhi hvt hd hdv);have csub:=Zmt (K:=44) (sv:=sv) (σ:=m) (post:=U'.drop (j+n+1)++post) (v:=v) (d:=d) hlj hwl (by rw [←hsplit];exact m44) (by omega) (by rw [←hsplit];omega) hwL lv hd;rcases Nat.lt_or_ge r 65536 with hr | hr
     all_goals
      (repeat' (first|(with_reducible first|refine stp ?_|apply gx1|apply gx2|apply gx3|apply gx4|apply gx5|apply gx6|apply gx7|apply gy8|apply gz2|apply gz3|refine Zhf (ct hr) ?_)|(with_reducible refine Zbi ?_;intro _)|((with_reducible refine gE ?_);(try simp (disch:=omega) only [go_sem,e2,e3,e5,e6,e7,e9,e10,e11,m2,m3,m5,m7,m18,m44,m9,m10,hb,ex2,hvn,Za0,Zbr,esub,Nat.zero_add])<;>first|rfl|omega)|with_reducible refine Zaf (by decide) ?_|((with_reducible apply gy1);iterate 3 focus rfl)|((with_reducible apply gy2);iterate 3 focus rfl)|((with_reducible apply gy3);iterate 2 focus rfl)|((with_reducible apply gy4);iterate 1 focus rfl)|((with_reducible apply gy5);iterate 4 focus rfl)|((with_reducible apply gy5c);iterate 4 focus rfl)|((with_reducible apply gy6);iterate 4 focus rfl)|((with_reducible apply Zc0);iterate 3 focus rfl)|((with_reducible apply Zcx);iterate 1 focus rfl)|((with_reducible apply gy7);iterate 1 focus rfl)|((with_reducible apply gy9);(focus ((with_reducible refine gE ?_);(try simp (disch:=omega) only [go_sem,e2,e3,e5,e6,e7,e9,e10,e11,m2,m3,m5,m7,m18,m44,m9,m10,hb,ex2,hvn,Za0,Zbr,esub,Nat.zero_add])<;>rfl)))|((with_reducible apply gz1);(focus first|rfl|(simp (disch:=omega) only [go_sem,e2,e3,e5,e6,e7,e9,e10,e11,m2,m3,m5,m7,m18,m44,m9,m10,hb,ex2,hvn,Za0,Zbr,esub,Nat.zero_add];done)))|((with_reducible apply Za2 (Zce []) [10] []);(focus kernel_rfl);(focus rfl);(focus kernel_rfl);(focus (simp only [List.length_cons,List.length_nil,Nat.reduceAdd];rfl)))))
      refine Zle csub ?_
      rintro _ _ ⟨w',b,rfl,rfl,hwl',hwL',hb1,heq⟩
      rw [hWd] at heq;have hw'p:nv w' < 65536 ^ (n+1):=by have:=Zgq hwL';rwa [hwl'] at this
      have hcase:=subDone hV hw'p hb1 heq hnear;have ej2:(j:Int) - 1=(j:Int) - 1:=rfl;rcases hcase with⟨rfl,hdq,hwm⟩ | ⟨rfl,hdq⟩
      ·have inv':=hstep w' hwl' hwL' hwm;rw [←hdq] at inv';have hdm:d%65536=d:=Nat.mod_eq_of_lt hd
       (repeat' (first|(with_reducible first|refine stp ?_|apply gx1|apply gx2|apply gx3|apply gx4|apply gx5|apply gx6|apply gx7|apply gy8|apply gz2|apply gz3)|(with_reducible refine Zbi ?_;intro _)|((with_reducible refine gE ?_);(try simp (disch:=omega) only [go_sem,e2,e3,e5,e6,e7,e9,e10,e11,m2,m3,m5,m7,m18,m44,m9,m10,hql,Zba,hdm,Int.natCast_zero,Int.lt_irrefl])<;>first|rfl|omega)|with_reducible refine Zaf (by decide) ?_|((with_reducible apply gy1);iterate 3 focus rfl)|((with_reducible apply gy2);iterate 3 focus rfl)|((with_reducible apply gy3);iterate 2 focus rfl)|((with_reducible apply gy4);iterate 1 focus rfl)|((with_reducible apply gy5);iterate 4 focus rfl)|((with_reducible apply gy5c);iterate 4 focus rfl)|((with_reducible apply gy6);iterate 4 focus rfl)|((with_reducible apply Zc0);iterate 3 focus rfl)|((with_reducible apply Zcx);iterate 1 focus rfl)|((with_reducible apply gy7);iterate 1 focus rfl)|((with_reducible apply gy9);(focus ((with_reducible refine gE ?_);(try simp (disch:=omega) only [go_sem,e2,e3,e5,e6,e7,e9,e10,e11,m2,m3,m5,m7,m18,m44,m9,m10,hql,Zba,hdm,Int.natCast_zero,Int.lt_irrefl])<;>rfl)))|((with_reducible apply gz1);(focus first|rfl|(simp (disch:=omega) only [go_sem,e2,e3,e5,e6,e7,e9,e10,e11,m2,m3,m5,m7,m18,m44,m9,m10,hql,Zba,hdm,Int.natCast_zero,Int.lt_irrefl];done)))|((with_reducible apply Za2 (Zce []) [10] []);(focus kernel_rfl);(focus rfl);(focus kernel_rfl);(focus (simp only [List.length_cons,List.length_nil,Nat.reduceAdd];rfl)))))
       exact⟨j,⟨by omega,g2,g3,g5,_,svo,q.set j d,U'.take j++(w'++U'.drop (j+n+1)),⟨by exact gW e2,by exact gW e3,by exact gW e5,by exact gW e6,by exact gC⟩,by exact gW m2,by exact gW m3,by exact gW m5,by exact gC,by exact gC,by(simp (disch:=omega) only [go_sem,List.append_assoc]<;>repeat' first|rfl|refine⟨?_,?_⟩),inv'⟩,by omega⟩
      ·have crest:=fun(σ:Mem) h=>Zoh (σ:=σ) (K:=44) (sv:=sv) (post:=U'.drop (j+n+1)++post) (v:=v) hlj hwl' h (by omega) (by rw [hsplit] at hl;simp only [List.length_append] at hl ⊢;omega) hwL' lv;have hd1:1≤d:=by rw [hdq];exact Nat.le_add_left 1 _
       have ed:(d:Int) - 1=((d - 1:Nat):Int):=by omega
       have one:(0:Int) < ((1:Nat):Int):=by omega
       (repeat' (first|(with_reducible first|refine stp ?_|apply gx1|apply gx2|apply gx3|apply gx4|apply gx5|apply gx6|apply gx7|apply gy8|apply gz2|apply gz3)|(with_reducible refine Zbi ?_;intro _)|((with_reducible refine gE ?_);(try simp (disch:=omega) only [go_sem,e2,e3,e5,e6,e7,e9,e10,e11,m2,m3,m5,m7,m18,m44,m9,m10,ed,one,Za0,Zbr,esub,Nat.zero_add])<;>first|rfl|omega)|with_reducible refine Zaf (by decide) ?_|((with_reducible apply gy1);iterate 3 focus rfl)|((with_reducible apply gy2);iterate 3 focus rfl)|((with_reducible apply gy3);iterate 2 focus rfl)|((with_reducible apply gy4);iterate 1 focus rfl)|((with_reducible apply gy5);iterate 4 focus rfl)|((with_reducible apply gy5c);iterate 4 focus rfl)|((with_reducible apply gy6);iterate 4 focus rfl)|((with_reducible apply Zc0);iterate 3 focus rfl)|((with_reducible apply Zcx);iterate 1 focus rfl)|((with_reducible apply gy7);iterate 1 focus rfl)|((with_reducible apply gy9);(focus ((with_reducible refine gE ?_);(try simp (disch:=omega) only [go_sem,e2,e3,e5,e6,e7,e9,e10,e11,m2,m3,m5,m7,m18,m44,m9,m10,ed,one,Za0,Zbr,esub,Nat.zero_add])<;>rfl)))|((with_reducible apply gz1);(focus first|rfl|(simp (disch:=omega) only [go_sem,e2,e3,e5,e6,e7,e9,e10,e11,m2,m3,m5,m7,m18,m44,m9,m10,ed,one,Za0,Zbr,esub,Nat.zero_add];done)))|((with_reducible apply Za2 (Zce []) [8] []);(focus kernel_rfl);(focus rfl);(focus kernel_rfl);(focus (simp only [List.length_cons,List.length_nil,Nat.reduceAdd];rfl)))))
       refine Zle (crest _ (by exact gC)) ?_
       rintro _ _ ⟨w'',c,rfl,rfl,hwl'',hwL'',hc1,heq2⟩
       have hw''p:nv w'' < 65536 ^ (n+1):=by have:=Zgq hwL'';rwa [hwl''] at this
       have hVp:nv v≤65536 ^ (n+1):=by
        have h1:=Zgq lv;rw [hvn] at h1;have h2:65536 ^ n≤65536 ^ (n+1):=Nat.pow_le_pow_right (by omega) (by omega);omega
       have hwm:=resDone hV hVp hw''p hc1 (by rw [←hdq];exact heq) heq2;have inv':=hstep w'' hwl'' hwL'' hwm;have hdq2:d - 1=W/nv v:=by rw [hdq,Nat.add_sub_cancel]
       rw [←hdq2] at inv';have hdm:(d - 1)%65536=d - 1:=Nat.mod_eq_of_lt (by omega);(focus (refine wkvd (w_19 e2 e3 e5 e6 e7 e9 e10 e11 m2 m3 m5 m7 m18 m44 m9 m10 hql @Zba hdm) w_t w_t ?_;(repeat' first|exact w_t|apply w_l);all_goals intros));exact⟨j,⟨by omega,g2,g3,g5,_,svo,q.set j (d - 1),U'.take j++(w''++U'.drop (j+n+1)),⟨by exact gW e2,by exact gW e3,by exact gW e5,by exact gW e6,by exact gC⟩,by exact gW m2,by exact gW m3,by exact gW m5,by exact gC,by exact gC,by(simp (disch:=omega) only [go_sem,List.append_assoc]<;>repeat' first|rfl|refine⟨?_,?_⟩),inv'⟩,by omega⟩
   ·exact⟨⟨by exact gW e2,by exact gW e3,by exact gW e5,by exact gW e6,by exact gW e7,by exact gC,by exact gC,by exact gC⟩,by exact gW m2,by exact gW m3,by exact gW m5,by exact gW m7,by exact gW m18,by exact gW m44,by exact gC,_,by exact gC,by omega,hinit,by omega,by omega⟩
 ·refine⟨Nat.le_refl _,_,_,_,_,_,List.replicate (U.length - n) 0,U,⟨by exact gC,by exact gC,by exact gC,by exact gC,by exact gC⟩,by exact gC,by exact gC,by exact gC,by exact gC,by exact gC,by exact gW h44,⟨by rw [hvn];simp,Lm.zeros _,λ_ _=>Zgk _ _,rfl,lU,?_,hlt⟩⟩;rw [List.drop_eq_nil_of_le (by simp)];simp [nv]
theorem Zso (i:Nat):i < 2 ^ len8 i:=by
 unfold len8;split
 ·rename_i h;subst h;decide
 ·exact Nat.lt_log2_self
theorem len16_lt (x:Nat):x < 2 ^ Zeg x:=by
 unfold Zeg;split
 ·have:=Zso (x/256);rw [Nat.pow_add];have e:(2:Nat) ^ 8=256:=rfl;omega
 ·exact Zso x
theorem Zo2 (a:List Nat):u16s a++[.v (.int .u16 0),.v (.int .u16 0)]=u16s (a++[0,0]):=by simp [u16s]
theorem Wk.three {a a' b b' c:AV} (h1:Wk a a') (h2:Wk b b'):Wk (.tup [a,b,c]) (.tup [a',b',c]):=by
 refine .tup _ _ rfl λj x y h3 h4=>?_
 match j with
 | 0=>simp at h3 h4;subst h3;subst h4;exact h1
 | 1=>simp at h3 h4;subst h3;subst h4;exact h2
 | 2=>simp at h3 h4;subst h3;subst h4;exact .refl _
 | j+3=>simp at h3
theorem Znr {b s n:Nat} (h0:b≠0) (hn:(toL b).length=n) (hs:s=16 - Zeg (gN (toL b) (n - 1))):(toL (b*2 ^ s)).length=n:=by
 have h1:=(Zdr h0).1;have ht:=Zbw (Zav b) (n - 1);have hbd:=Zhl ht;have hlt:=len16_lt (gN (toL b) (n - 1));have hp:=Nat.two_pow_pos s;have h3:(toL b).length≤(toL (b*2 ^ s)).length:=Za8 (Nat.le_mul_of_pos_right _ hp)
 have h4:(toL (b*2 ^ s)).length≤n:=by
  rw [Zah];have h5:=Zbt (toL b) (n - 1);rw [Zas,Zby,show n - 1+1=n by omega,List.drop_eq_nil_of_le (by omega)] at h5;simp only [nv,Nat.mul_zero,Nat.add_zero] at h5;have h6:=Zgi (Zav b) (n - 1);generalize gN (toL b) (n - 1)=t at *
  have h7:b < 65536 ^ (n - 1)*2 ^ Zeg t:=by
   have h10:65536 ^ (n - 1)*(t+1)≤65536 ^ (n - 1)*2 ^ Zeg t:=Nat.mul_le_mul_left _ hlt;rw [Nat.mul_add,Nat.mul_one] at h10;omega
  have h8:b*2 ^ s < 65536 ^ (n - 1)*2 ^ Zeg t*2 ^ s:=Nat.mul_lt_mul_of_pos_right h7 hp
  have h9:2 ^ Zeg t*2 ^ s=65536:=by
   rw [←Nat.pow_add,hs,show Zeg t+(16 - Zeg t)=16 by omega]
  rw [Nat.mul_assoc,h9,←Nat.pow_succ,Nat.succ_eq_add_one,show n - 1+1=n by omega] at h8;exact h8
 omega
theorem Zmv (a b:List Nat) (ha:a.length≤200000000) (hb:b.length≤200000000) (la:Lm a) (lb:Lm b) (h0:nv b≠0):Pure Tryz.prog 144 [lim a,lim b] (.tup [lim (toL (nv a/nv b)),lim (toL (nv a%nv b)),.v (.int .i64 0)]):=by
 have h1:=Zax la;have h2:=Zax lb;have va:=Zas (nv a);have vb:=Zas (nv b);have ma:=Zav (nv a);have mb:=Zav (nv b);obtain⟨hb1,hb2⟩:=Zdr h0;have cc:=Zpu (toL (nv a)) (toL (nv b)) (by omega) (by omega) ma mb;rw [va,vb] at cc;by_cases hlt:nv a < nv b
 ·rw [show toL (nv a/nv b)=[] by rw [Nat.div_eq_of_lt hlt,Za4],Nat.mod_eq_of_lt hlt];refine Pure.wk ?_ (Wk.three (.nil 1) (.refl _));have hcm:cmpN (nv a) (nv b)=-1:=if_pos hlt;have cn:=Zlh (toL (nv a)) (by omega) ma;rw [va] at cn;refine Zaa (tok:=0) (rs:=[.tmp 4,.tmp 5,.tmp 6]) Tryz.func144 rfl Tryz.ntmps144 Tryz.results144 Tryz.call144 (by rfl) (by simp) ?_;(focus (refine wkvp (w_1 hcm) (w_4 (Za3 a (by omega) la) (Za3 b (by omega) lb) cc cn) ?_;(repeat' first|exact w_t|apply w_l);all_goals intros));simp (disch:=omega) only [go_sem]
 ·have hcm:0≤cmpN (nv a) (nv b):=by unfold cmpN;rw [if_neg hlt];split<;>omega
  by_cases hone:(toL (nv b)).length=1
  ·have e0:nv b=gN (toL (nv b)) 0:=by
    have:=Zbt (toL (nv b)) 0;rw [Zby,List.drop_eq_nil_of_le (by omega),vb] at this
    simpa [nv] using this
   have gb:=Zbw mb 0;have cb:=Zsj (toL (nv a)) (gN (toL (nv b)) 0) (by omega) ma (by omega) gb;rw [va,←e0] at cb;have hr:=Nat.mod_lt (nv a) (Nat.pos_of_ne_zero h0);have co:=natOf (nv a%nv b) (by omega);refine Zaa (tok:=0) (rs:=[.tmp 4,.tmp 5,.tmp 6]) Tryz.func144 rfl Tryz.ntmps144 Tryz.results144 Tryz.call144 (by rfl) (by simp) ?_;have wr:IntKind.u64.wrap ((nv a%nv b:Nat):Int)=((nv a%nv b:Nat):Int):=Ze9 (Int.natCast_nonneg _) (by omega);(focus (refine wkvp (w_3 hone (Eq.symm e0) wr) (w_5 (Za3 a (by omega) la) (Za3 b (by omega) lb) cc cb co) ?_;(repeat' first|exact w_t|apply w_l);all_goals intros))
   simp (disch:=omega) only [go_sem]
  ·
   obtain⟨n,hn⟩:∃n,(toL (nv b)).length=n:=⟨_,rfl⟩;rw [hn] at hb1 hb2 hone h2;have ht:=Zbw mb (n - 1);have hbd:=Zhl ht;obtain⟨s,hs⟩:∃s,16 - Zeg (gN (toL (nv b)) (n - 1))=s:=⟨_,rfl⟩;have hs15:s≤15:=by omega
   have hvl:=Znr h0 hn hs.symm;have ha0:nv a≠0:=by omega
   have hab:n≤(toL (nv a)).length:=by rw [←hn];exact Za8 (by omega)
   have clz:=bitsLz16 (gN (toL (nv b)) (n - 1)) ht;rw [hs] at clz;have en:(n:Int) - 1=((n - 1:Nat):Int):=by omega
   have hp:=Nat.two_pow_pos s;obtain⟨A,hA⟩:∃A,toL (nv a)=A:=⟨_,rfl⟩;rw [hA] at va ma h1 hab cc;have hVlen:A.length≤(toL (nv a*2 ^ s)).length:=by rw [←hA];exact Za8 (Nat.le_mul_of_pos_right _ hp)
   have hV2:nv a*2 ^ s < 65536 ^ (A.length+1):=by
    have h3:=Zgq ma;rw [va] at h3;have h4:(2:Nat) ^ s≤2 ^ 16:=Nat.pow_le_pow_right (by omega) (by omega);rw [Nat.pow_succ];exact Nat.lt_of_lt_of_le (Nat.mul_lt_mul_of_pos_right h3 hp) (Nat.mul_le_mul_left _ h4)
   have hVlen2:(toL (nv a*2 ^ s)).length≤A.length+1:=Zah.2 hV2
   have hdl:nv a*2 ^ s/65536 ^ (A.length+1 - n) < nv b*2 ^ s:=by
    rw [Nat.div_lt_iff_lt_mul (Nat.pow_pos (by omega))];have h3:=Zgq ma;rw [va] at h3
    have h5:65536 ^ (n - 1)≤nv b:=by
     rcases Nat.lt_or_ge (nv b) (65536 ^ (n - 1)) with h | h
     ·have:=Zah.2 h;omega
     ·exact h
    have h6:65536 ^ A.length=65536 ^ (n - 1)*65536 ^ (A.length+1 - n):=by rw [←Nat.pow_add];congr 1;omega
    have h7:65536 ^ (n - 1)*65536 ^ (A.length+1 - n)≤nv b*65536 ^ (A.length+1 - n):=Nat.mul_le_mul_right _ h5;have h8:nv a < nv b*65536 ^ (A.length+1 - n):=by omega
    have h9:=Nat.mul_lt_mul_of_pos_right h8 hp
    rwa [Nat.mul_right_comm] at h9
   have qe:nv a*2 ^ s/(nv b*2 ^ s)=nv a/nv b:=Nat.mul_div_mul_right _ _ hp;have re:nv a*2 ^ s%(nv b*2 ^ s)=(nv a%nv b)*2 ^ s:=Nat.mul_mod_mul_right _ _ _;have cv:=natShl (toL (nv b)) s (by omega) mb (by omega);rw [vb] at cv;refine Zaa (tok:=0) (rs:=[.tmp 4,.tmp 5,.tmp 6]) Tryz.func144 rfl Tryz.ntmps144 Tryz.results144 Tryz.call144 (by rfl) (by simp) ?_;(focus (refine wkvp (w_3 hn hA en) (w_4 (Za3 a (by omega) la) (Za3 b (by omega) lb) cc clz) ?_;(repeat' first|exact w_t|apply w_l);all_goals intros));refine Zle (Zmu _ A s (by omega) ma (by omega) (by rw [va];exact ha0)) ?_
   rintro _ _ ⟨sv,o,rfl,rfl,hol,hLo,hov⟩
   rw [va] at hov;rw [va];have hlen:=Zax hLo;rw [hov] at hlen;obtain⟨L,hL⟩:∃L,o.take (toL (nv a*2 ^ s)).length++[0,0]=L:=⟨_,rfl⟩;have hLl:L.length=(toL (nv a*2 ^ s)).length+2:=by rw [←hL,List.length_append,List.length_take];simp;omega
   have hot:o.take (toL (nv a*2 ^ s)).length=toL (nv a*2 ^ s):=by
    obtain⟨k,h3,h4⟩:=Zky hLo;rw [hov] at h4;have h5:k=(toL (nv a*2 ^ s)).length:=by rw [←h4,List.length_take];omega
    rw [←h5,h4]
   have hLn:nv L=nv a*2 ^ s:=by rw [←hL,hot,Zda,Zas];simp [nv]
   have hLL:Lm L:=by rw [←hL,hot];exact(Zav _).append λy hy=>by simp at hy;omega
   have hes:u16s o=u16s o:=rfl;have e3:((A.length:Nat):Int)+1=((A.length+1:Nat):Int):=by omega
   (focus (refine wkvp (w_6 hol @Zo2 hL hLl e3 (Eq.symm hvl)) (w_1 cv) ?_;(repeat' first|exact w_t|apply w_l);all_goals intros));have hUl:(L.take (A.length+1)).length=A.length+1:=by rw [List.length_take];omega
   have hUn:nv (L.take (A.length+1))=nv a*2 ^ s:=by
    have h3:=Zbt L (A.length+1);rw [hLn] at h3;rcases Nat.eq_zero_or_pos (nv (L.drop (A.length+1))) with h4 | h4
    ·rw [h4,Nat.mul_zero,Nat.add_zero] at h3;exact h3.symm
    ·have:=Nat.le_mul_of_pos_right (65536 ^ (A.length+1)) h4;omega
   rename_i sv2 sv';have vn:nv (toL (nv b*2 ^ s))=nv b*2 ^ s:=Zas _
   have hb20:nv b*2 ^ s≠0:=by
    have:=Nat.mul_pos (Nat.pos_of_ne_zero h0) hp;omega
   have htop:=(Zdr hb20).2;rw [hvl] at htop;have hTD:(L.take (A.length+1))++(L.drop (A.length+1))=L:=List.take_append_drop _ _;have clong:=fun(σ:Mem) h44=>natLong σ sv' (L.take (A.length+1)) (L.drop (A.length+1)) (toL (nv b*2 ^ s)) n hvl h44 (by omega) (by rw [hUl];omega) (by rw [hUl,List.length_drop];omega) (hLL.take _) (hLL.drop _) (Zav _) htop
    (by rw [hUl,←Zsg (hLL.take _),hUn,vn];exact hdl)
   rw [hUl,hUn,vn,qe,re] at clong;refine Zle (clong _ (by rw [hTD];(simp (disch:=omega) only [go_sem,Zo2,hL]<;>repeat' first|rfl|refine⟨?_,?_⟩))) ?_
   rintro _ σ' ⟨U',rfl,h44',hUl',hUL',hUn'⟩
   have ct:=Za3 U' (by omega) hUL';rw [hUn'] at ct;have htk:(U'++L.drop (A.length+1)).take (A.length+1)=U':=by rw [←hUl'];exact List.take_left
   rcases Nat.eq_zero_or_pos s with hs0 | hs0
   ·subst hs0;have cr:=natShl (toL ((nv a%nv b)*2 ^ 0)) 0 (by have:=Zax hUL';rw [hUn'] at this;omega) (Zav _) (by omega);rw [Zas,Nat.pow_zero,Nat.mul_one,Nat.mul_one] at cr;rw [Nat.pow_zero,Nat.mul_one] at ct;have ez:(0:Int) - ((0:Nat):Int)=((0:Nat):Int):=by omega
    (repeat' (first|(with_reducible first|refine stp ?_|apply gx1|apply gx2|apply gx3|apply gx4|apply gx5|apply gx6|apply gx7|apply gw1 (ct)|refine gw0 (cr) ?_ ?_)|(with_reducible refine Zbi ?_;intro _)|((with_reducible refine gE ?_);(try simp (disch:=omega) only [go_sem,h44',htk,Nat.zero_add,Nat.sub_zero,List.drop_zero,ez])<;>first|rfl|omega)|with_reducible refine Zaf (by decide) ?_))
    simp (disch:=omega) only [go_sem]
   ·have cr:=natShr (toL ((nv a%nv b)*2 ^ s)) s (by have:=Zax hUL';rw [hUn'] at this;omega) (Zav _) hs0 (by omega);rw [Zas,Nat.mul_div_cancel _ hp] at cr;have ez:(0:Int) - (s:Int)=-(s:Int):=by omega
    (repeat' (first|(with_reducible first|refine stp ?_|apply gx1|apply gx2|apply gx3|apply gx4|apply gx5|apply gx6|apply gx7|apply gw1 (ct)|refine gw0 (cr) ?_ ?_)|(with_reducible refine Zbi ?_;intro _)|((with_reducible refine gE ?_);(try simp (disch:=omega) only [go_sem,h44',htk,Nat.zero_add,Nat.sub_zero,List.drop_zero,ez])<;>first|rfl|omega)|with_reducible refine Zaf (by decide) ?_))
    simp (disch:=omega) only [go_sem]
theorem natGcd (a b:List Nat) (ha:a.length≤200000000) (hb:b.length≤200000000) (la:Lm a) (lb:Lm b):Pure Tryz.prog 87 [lim a,lim b] (lim (toL (Nat.gcd (nv a) (nv b)))):=by
 have h1:=Zax la;have h2:=Zax lb
 have cu:∀x:Nat,(toL x).length≤200000000→Pure Tryz.prog 142 [lim (toL x)] (.tup [.v (.int .u64 (if x < 18446744073709551616 then (x:Int) else 0)),.v (.bool (decide (x < 18446744073709551616)))]):=by
  intro x hx;have:=natUint (toL x) (by omega) (Zav x)
  rwa [Zas] at this
 have cd:∀x y:Nat,(toL x).length≤200000000→(toL y).length≤200000000→y≠0→Pure Tryz.prog 144 [lim (toL x),lim (toL y)] (.tup [lim (toL (x/y)),lim (toL (x%y)),.v (.int .i64 0)]):=by
  intro x y hx hy h0;have:=Zmv (toL x) (toL y) hx hy (Zav x) (Zav y) (by rw [Zas];exact h0)
  rwa [Zas,Zas] at this
 refine Zaa (tok:=0) (rs:=[.tmp 4]) Tryz.func87 rfl Tryz.ntmps87 Tryz.results87 Tryz.call87 (by rfl) (by simp) ?_;(focus (refine wkvp w_t (w_2 (Zlh a (by omega) la) (Zlh b (by omega) lb)) ?_;(repeat' first|exact w_t|apply w_l);all_goals intros));refine Zal (ι:=Nat) (λy e m=>∃x,(e 0=lim (toL x)∧e 1=lim (toL y))∧(toL x).length≤200000000∧(toL y).length≤200000000∧Nat.gcd x y=Nat.gcd (nv a) (nv b)) (λy=>y) (nv b) (by rfl) ?_ ?_
 ·rintro y e m ⟨x,⟨e0,e1⟩,hx,hy,hg⟩
  rcases Nat.eq_zero_or_pos y with h0 | h0
  ·subst h0;have hl:=Zbn.2 (rfl:(0:Nat)=0);rw [Nat.gcd_zero_right] at hg;(focus (refine wkvp (w_3 e0 e1 hl) w_t ?_;(repeat' first|exact w_t|apply w_l);all_goals intros));simp (disch:=omega) only [go_sem,hg]
  ·have hl:0 < (toL y).length:=by
    have:=(Zdr (show y≠0 by omega)).1;omega
   by_cases hs:x < 18446744073709551616∧y < 18446744073709551616
   ·obtain⟨hsx,hsy⟩:=hs;have dx:decide (x < 18446744073709551616)=true:=decide_eq_true hsx;have dy:decide (y < 18446744073709551616)=true:=decide_eq_true hsy
    (repeat' (first|(with_reducible first|refine stp ?_|apply gx1|apply gx2|apply gx3|apply gx4|apply gx5|apply gx6|apply gx7|refine gw0 (cu x hx) ?_ ?_|refine gw0 (cu y hy) ?_ ?_)|(with_reducible refine Zbi ?_;intro _)|((with_reducible refine gE ?_);(try simp (disch:=omega) only [go_sem,e0,e1,if_pos hsx,if_pos hsy,dx,dy])<;>first|rfl|omega)|with_reducible refine Zaf (by decide) ?_))
    refine Zal (ι:=Nat) (λY e m=>∃X:Nat,(e 5=.v (.int .u64 (X:Int))∧e 7=.v (.int .u64 (Y:Int)))∧X < 18446744073709551616∧Y < 18446744073709551616∧Nat.gcd X Y=Nat.gcd (nv a) (nv b)) (λY=>Y) y (by rfl) ?_ ?_
    ·rintro Y e m ⟨X,⟨e5,e7⟩,hX,hY,hg2⟩
     rcases Nat.eq_zero_or_pos Y with h3 | h3
     ·subst h3;rw [Nat.gcd_zero_right] at hg2;have co:=natOf X hX;rw [hg2] at co;rw [hg2] at e5;(focus (refine wkvp (w_3 e5 e7 @Int.natCast_zero) (w_1 co) ?_;(repeat' first|exact w_t|apply w_l);all_goals intros));simp (disch:=omega) only [go_sem]
     ·have hn:(Y:Int)≠0:=by omega
      have hm:=Nat.mod_lt X h3;(focus (refine wkvd (w_4 e5 e7 @Zea hn) w_t w_t ?_;(repeat' first|exact w_t|apply w_l);all_goals intros));exact⟨X%Y,⟨Y,⟨by exact gC,by exact gC⟩,hY,by omega,by rw [←hg2,Nat.gcd_comm X Y,Nat.gcd_rec Y X,Nat.gcd_comm]⟩,hm⟩
    ·exact⟨x,⟨by exact gC,by exact gC⟩,hsx,hsy,hg⟩
   ·have hm:=Nat.mod_lt x h0;have hml:(toL (x%y)).length≤200000000:=Nat.le_trans (Za8 (Nat.le_of_lt hm)) hy
    have hdd:(decide (x < 18446744073709551616) && decide (y < 18446744073709551616))=false:=by
     rw [Bool.and_eq_false_iff,decide_eq_false_iff_not,decide_eq_false_iff_not];omega
    have hgg:Nat.gcd y (x%y)=Nat.gcd (nv a) (nv b):=by rw [←hg,Nat.gcd_comm x y,Nat.gcd_rec y x,Nat.gcd_comm]
    by_cases hsx:x < 18446744073709551616
    ·have hsy:¬y < 18446744073709551616:=λh=>hs ⟨hsx,h⟩;have dx:decide (x < 18446744073709551616)=true:=decide_eq_true hsx;have dy:decide (y < 18446744073709551616)=false:=decide_eq_false hsy
     (repeat' (first|(with_reducible first|refine stp ?_|apply gx1|apply gx2|apply gx3|apply gx4|apply gx5|apply gx6|apply gx7|refine gw0 (cu x hx) ?_ ?_|refine gw0 (cu y hy) ?_ ?_|refine gw0 (cd x y hx hy (by omega)) ?_ ?_)|(with_reducible refine Zbi ?_;intro _)|((with_reducible refine gE ?_);(try simp (disch:=omega) only [go_sem,e0,e1,if_pos hsx,if_neg hsy,dx,dy])<;>first|rfl|omega)|with_reducible refine Zaf (by decide) ?_))
     exact⟨x%y,⟨y,⟨by exact gW e1,by exact gC⟩,hy,hml,hgg⟩,hm⟩
    ·have dx:decide (x < 18446744073709551616)=false:=decide_eq_false hsx;by_cases hsy:y < 18446744073709551616
     ·have dy:decide (y < 18446744073709551616)=true:=decide_eq_true hsy
      (repeat' (first|(with_reducible first|refine stp ?_|apply gx1|apply gx2|apply gx3|apply gx4|apply gx5|apply gx6|apply gx7|refine gw0 (cu x hx) ?_ ?_|refine gw0 (cu y hy) ?_ ?_|refine gw0 (cd x y hx hy (by omega)) ?_ ?_)|(with_reducible refine Zbi ?_;intro _)|((with_reducible refine gE ?_);(try simp (disch:=omega) only [go_sem,e0,e1,if_neg hsx,if_pos hsy,dx,dy])<;>first|rfl|omega)|with_reducible refine Zaf (by decide) ?_))
      exact⟨x%y,⟨y,⟨by exact gW e1,by exact gC⟩,hy,hml,hgg⟩,hm⟩
     ·have dy:decide (y < 18446744073709551616)=false:=decide_eq_false hsy
      (repeat' (first|(with_reducible first|refine stp ?_|apply gx1|apply gx2|apply gx3|apply gx4|apply gx5|apply gx6|apply gx7|refine gw0 (cu x hx) ?_ ?_|refine gw0 (cu y hy) ?_ ?_|refine gw0 (cd x y hx hy (by omega)) ?_ ?_)|(with_reducible refine Zbi ?_;intro _)|((with_reducible refine gE ?_);(try simp (disch:=omega) only [go_sem,e0,e1,if_neg hsx,if_neg hsy,dx,dy])<;>first|rfl|omega)|with_reducible refine Zaf (by decide) ?_))
      exact⟨x%y,⟨y,⟨by exact gW e1,by exact gC⟩,hy,hml,hgg⟩,hm⟩
 ·exact⟨nv a,⟨by exact gC,by exact gC⟩,by omega,by omega,rfl⟩
theorem Zdt (l:List Nat) (hs:l.length≤1000000000) (hl:Lm l):Pure Tryz.prog 148 [lim l] (lim (toL (nv l))):=by
 refine Zaa (tok:=0) (rs:=[.tmp 2]) Tryz.func148 rfl Tryz.ntmps148 Tryz.results148 Tryz.call148 (by rfl) (by simp) ?_;(focus (refine wkvp w_t w_t ?_;(repeat' first|exact w_t|apply w_l);all_goals intros));refine Zal (ι:=Nat) (λk e m=>k≤l.length∧e 0=lim l∧e 3=.v (.int .i64 (k:Int))∧∀j,k≤j→gN l j=0) (λk=>k) l.length (by rfl) ?_ ?_
 ·rintro k e m ⟨hk,e0,e3,hz⟩
  have gl:=Zbw hl (k - 1);have hln:(l.take k).length=k:=by rw [List.length_take];omega
  by_cases h0:k=0
  ·subst h0;have:=Zje hl hk hz (.inl rfl);(focus (refine wkvp (w_3 e0 e3 @Zoq) w_t ?_;(repeat' first|exact w_t|apply w_l);all_goals intros));simp (disch:=omega) only [go_sem];rw [←this];rfl
  ·by_cases h1:gN l (k - 1)=0
   ·(focus (refine wkvp (w_2 e0 e3) w_t ?_;(repeat' first|exact w_t|apply w_l);all_goals intros));exact⟨k - 1,⟨by omega,by exact gW e0,by(simp (disch:=omega) only [go_sem,e3];congr 2;omega),λj hj=>by
     rcases Nat.lt_or_ge j k with h2 | h2
     ·rw [show j=k - 1 by omega];exact h1
     ·exact hz j h2⟩,by omega⟩
   ·have:=Zje hl hk hz (.inr (by omega));(focus (refine wkvp (w_4 e0 e3 @Zoq hln) w_t ?_;(repeat' first|exact w_t|apply w_l);all_goals intros));simp (disch:=omega) only [go_sem,this]
 ·exact⟨Nat.le_refl _,by exact gC,by exact gC,λj hj=>Zdy hj⟩
theorem Zid (n:Nat) (hn:n < 18446744073709551616):Pure Tryz.prog 100 [.v (.int .u64 (n:Int))] (lim (toL n)):=by
 have b1:=(Zah (n:=n) (k:=4)).2 hn;refine Zaa (tok:=0) (rs:=[.tmp 2]) Tryz.func100 rfl Tryz.ntmps100 Tryz.results100 Tryz.call100 (by rfl) (by simp) ?_;(focus (refine wkvp w_t w_t ?_;(repeat' first|exact w_t|apply w_l);all_goals intros));refine Zfo (Frz.nilOwn (d:=3) 11 1 104 (by exact gC)) ?_;refine Zal (ι:=Nat) (λk e m=>k≤n∧e 0=.v (.int .u64 (k:Int))∧∃sv l,e 3=.own 11 sv∧m 11=some (.row sv 104 1 (u16s l) 0)∧l++toL k=toL n) (λk=>k) n (by rfl) ?_ ?_
 ·rintro k e m ⟨hk,e0,sv,l,e3,em,hl⟩
  by_cases hk0:k=0
  ·subst hk0;rw [Za4,List.append_nil] at hl;(focus (refine wkvp (w_3 e0 e3 @Int.natCast_zero) w_t ?_;(repeat' first|exact w_t|apply w_l);all_goals intros));simp (disch:=omega) only [go_sem,em,hl]
  ·have b2:l.length≤(toL n).length:=by rw [←hl];simp
   have hne:k≠0:=hk0;have r1:(k:Int).tmod 65536=((k%65536:Nat):Int):=Zea k 65536;have r2:(k:Int).tdiv 65536=((k/65536:Nat):Int):=Zdu k 65536;have r3:k%65536%65536=k%65536:=Nat.mod_mod _ _;(focus (refine wkvp (w_7 e0 e3 em r1 r2 @Zba r3) w_t ?_;(repeat' first|exact w_t|apply w_l);all_goals intros));refine⟨k/65536,⟨by omega,by exact gW e0,_,l++[k%65536],by exact gC,by exact gC,?_⟩,by omega⟩;rw [←hl,Zep hk0];simp
 ·exact⟨Nat.le_refl _,by exact gC,_,[],by exact gC,by exact gC,by simp⟩
theorem Zph (l:List Nat) (hs:l.length≤4) (hl:Lm l):Pure Tryz.prog 180 [lim l] (.v (.int .u64 (nv l:Nat))):=by
 refine Zaa (tok:=0) (rs:=[.tmp 2]) Tryz.func180 rfl Tryz.ntmps180 Tryz.results180 Tryz.call180 (by rfl) (by simp) ?_;(focus (refine wkvp w_t w_t ?_;(repeat' first|exact w_t|apply w_l);all_goals intros));refine Zal (ι:=Nat) (λk e m=>k≤l.length∧e 0=lim l∧e 4=.v (.int .i64 ((k:Int) - 1))∧e 3=.v (.int .u64 (nv (l.drop k):Nat))) (λk=>k) l.length (by rfl) ?_ ?_
 ·rintro k e m ⟨hk,e0,e4,e3⟩
  by_cases h0:k=0
  ·subst h0;rw [List.drop_zero] at e3;(focus (refine wkvp (w_3 e0 e4 e3) w_t ?_;(repeat' first|exact w_t|apply w_l);all_goals intros));simp (disch:=omega) only [go_sem]
  ·have gl:=Zbw hl (k - 1);have b1:=Zgq (hl.drop k);have b2:65536 ^ (l.drop k).length≤65536 ^ 3:=Nat.pow_le_pow_right (by omega) (by rw [List.length_drop];omega);have e1:(nv (l.drop k):Int)*65536=((nv (l.drop k)*65536:Nat):Int):=by omega
   (focus (refine wkvp (w_5 e0 e4 e3 e1 @Za0) w_t ?_;(repeat' first|exact w_t|apply w_l);all_goals intros));refine⟨k - 1,⟨by omega,by exact gW e0,by(simp (disch:=omega) only [go_sem,e4];congr 2;omega),?_⟩,by omega⟩;simp (disch:=omega) only [go_sem];rw [Zby l (k - 1),show k - 1+1=k by omega];congr 3;omega
 ·exact⟨Nat.le_refl _,by exact gC,by exact gC,by(simp (disch:=omega) only [go_sem,List.drop_length]<;>repeat' first|rfl|refine⟨?_,?_⟩)⟩
theorem Zgz (l:List Nat) (i:Nat) (hs:l.length≤1000000000) (hl:Lm l):Pure Tryz.prog 166 [lim l,.v (.int .i64 (i:Int))] (.v (.int .i64 (gN l i:Nat))):=by
 have gl:=Zbw hl i;refine Zaa (tok:=0) (rs:=[.tmp 4]) Tryz.func166 rfl Tryz.ntmps166 Tryz.results166 Tryz.call166 (by rfl) (by simp) ?_;by_cases h:i < l.length
 ·(focus (refine wkvp w_t w_t ?_;(repeat' first|exact w_t|apply w_l);all_goals intros));simp (disch:=omega) only [go_sem]
 ·have g0:gN l i=0:=Zdy (by omega);(focus (refine wkvp w_t w_t ?_;(repeat' first|exact w_t|apply w_l);all_goals intros));simp (disch:=omega) only [go_sem,g0];rfl
theorem Zry (a b:List Nat) (ha:a.length≤1000000000) (hb:b.length≤1000000000) (la:Lm a) (lb:Lm b):Pure Tryz.prog 172 [lim a,lim b] (.v (.int .i64 (cmpN (nv a) (nv b)))):=by
 have cl:=λi=>Zgz a i ha la;have cr:=λi=>Zgz b i hb lb;refine Zaa (tok:=0) (rs:=[.tmp 4]) Tryz.func172 rfl Tryz.ntmps172 Tryz.results172 Tryz.call172 (by rfl) (by simp) ?_;have hmx:max (a.length:Int) (b.length:Int)=((max a.length b.length:Nat):Int):=by omega
 obtain⟨M,hM⟩:∃M,max a.length b.length=M:=⟨_,rfl⟩;(focus (refine wkvp (w_2 hmx hM) w_t ?_;(repeat' first|exact w_t|apply w_l);all_goals intros));refine Zal (ι:=Nat) (λk e m=>k≤M∧e 0=lim a∧e 1=lim b∧e 5=.v (.int .i64 ((k:Int) - 1))∧nv (a.drop k)=nv (b.drop k)) (λk=>k) M (by rfl) ?_ ?_
 ·rintro k e m ⟨hk,e0,e1,e5,hz⟩
  by_cases h0:k=0
  ·subst h0;rw [List.drop_zero,List.drop_zero] at hz;(focus (refine wkvp (w_3 e0 e1 e5) w_t ?_;(repeat' first|exact w_t|apply w_l);all_goals intros));simp (disch:=omega) only [go_sem,cmpN,hz,Nat.lt_irrefl,if_false]
  ·obtain⟨j,rfl⟩:∃j,k=j+1:=⟨k - 1,by omega⟩;have ej:((j+1:Nat):Int) - 1=(j:Int):=by omega
   rw [ej] at e5;have ga:=Zbw la j;have gb:=Zbw lb j;by_cases p1:gN a j < gN b j
   ·have:=Zpt la lb hz p1;(focus (refine wkvp (w_3 e0 e1 e5) (w_2 (cl j) (cr j)) ?_;(repeat' first|exact w_t|apply w_l);all_goals intros));simp (disch:=omega) only [go_sem,cmpN,if_pos this]
   ·by_cases p2:gN b j < gN a j
    ·have:=Zpt lb la hz.symm p2;have this2:¬nv a < nv b:=by omega
     (focus (refine wkvp (w_3 e0 e1 e5) (w_2 (cl j) (cr j)) ?_;(repeat' first|exact w_t|apply w_l);all_goals intros));simp (disch:=omega) only [go_sem,cmpN,if_pos this,if_neg this2]
    ·(focus (refine wkvp (w_3 e0 e1 e5) (w_2 (cl j) (cr j)) ?_;(repeat' first|exact w_t|apply w_l);all_goals intros));refine⟨j,⟨by omega,by exact gW e0,by exact gW e1,by exact gW e5,?_⟩,by omega⟩;rw [Zby,Zby b,hz];omega
 ·refine⟨Nat.le_refl _,by exact gC,by exact gC,by exact gC,?_⟩;rw [List.drop_eq_nil_of_le (by omega),List.drop_eq_nil_of_le (by omega)]
theorem refAdd (a b:List Nat) (ha:a.length≤400000000) (hb:b.length≤400000000) (la:Lm a) (lb:Lm b):Pure Tryz.prog 152 [lim a,lim b] (lim (toL (nv a+nv b))):=by
 have cl:=λi=>Zgz a i (by omega) la;have cr:=λi=>Zgz b i (by omega) lb;refine Zaa (tok:=0) (rs:=[.tmp 4]) Tryz.func152 rfl Tryz.ntmps152 Tryz.results152 Tryz.call152 (by rfl) (by simp) ?_;(focus (refine wkvp w_t w_t ?_;(repeat' first|exact w_t|apply w_l);all_goals intros));refine Zfo (Frz.nilOwn (d:=5) 39 1 104 (by exact gC)) ?_;refine Zal (ι:=Nat) (λk e m=>k≤max a.length b.length+1∧(e 0=lim a∧e 1=lim b∧e 7=.v (.int .i64 (k:Int)))∧∃sv o c,(e 5=.own 39 sv∧e 6=.v (.int .i64 (c:Nat))∧m 39=some (.row sv 104 1 (u16s o) 0))∧o.length=k∧Lm o∧c≤1∧(max a.length b.length < k→c=0)∧nv o+65536 ^ k*c=nv (a.take k)+nv (b.take k)) (λk=>max a.length b.length+1 - k) 0 (by rfl) ?_ ?_
 ·rintro k e m ⟨hk,⟨e0,e1,e7⟩,sv,o,c,⟨e5,e6,em⟩,hol,hLo,hc,hcz,hv⟩
  by_cases hgo:k < a.length∨k < b.length∨0 < c
  ·have ga:=Zbw la k;have gb:=Zbw lb k;have hs:=Zl3 (x:=gN a k) (y:=gN b k) hv;rw [←Zay,←Zay,←Nat.pow_succ] at hs;have ecomm:gN a k+gN b k+c=c+gN a k+gN b k:=by omega
   have w1:(c+gN a k+gN b k)/65536≤1:=by omega
   have w2:(c+gN a k+gN b k)%65536 < 65536:=Nat.mod_lt _ (by omega);have r1:((c+gN a k+gN b k:Nat):Int).tmod 65536=(((c+gN a k+gN b k)%65536:Nat):Int):=Zea _ 65536;have r2:((c+gN a k+gN b k:Nat):Int).tdiv 65536=(((c+gN a k+gN b k)/65536:Nat):Int):=Zdu _ 65536;have r3:(c+gN a k+gN b k)%65536%65536=(c+gN a k+gN b k)%65536:=Nat.mod_mod _ _;have nvs:nv (o++[(c+gN a k+gN b k)%65536])=nv o+65536 ^ k*((c+gN a k+gN b k)%65536):=by rw [Zda,hol];simp [nv]
   rw [←nvs] at hs
   have hz2:max a.length b.length < k+1→(c+gN a k+gN b k)/65536=0:=by
    intro h;have g1:gN a k=0:=Zdy (by omega);have g2:gN b k=0:=Zdy (by omega);omega
   have hkm:k≤max a.length b.length:=by omega
   have fin:=fun(sv:Value) (e:Nat→AV) (m:Mem) (h1:e 0=lim a∧e 1=lim b∧e 7=.v (.int .i64 ((k+1:Nat):Int))) (h2:e 5=.own 39 sv∧e 6=.v (.int .i64 ((c+gN a k+gN b k)/65536:Nat))∧m 39=some (.row sv 104 1 (u16s (o++[(c+gN a k+gN b k)%65536])) 0)) =>
    show ∃k',(k'≤max a.length b.length+1∧(e 0=lim a∧e 1=lim b∧e 7=.v (.int .i64 (k':Int)))∧∃sv o c,(e 5=.own 39 sv∧e 6=.v (.int .i64 (c:Nat))∧m 39=some (.row sv 104 1 (u16s o) 0))∧o.length=k'∧Lm o∧c≤1∧(max a.length b.length < k'→c=0)∧nv o+65536 ^ k'*c=nv (a.take k')+nv (b.take k'))∧max a.length b.length+1 - k' < max a.length b.length+1 - k from
    ⟨k+1,⟨by omega,h1,sv,_,_,h2,by simp [hol],hLo.append (Lm.one w2),w1,hz2,hs⟩,by omega⟩
   by_cases h3:k < a.length
   ·(focus (refine wkvp (w_14 e0 e1 e7 e5 e6 em hol @Zih @Za0 ecomm r1 r2 r3 @Zba) (w_2 (cl k) (cr k)) ?_;(repeat' first|exact w_t|apply w_l);all_goals intros));exact fin _ _ _ ⟨by exact gW e0,by exact gW e1,by exact gS⟩ ⟨by exact gC,by exact gC,by exact gC⟩
   ·by_cases h4:k < b.length
    ·(focus (refine wkvp (w_14 e0 e1 e7 e5 e6 em hol @Zih @Za0 ecomm r1 r2 r3 @Zba) (w_2 (cl k) (cr k)) ?_;(repeat' first|exact w_t|apply w_l);all_goals intros));exact fin _ _ _ ⟨by exact gW e0,by exact gW e1,by exact gS⟩ ⟨by exact gC,by exact gC,by exact gC⟩
    ·have hc1:0 < c:=by omega
     (focus (refine wkvp (w_14 e0 e1 e7 e5 e6 em hol @Zih @Za0 ecomm r1 r2 r3 @Zba) (w_2 (cl k) (cr k)) ?_;(repeat' first|exact w_t|apply w_l);all_goals intros));exact fin _ _ _ ⟨by exact gW e0,by exact gW e1,by exact gS⟩ ⟨by exact gC,by exact gC,by exact gC⟩
  ·have hc0:c=0:=by omega
   subst hc0;rw [Zbk (by omega),Zbk (by omega),Nat.mul_zero,Nat.add_zero] at hv
   (repeat' (first|(with_reducible first|refine stp ?_|apply gx1|apply gx2|apply gx3|apply gx4|apply gx5|apply gx6|apply gx7|apply gw1 (Zdt o (by omega) hLo))|(with_reducible refine Zbi ?_;intro _)|((with_reducible refine gE ?_);(try simp (disch:=omega) only [go_sem,e0,e1,e7,e5,e6,em])<;>first|rfl|omega)|with_reducible refine Zaf (by decide) ?_))
   simp (disch:=omega) only [go_sem,hv]
 ·exact⟨by omega,⟨by exact gC,by exact gC,by exact gC⟩,_,[],0,⟨by exact gC,by exact gC,by exact gC⟩,rfl,Lm.nil,by omega,λ_=>rfl,by simp [nv]⟩
theorem refSub (a b:List Nat) (ha:a.length≤1000000000) (hb:b.length≤1000000000) (la:Lm a) (lb:Lm b) :
 Pure Tryz.prog 165 [lim a,lim b] (.tup [lim (if nv a < nv b then [] else toL (nv a - nv b)),.v (.int .i64 (if nv a < nv b then 2 else 0))]):=by
 have cl:=λi=>Zgz a i ha la;have cr:=λi=>Zgz b i hb lb;have cc:=Zry a b ha hb la lb;by_cases hlt:nv a < nv b
 ·rw [if_pos hlt,if_pos hlt];refine Pure.wk ?_ (okTup rfl);refine Zaa (tok:=0) (rs:=[.tmp 4,.tmp 5]) Tryz.func165 rfl Tryz.ntmps165 Tryz.results165 Tryz.call165 (by rfl) (by simp) ?_;have hc:cmpN (nv a) (nv b)=-1:=by unfold cmpN;rw [if_pos hlt]
  (focus (refine wkvp (w_1 hc) (w_1 cc) ?_;(repeat' first|exact w_t|apply w_l);all_goals intros));simp (disch:=omega) only [go_sem]
 ·rw [if_neg hlt,if_neg hlt];have hc:0≤cmpN (nv a) (nv b):=by unfold cmpN;rw [if_neg hlt];split<;>omega
  refine Zaa (tok:=0) (rs:=[.tmp 4,.tmp 5]) Tryz.func165 rfl Tryz.ntmps165 Tryz.results165 Tryz.call165 (by rfl) (by simp) ?_;(focus (refine wkvp w_t (w_1 cc) ?_;(repeat' first|exact w_t|apply w_l);all_goals intros));refine Zfo (Frz.nilOwn (d:=6) 37 1 104 (by exact gC)) ?_;refine Zal (ι:=Nat) (λk e m=>k≤a.length∧(e 0=lim a∧e 1=lim b∧e 8=.v (.int .i64 (k:Int)))∧∃sv o r,(e 6=.own 37 sv∧e 7=.v (.int .i64 (r:Nat))∧m 37=some (.row sv 104 1 (u16s o) 0))∧o.length=k∧Lm o∧r≤1∧nv o+nv (b.take k)=nv (a.take k)+65536 ^ k*r) (λk=>a.length - k) 0 (by rfl) ?_ ?_
  ·rintro k e m ⟨hk,⟨e0,e1,e8⟩,sv,o,r,⟨e6,e7,em⟩,hol,hLo,hr,hv⟩
   have ga:=Zbw la k;have gb:=Zbw lb k;by_cases hlt2:k < a.length
   ·have step:∀(d r':Nat),d+r+gN b k=gN a k+65536*r'→d < 65536→r'≤1→(o++[d]).length=k+1∧Lm (o++[d])∧r'≤1∧nv (o++[d])+nv (b.take (k+1))=nv (a.take (k+1))+65536 ^ (k+1)*r':=by
     intro d r' hd h3 h4;have:=Zo6 hv hd;have nvs:nv (o++[d])=nv o+65536 ^ k*d:=by rw [Zda,hol];simp [nv]
     rw [nvs,Zay,Zay,Nat.pow_succ];exact⟨by simp [hol],hLo.append (Lm.one h3),h4,this⟩
    by_cases hneg:gN a k < gN b k+r
    ·have hs:=step (gN a k+65536 - gN b k - r) 1 (by omega) (by omega) (by omega);have w:(gN a k:Int) - gN b k - r+65536=((gN a k+65536 - gN b k - r:Nat):Int):=by omega
     (focus (refine wkvp (w_8 e0 e1 e8 e6 e7 em hol w) (w_2 (cl k) (cr k)) ?_;(repeat' first|exact w_t|apply w_l);all_goals intros));exact⟨k+1,⟨by omega,⟨by exact gW e0,by exact gW e1,by exact gV e8⟩,_,_,1,⟨by exact gC,by exact gC,by exact gC⟩,hs⟩,by omega⟩
    ·have hs:=step (gN a k - gN b k - r) 0 (by omega) (by omega) (by omega);have w:(gN a k:Int) - gN b k - r=((gN a k - gN b k - r:Nat):Int):=by omega
     (focus (refine wkvp (w_8 e0 e1 e8 e6 e7 em hol w) (w_2 (cl k) (cr k)) ?_;(repeat' first|exact w_t|apply w_l);all_goals intros));exact⟨k+1,⟨by omega,⟨by exact gW e0,by exact gW e1,by exact gV e8⟩,_,_,0,⟨by exact gC,by exact gC,by exact gC⟩,hs⟩,by omega⟩
   ·have hka:k=a.length:=by omega
    have hbs:=Zbt b k;have hno:=Zgq hLo;rw [hol] at hno;rw [Zbk (l:=a) (by omega)] at hv
    have hno2:nv o=nv a - nv b:=by
     have hbd:nv (b.drop k)=0:=by
      rcases Nat.eq_zero_or_pos (nv (b.drop k)) with h3 | h3
      ·exact h3
      ·have h4:=Nat.le_mul_of_pos_right (65536 ^ k) h3;have h5:=Zgq la;rw [←hka] at h5;omega
     rw [hbd,Nat.mul_zero,Nat.add_zero] at hbs
     have hr0:r=0:=by
      rcases Nat.eq_zero_or_pos r with h3 | h3
      ·exact h3
      ·have:r=1:=by omega
       subst this;omega
     subst hr0;omega
    (repeat' (first|(with_reducible first|refine stp ?_|apply gx1|apply gx2|apply gx3|apply gx4|apply gx5|apply gx6|apply gx7|apply gw1 (Zdt o (by omega) hLo))|(with_reducible refine Zbi ?_;intro _)|((with_reducible refine gE ?_);(try simp (disch:=omega) only [go_sem,e0,e1,e8,e6,e7,em])<;>first|rfl|omega)|with_reducible refine Zaf (by decide) ?_))
    simp (disch:=omega) only [go_sem,hno2]
  ·exact⟨Nat.zero_le _,⟨by exact gC,by exact gC,by exact gC⟩,_,[],0,⟨by exact gC,by exact gC,by exact gC⟩,rfl,Lm.nil,by omega,by simp [nv]⟩
def valL (l:List Nat):Bool:=decide (l.length=0) || !decide (gN l (l.length - 1)=0)
theorem Zoz {l:List Nat} (h:Lm l):valL l=true↔l=toL (nv l):=by
 unfold valL;constructor
 ·intro h1;refine canon h ?_;simp only [Bool.or_eq_true,decide_eq_true_eq,Bool.not_eq_true',decide_eq_false_iff_not] at h1;rcases h1 with h1 | h1
  ·exact .inl (List.eq_nil_of_length_eq_zero h1)
  ·exact .inr (by omega)
 ·intro h1;by_cases h0:nv l=0
  ·rw [h0,Za4] at h1;subst h1;rfl
  ·obtain⟨h2,h3⟩:=Zdr h0;rw [←h1] at h2 h3;simp only [Bool.or_eq_true,decide_eq_true_eq,Bool.not_eq_true',decide_eq_false_iff_not];exact .inr (by omega)
theorem Zpg (l:List Nat) (hs:l.length≤1000000000) (hl:Lm l):Pure Tryz.prog 137 [lim l] (.v (.bool (valL l))):=by
 refine Zaa (tok:=0) (rs:=[.tmp 2]) Tryz.func137 rfl Tryz.ntmps137 Tryz.results137 Tryz.call137 (by rfl) (by simp) ?_;have gl:=Zbw hl (l.length - 1);unfold valL;by_cases h0:l.length=0
 ·(focus (refine wkvp (w_1 h0) w_t ?_;(repeat' first|exact w_t|apply w_l);all_goals intros));simp (disch:=omega) only [go_sem,h0]
 ·by_cases h1:gN l (l.length - 1)=0
  ·(focus (refine wkvp (w_2 h1 @Int.natCast_zero) w_t ?_;(repeat' first|exact w_t|apply w_l);all_goals intros));simp (disch:=omega) only [go_sem,h0,h1]
  ·(focus (refine wkvp w_t w_t ?_;(repeat' first|exact w_t|apply w_l);all_goals intros));simp (disch:=omega) only [go_sem,h0,h1]
theorem refSameN (a b:List Nat) (ha:a.length≤1000000000) (hb:b.length≤1000000000) (la:Lm a) (lb:Lm b):Pure Tryz.prog 138 [lim a,lim b] (.v (.bool (decide (a=b)))):=by
 refine Zaa (tok:=0) (rs:=[.tmp 4]) Tryz.func138 rfl Tryz.ntmps138 Tryz.results138 Tryz.call138 (by rfl) (by simp) ?_;by_cases hl:a.length=b.length
 ·(focus (refine wkvp (w_1 hl) w_t ?_;(repeat' first|exact w_t|apply w_l);all_goals intros));refine Zal (ι:=Nat) (λk e m=>k≤a.length∧(e 0=lim a∧e 1=lim b∧e 5=.v (.int .i64 (k:Int)))∧∀j,j < k→gN a j=gN b j) (λk=>a.length - k) 0 (by rfl) ?_ ?_
  ·rintro k e m ⟨hk,⟨e0,e1,e5⟩,hs⟩
   by_cases hlt:k < a.length
   ·by_cases p:gN a k=gN b k
    ·(focus (refine wkvd (w_3 e0 e1 e5) w_t w_t ?_;(repeat' first|exact w_t|apply w_l);all_goals intros));exact⟨k+1,⟨by omega,⟨by exact gW e0,by exact gW e1,by exact gV e5⟩,λj hj=>by
      rcases Nat.lt_or_ge j k with h1 | h1
      ·exact hs j h1
      ·rw [show j=k by omega];exact p⟩,by omega⟩
    ·have hne:decide (a=b)=false:=decide_eq_false λh=>p (by rw [h]);(focus (refine wkvd (w_3 e0 e1 e5) w_t w_t ?_;(repeat' first|exact w_t|apply w_l);all_goals intros));simp (disch:=omega) only [go_sem,hne]
   ·have he:decide (a=b)=true:=decide_eq_true (List.ext_getElem hl λj h1 h2=>by
     have:=hs j (by omega)
     rwa [gN_at h1,gN_at h2] at this)
    (focus (refine wkvd (w_3 e0 e1 e5) w_t w_t ?_;(repeat' first|exact w_t|apply w_l);all_goals intros));simp (disch:=omega) only [go_sem,he]
  ·exact⟨Nat.zero_le _,⟨by exact gC,by exact gC,by exact gC⟩,λj hj=>by omega⟩
 ·have hne:decide (a=b)=false:=decide_eq_false λh=>hl (by rw [h]);(focus (refine wkvp w_t w_t ?_;(repeat' first|exact w_t|apply w_l);all_goals intros));simp (disch:=omega) only [go_sem,hne]
theorem Zrx (a b:List Nat) (ha:a.length≤400000000) (hb:b.length≤400000000) (la:Lm a) (lb:Lm b):Pure Tryz.prog 113 [lim a,lim b] (lim (toL (nv a*nv b))):=by
 have cr:=λi=>Zgz b i (by omega) lb;refine Zaa (tok:=0) (rs:=[.tmp 4]) Tryz.func113 rfl Tryz.ntmps113 Tryz.results113 Tryz.call113 (by rfl) (by simp) ?_;(focus (refine wkvp (w_2 @Za0 @Zbr) w_t ?_;(repeat' first|exact w_t|apply w_l);all_goals intros));refine Zal (ι:=Nat) (λi e m=>i≤a.length∧(e 0=lim a∧e 1=lim b∧e 6=.v (.int .i64 i))∧∃sv o,(e 5=.own 16 sv∧m 16=some (.row sv 104 1 (u16s o) 0))∧o.length=a.length+b.length+1∧Lm o∧(∀j,i+b.length≤j→gN o j=0)∧nv o=nv (a.take i)*nv b) (λi=>a.length - i) 0 (by rfl) ?_ ?_
 ·rintro i e m ⟨hi,⟨e0,e1,e6⟩,sv,o,⟨e5,em⟩,hol,hLo,hz,hv⟩
  by_cases hlt:i < a.length
  ·have gx:=Zbw la i;(focus (refine wkvp (w_7 e0 e1 e6 e5 em hol @Za0) w_t ?_;(repeat' first|exact w_t|apply w_l);all_goals intros));refine Zal (ι:=Nat) (λk e' m'=>k≤b.length+1∧(e' 0=lim a∧e' 1=lim b∧e' 6=.v (.int .i64 i)∧e' 8=.v (.int .i64 k)∧e' 5=.own 16 sv)∧∃o' c,(e' 7=.v (.int .u64 (c:Nat))∧m' 16=some (.row sv 104 1 (u16s o') 0))∧o'.length=a.length+b.length+1∧Lm o'∧c < 65536∧(b.length < k→c=0)∧(∀j,i+max b.length k≤j→gN o' j=0)∧nv o'+65536 ^ (i+k)*c=nv o+65536 ^ i*nv (b.take k)*gN a i) (λk=>b.length+1 - k) 0 (by rfl) ?_ ?_
   ·rintro k e m ⟨hk,⟨e0,e1,e6,e8,e5⟩,o',c,⟨e7,em⟩,hol',hLo',hc,hcz,hz',hv'⟩
    have gy:=Zbw lb k;have go:=Zbw hLo' (i+k);have bd:=Zmw gx gy;by_cases hgo:k < b.length∨0 < c
    ·have hkb:k≤b.length:=by
      rcases hgo with h | h
      ·omega
      ·rcases Nat.lt_or_ge b.length k with h2 | h2
       ·have:=hcz h2;omega
       ·exact h2
     have hs:=Zpv (x:=gN a i) (y:=gN b k) rfl (Zmr (o:=o') (j:=i+k) (by omega) _) hv';rw [←Zpw,←Zay,←Nat.pow_succ,Nat.succ_eq_add_one,Nat.add_assoc i] at hs;have ecomm:gN o' (i+k)+gN a i*gN b k+c=c+(gN o' (i+k)+gN a i*gN b k):=by omega
     have hcz2:b.length < k+1→(c+(gN o' (i+k)+gN a i*gN b k))/65536=0:=by
      intro h;have g1:gN b k=0:=Zdy (by omega);have g2:=hz' (i+k) (by omega);rw [g1,g2];omega
     have w1:(c+(gN o' (i+k)+gN a i*gN b k))/65536 < 65536:=by omega
     have w2:(c+(gN o' (i+k)+gN a i*gN b k))%65536 < 65536:=by omega
     generalize hxy:gN a i*gN b k=xy at *;have r1:((c+(gN o' (i+k)+xy):Nat):Int).tmod 65536=(((c+(gN o' (i+k)+xy))%65536:Nat):Int):=Zea _ 65536;have r2:((c+(gN o' (i+k)+xy):Nat):Int).tdiv 65536=(((c+(gN o' (i+k)+xy))/65536:Nat):Int):=Zdu _ 65536;have r3:(c+(gN o' (i+k)+xy))%65536%65536=(c+(gN o' (i+k)+xy))%65536:=Nat.mod_mod _ _;have hzz:∀j,i+max b.length (k+1)≤j→gN (o'.set (i+k) ((c+(gN o' (i+k)+xy))%65536)) j=0:=λj hj=>by
      rw [Ze5 (by omega),if_neg (by omega)];exact hz' j (by omega)
     by_cases h3:k < b.length
     ·(repeat' (first|(with_reducible first|refine stp ?_|apply gx1|apply gx2|apply gx3|apply gx4|apply gx5|apply gx6|apply gx7|apply gy8|apply gz2|apply gz3|refine gw0 (cr k) ?_ ?_|refine gw3 (cr k) ?_ ?_ ?_)|(with_reducible refine Zbi ?_;intro _)|((with_reducible refine gE ?_);(try simp (disch:=omega) only [go_sem,e0,e1,e6,e8,e5,e7,em,hol',Za0,Zec,Zba,hxy,ecomm,r1,r2,r3])<;>first|rfl|omega)|with_reducible refine Zaf (by decide) ?_|((with_reducible apply gy1);iterate 3 focus rfl)|((with_reducible apply gy2);iterate 3 focus rfl)|((with_reducible apply gy3);iterate 2 focus rfl)|((with_reducible apply gy4);iterate 1 focus rfl)|((with_reducible apply gy5);iterate 4 focus rfl)|((with_reducible apply gy5c);iterate 4 focus rfl)|((with_reducible apply gy6);iterate 4 focus rfl)|((with_reducible apply Zc0);iterate 3 focus rfl)|((with_reducible apply Zcx);iterate 1 focus rfl)|((with_reducible apply gy7);iterate 1 focus rfl)|((with_reducible apply gy9);(focus ((with_reducible refine gE ?_);(try simp (disch:=omega) only [go_sem,e0,e1,e6,e8,e5,e7,em,hol',Za0,Zec,Zba,hxy,ecomm,r1,r2,r3])<;>rfl)))|((with_reducible apply gz1);(focus first|rfl|(simp (disch:=omega) only [go_sem,e0,e1,e6,e8,e5,e7,em,hol',Za0,Zec,Zba,hxy,ecomm,r1,r2,r3];done)))|((with_reducible apply Za2 (Zce [(14,.v (.int .i64 (gN b k:Nat)))]) [] []);(focus kernel_rfl);(focus rfl);(focus kernel_rfl);(focus (simp only [List.length_cons,List.length_nil,Nat.reduceAdd];rfl)))))
      exact⟨k+1,⟨by omega,⟨by exact gW e0,by exact gW e1,by exact gW e6,by exact gS,by exact gW e5⟩,_,_,⟨by exact gC,by exact gC⟩,by simpa using hol',hLo'.set _ w2,w1,hcz2,hzz,hs⟩,by omega⟩
     ·have hc1:0 < c:=by omega
      (repeat' (first|(with_reducible first|refine stp ?_|apply gx1|apply gx2|apply gx3|apply gx4|apply gx5|apply gx6|apply gx7|apply gy8|apply gz2|apply gz3|refine gw0 (cr k) ?_ ?_|refine gw3 (cr k) ?_ ?_ ?_)|(with_reducible refine Zbi ?_;intro _)|((with_reducible refine gE ?_);(try simp (disch:=omega) only [go_sem,e0,e1,e6,e8,e5,e7,em,hol',Za0,Zec,Zba,hxy,ecomm,r1,r2,r3])<;>first|rfl|omega)|with_reducible refine Zaf (by decide) ?_|((with_reducible apply gy1);iterate 3 focus rfl)|((with_reducible apply gy2);iterate 3 focus rfl)|((with_reducible apply gy3);iterate 2 focus rfl)|((with_reducible apply gy4);iterate 1 focus rfl)|((with_reducible apply gy5);iterate 4 focus rfl)|((with_reducible apply gy5c);iterate 4 focus rfl)|((with_reducible apply gy6);iterate 4 focus rfl)|((with_reducible apply Zc0);iterate 3 focus rfl)|((with_reducible apply Zcx);iterate 1 focus rfl)|((with_reducible apply gy7);iterate 1 focus rfl)|((with_reducible apply gy9);(focus ((with_reducible refine gE ?_);(try simp (disch:=omega) only [go_sem,e0,e1,e6,e8,e5,e7,em,hol',Za0,Zec,Zba,hxy,ecomm,r1,r2,r3])<;>rfl)))|((with_reducible apply gz1);(focus first|rfl|(simp (disch:=omega) only [go_sem,e0,e1,e6,e8,e5,e7,em,hol',Za0,Zec,Zba,hxy,ecomm,r1,r2,r3];done)))|((with_reducible apply Za2 (Zce [(14,.v (.int .i64 (gN b k:Nat)))]) [] []);(focus kernel_rfl);(focus rfl);(focus kernel_rfl);(focus (simp only [List.length_cons,List.length_nil,Nat.reduceAdd];rfl)))))
      exact⟨k+1,⟨by omega,⟨by exact gW e0,by exact gW e1,by exact gW e6,by exact gS,by exact gW e5⟩,_,_,⟨by exact gC,by exact gC⟩,by simpa using hol',hLo'.set _ w2,w1,hcz2,hzz,hs⟩,by omega⟩
    ·have hc0:c=0:=by omega
     subst hc0;rw [Zbk (l:=b) (by omega),Nat.mul_zero,Nat.add_zero] at hv';(focus (refine wkvd (w_8 e0 e1 e6 e8 e5 e7 em @Int.natCast_zero) w_t w_t ?_;(repeat' first|exact w_t|apply w_l);all_goals intros));refine⟨i+1,⟨by omega,⟨by exact gW e0,by exact gW e1,by exact gS⟩,sv,o',⟨by exact gW e5,by exact gW em⟩,hol',hLo',λj hj=>hz' j (by omega),?_⟩,by omega⟩;rw [hv',hv,Zay,Nat.add_mul];congr 1;simp only [Nat.mul_assoc,Nat.mul_comm,Nat.mul_left_comm]
   ·exact⟨by omega,⟨by exact gW e0,by exact gW e1,by exact gW e6,by exact gC,by exact gW e5⟩,_,0,⟨by exact gC,by exact gW em⟩,hol,hLo,by omega,λ_=>rfl,λj hj=>hz j (by omega),by simp [nv]⟩
  ·have hiA:i=a.length:=by omega
   subst hiA;rw [Zbk (Nat.le_refl _)] at hv
   (repeat' (first|(with_reducible first|refine stp ?_|apply gx1|apply gx2|apply gx3|apply gx4|apply gx5|apply gx6|apply gx7|apply gw1 (Zdt o (by omega) hLo))|(with_reducible refine Zbi ?_;intro _)|((with_reducible refine gE ?_);(try simp (disch:=omega) only [go_sem,e0,e1,e6,e5,em,hol])<;>first|rfl|omega)|with_reducible refine Zaf (by decide) ?_))
   simp (disch:=omega) only [go_sem,hv]
 ·exact⟨Nat.zero_le _,⟨by exact gC,by exact gC,by exact gC⟩,_,List.replicate (a.length+b.length+1) 0,⟨by exact gC,by exact gC⟩,by simp,Lm.zeros _,λj hj=>Zgk _ _,by simp [nv,Zlf]⟩
theorem refDigit (R B:Nat) (hR:(toL R).length≤300000000) (hB:(toL B).length≤200000000) (h0:0 < B) (hlt:R < B*65536):Pure Tryz.prog 181 [lim (toL R),lim (toL B)] (.v (.int .u64 ((R/B:Nat):Int))):=by
 refine Zaa (tok:=0) (rs:=[.tmp 4]) Tryz.func181 rfl Tryz.ntmps181 Tryz.results181 Tryz.call181 (by rfl) (by simp) ?_;(focus (refine wkvp w_t w_t ?_;(repeat' first|exact w_t|apply w_l);all_goals intros));refine Zal (ι:=Nat × Nat) (λp e m=>(e 0=lim (toL R)∧e 1=lim (toL B)∧e 5=.v (.int .u64 (p.1:Int))∧e 6=.v (.int .u64 (p.2:Int)))∧p.1≤p.2∧p.2≤65535∧B*p.1≤R∧R < B*(p.2+1)) (λp=>p.2 - p.1) (0,65535) (by rfl) ?_ ?_
 ·rintro ⟨lo,hi⟩ e m ⟨⟨e0,e1,e5,e6⟩,h1,h2,h3,h4⟩
  simp only at e5 e6 h1 h2 h3 h4;by_cases hlh:lo < hi
  ·obtain⟨mid,hmid⟩:∃mid,(lo+hi+1)/2=mid:=⟨_,rfl⟩;have r2:((lo+hi+1:Nat):Int).tdiv 2=((mid:Nat):Int):=by rw [←hmid];exact Zdu _ 2
   have co:=Zid mid (by omega);have lm:(toL mid).length≤4:=Zah.2 (by omega);have cm:=Zrx (toL B) (toL mid) (by omega) (by omega) (Zav _) (Zav _);rw [Zas,Zas] at cm
   have lbm:(toL (B*mid)).length≤1000000000:=by
    have h5:(toL (B*mid)).length≤(toL B).length+4:=by
     rw [Zah,Nat.pow_add];have h6:=Zah.1 (Nat.le_refl (toL B).length);exact Nat.mul_lt_mul'' h6 (by omega)
    omega
   have cc:=Zry (toL (B*mid)) (toL R) lbm (by omega) (Zav _) (Zav _);rw [Zas,Zas] at cc;by_cases hle:B*mid≤R
   ·have hc:cmpN (B*mid) R≤0:=by unfold cmpN;split;omega;split<;>omega
    (focus (refine wkvp (w_8 e0 e1 e5 e6 @Za0 @Zbr r2 hc) (w_3 co cm cc) ?_;(repeat' first|exact w_t|apply w_l);all_goals intros));exact⟨(mid,hi),⟨⟨by exact gW e0,by exact gW e1,by exact gC,by exact gW e6⟩,by omega,h2,hle,h4⟩,by simp only;omega⟩
   ·have hc:0 < cmpN (B*mid) R:=by unfold cmpN;rw [if_neg (by omega),if_pos (by omega)];omega
    have em1:(mid:Int) - 1=((mid - 1:Nat):Int):=by omega
    (focus (refine wkvp (w_9 e0 e1 e5 e6 @Za0 @Zbr r2 hc em1) (w_3 co cm cc) ?_;(repeat' first|exact w_t|apply w_l);all_goals intros));exact⟨(lo,mid - 1),⟨⟨by exact gW e0,by exact gW e1,by exact gW e5,by exact gC⟩,by simp only;omega,by simp only;omega,h3,by simp only;rw [show mid - 1+1=mid by omega];omega⟩,by simp only;omega⟩
  ·have hh:lo=hi:=by omega
   subst hh;have hd:R/B=lo:=Nat.div_eq_of_lt_le (by rw [Nat.mul_comm];exact h3) (by rw [Nat.mul_comm];exact h4);(focus (refine wkvp (w_4 e0 e1 e5 e6) w_t ?_;(repeat' first|exact w_t|apply w_l);all_goals intros));simp (disch:=omega) only [go_sem,hd]
 ·exact⟨⟨by exact gC,by exact gC,by exact gC,by exact gC⟩,by simp,by simp,by simp,by simpa using hlt⟩
theorem Zl6 (x:Nat) (l:List Nat):AV.v (.int .u16 (x:Int)) :: u16s l=u16s (x :: l):=rfl
theorem Zme (a b:List Nat) (ha:a.length≤200000000) (hb:b.length≤200000000) (la:Lm a) (lb:Lm b) (h0:nv b≠0):Pure Tryz.prog 149 [lim a,lim b] (.tup [lim (toL (nv a/nv b)),lim (toL (nv a%nv b)),.v (.int .i64 0)]):=by
 have h1:=Zax la;have h2:=Zax lb;have va:=Zas (nv a);have vb:=Zas (nv b);have ma:=Zav (nv a);have mb:=Zav (nv b);have hb1:=(Zdr h0).1;have hbp:=Nat.pos_of_ne_zero h0;by_cases h4:(toL (nv a)).length≤4∧(toL (nv b)).length≤4
 ·obtain⟨h4a,h4b⟩:=h4;have ca:=Zph (toL (nv a)) h4a ma;have cb:=Zph (toL (nv b)) h4b mb;rw [va] at ca;rw [vb] at cb;have hA:=Zah.1 h4a;have hB:=Zah.1 h4b;have hq:=Nat.div_le_self (nv a) (nv b);have hr:=Nat.mod_le (nv a) (nv b);have cq:=Zid (nv a/nv b) (by omega);have cr:=Zid (nv a%nv b) (by omega);have wq:IntKind.u64.wrap ((nv a/nv b:Nat):Int)=((nv a/nv b:Nat):Int):=Ze9 (Int.natCast_nonneg _) (by
   have:((nv a/nv b:Nat):Int)≤(nv a:Int):=Int.ofNat_le.2 hq;omega)
  have hn:((nv b:Nat):Int)≠0:=by omega
  refine Zaa (tok:=0) (rs:=[.tmp 4,.tmp 5,.tmp 6]) Tryz.func149 rfl Tryz.ntmps149 Tryz.results149 Tryz.call149 (by rfl) (by simp) ?_;(focus (refine wkvd (w_4 @Zdu @Zea wq hn) (w_6 (Zdt a (by omega) la) (Zdt b (by omega) lb) ca cb cq cr) w_t ?_;(repeat' first|exact w_t|apply w_l);all_goals intros));simp (disch:=omega) only [go_sem]
 ·have h4':((toL (nv a)).length≤4)→4 < (toL (nv b)).length:=λh=>by
   rcases Nat.lt_or_ge 4 (toL (nv b)).length with h3 | h3
   ·exact h3
   ·exact absurd ⟨h,h3⟩ h4
  obtain⟨A,hA⟩:∃A,toL (nv a)=A:=⟨_,rfl⟩;rw [hA] at va ma h1 h4';refine Zaa (tok:=0) (rs:=[.tmp 4,.tmp 5,.tmp 6]) Tryz.func149 rfl Tryz.ntmps149 Tryz.results149 Tryz.call149 (by rfl) (by simp) ?_;rcases Nat.lt_or_ge 4 A.length with h5 | h5
  rotate_left
  have h6:=h4' h5;all_goals
   (focus (refine wkvp (w_1 hA) (w_2 (Zdt a (by omega) la) (Zdt b (by omega) lb)) ?_;(repeat' first|exact w_t|apply w_l);all_goals intros));rw [hA];refine Zfo (Frz.trans (Frz.nil (d:=7) 1 (by exact gC)) (Frz.nil (d:=8) 1 (by exact gC))) ?_;refine r_loopF (ι:=Nat) (λk e m=>k≤A.length∧(e 0=lim A∧e 1=lim (toL (nv b))∧e 9=.v (.int .i64 ((k:Int) - 1)))∧∃ql R,(e 7=lim ql∧e 8=lim (toL R))∧ql.length=A.length - k∧Lm ql∧R < nv b∧nv (A.drop k)=nv ql*nv b+R) (λk=>k) A.length (by rfl) ?_ ?_
   ·rintro k e m ⟨hk,⟨e0,e1,e9⟩,ql,R,⟨e7,e8⟩,hql,hqL,hR,hv⟩
    by_cases hk0:k=0
    ·subst hk0;rw [List.drop_zero,va] at hv;have hq:nv ql=nv a/nv b:=by rw [hv,Nat.mul_comm,Nat.mul_add_div hbp,Nat.div_eq_of_lt hR,Nat.add_zero]
     have hr:R=nv a%nv b:=by rw [hv,Nat.mul_comm,Nat.mul_add_mod,Nat.mod_eq_of_lt hR]
     have cn:=Zdt ql (by omega) hqL;rw [hq] at cn;rw [hr] at e8;(focus (refine wkvp (w_5 e0 e1 e9 e7 e8) (w_1 cn) ?_;(repeat' first|exact w_t|apply w_l);all_goals intros));simp (disch:=omega) only [go_sem]
    ·obtain⟨j,rfl⟩:∃j,k=j+1:=⟨k - 1,by omega⟩;have ej:((j+1:Nat):Int) - 1=(j:Int):=by omega
     rw [ej] at e9;have gx:=Zbw ma j;have hRl:(toL R).length≤(toL (nv b)).length:=Za8 (by omega);have cn:=Zdt (gN A j :: toL R) (by simp;omega) (λy hy=>by
      rcases List.mem_cons.1 hy with rfl | hy
      ·exact gx
      ·exact Zav R y hy)
     have en:nv (gN A j :: toL R)=gN A j+65536*R:=by rw [nv,Zas]
     rw [en] at cn;have hX:gN A j+65536*R < nv b*65536:=by omega
     obtain⟨X,hXd⟩:∃X,gN A j+65536*R=X:=⟨_,rfl⟩;rw [hXd] at cn hX
     have hXl:(toL X).length≤(toL (nv b)).length+1:=by
      rw [Zah,Nat.pow_succ];exact Nat.lt_of_lt_of_le hX (Nat.mul_le_mul_right _ (Nat.le_of_lt (Zah.1 (Nat.le_refl (toL (nv b)).length))))
     have cd:=refDigit X (nv b) (by omega) (by omega) hbp hX;have hd:X/nv b < 65536:=by rw [Nat.div_lt_iff_lt_mul hbp,Nat.mul_comm];exact hX
     have hdm:=Nat.div_add_mod X (nv b);have hml:=Nat.mod_lt X hbp;have co:=Zid (X/nv b) (by omega);have ld:(toL (X/nv b)).length≤1:=Zah.2 (by omega);have cm:=Zrx (toL (nv b)) (toL (X/nv b)) (by omega) (by omega) (Zav _) (Zav _);rw [Zas,Zas] at cm;have hle:nv b*(X/nv b)≤X:=by omega
     have cs:=refSub (toL X) (toL (nv b*(X/nv b))) (by omega) (Nat.le_trans (Za8 hle) (by omega)) (Zav _) (Zav _);rw [Zas,Zas,if_neg (by omega),if_neg (by omega),show X - nv b*(X/nv b)=X%nv b by omega] at cs;have hcut:X/nv b%65536=X/nv b:=Nat.mod_eq_of_lt hd
     (repeat' (first|(with_reducible first|refine stp ?_|apply gx1|apply gx2|apply gx3|apply gx4|apply gx5|apply gx6|apply gx7|apply gw1 (cn)|refine gw0 (cd) ?_ ?_|refine gw0 (co) ?_ ?_|refine gw0 (cm) ?_ ?_|refine gw0 (cs) ?_ ?_)|(with_reducible refine Zbi ?_;intro _)|((with_reducible refine gE ?_);(try simp (disch:=omega) only [go_sem,e0,e1,e9,e7,e8,Zl6,Zba,hcut])<;>first|rfl|omega)|with_reducible refine Zaf (by decide) ?_))
     refine⟨j,_,Frz.own (d:=7) (by exact gC) (by exact gC),⟨by omega,⟨by exact gW e0,by exact gW e1,by exact gC⟩,X/nv b :: ql,X%nv b,⟨by(simp (disch:=omega) only [go_sem,Zl6]<;>repeat' first|rfl|refine⟨?_,?_⟩),by exact gC⟩,by simp [hql];omega,?_,hml,?_⟩,by omega⟩
     ·intro y hy;rcases List.mem_cons.1 hy with rfl | hy
      ·exact hd
      ·exact hqL y hy
     ·rw [Zby,hv,nv,Nat.add_mul,Nat.mul_add 65536,←hXd];rw [←hXd] at hdm;rw [Nat.mul_comm] at hdm;have:65536*(nv ql*nv b)=65536*nv ql*nv b:=by rw [Nat.mul_assoc]
      omega
   ·exact⟨Nat.le_refl _,⟨by exact gC,by exact gC,by exact gC⟩,[],0,⟨by(simp (disch:=omega) only [go_sem,Zo3]<;>repeat' first|rfl|refine⟨?_,?_⟩),by(simp (disch:=omega) only [go_sem,Za4,Zo3]<;>repeat' first|rfl|refine⟨?_,?_⟩)⟩,by simp,Lm.nil,hbp,by rw [List.drop_eq_nil_of_le (Nat.le_refl _)];simp [nv]⟩
theorem refGcd (a b:List Nat) (ha:a.length≤200000000) (hb:b.length≤200000000) (la:Lm a) (lb:Lm b):Pure Tryz.prog 139 [lim a,lim b] (lim (toL (Nat.gcd (nv a) (nv b)))):=by
 have h1:=Zax la;have h2:=Zax lb
 have cd:∀x y:Nat,(toL x).length≤200000000→(toL y).length≤200000000→y≠0→Pure Tryz.prog 149 [lim (toL x),lim (toL y)] (.tup [lim (toL (x/y)),lim (toL (x%y)),.v (.int .i64 0)]):=by
  intro x y hx hy h0;have:=Zme (toL x) (toL y) hx hy (Zav x) (Zav y) (by rw [Zas];exact h0)
  rwa [Zas,Zas] at this
 refine Zaa (tok:=0) (rs:=[.tmp 4]) Tryz.func139 rfl Tryz.ntmps139 Tryz.results139 Tryz.call139 (by rfl) (by simp) ?_;(focus (refine wkvp w_t (w_2 (Zdt a (by omega) la) (Zdt b (by omega) lb)) ?_;(repeat' first|exact w_t|apply w_l);all_goals intros));refine Zal (ι:=Nat) (λy e m=>∃x,(e 0=lim (toL x)∧e 1=lim (toL y))∧(toL x).length≤200000000∧(toL y).length≤200000000∧Nat.gcd x y=Nat.gcd (nv a) (nv b)) (λy=>y) (nv b) (by rfl) ?_ ?_
 ·rintro y e m ⟨x,⟨e0,e1⟩,hx,hy,hg⟩
  rcases Nat.eq_zero_or_pos y with h0 | h0
  ·subst h0;have hl:=Zbn.2 (rfl:(0:Nat)=0);rw [Nat.gcd_zero_right] at hg;(focus (refine wkvp (w_3 e0 e1 hl) w_t ?_;(repeat' first|exact w_t|apply w_l);all_goals intros));simp (disch:=omega) only [go_sem,hg]
  ·have hl:0 < (toL y).length:=by
    have:=(Zdr (show y≠0 by omega)).1;omega
   have hm:=Nat.mod_lt x h0;have hml:(toL (x%y)).length≤200000000:=Nat.le_trans (Za8 (Nat.le_of_lt hm)) hy;have hgg:Nat.gcd y (x%y)=Nat.gcd (nv a) (nv b):=by rw [←hg,Nat.gcd_comm x y,Nat.gcd_rec y x,Nat.gcd_comm]
   (focus (refine wkvp (w_2 e0 e1) (w_1 (cd x y hx hy (by omega))) ?_;(repeat' first|exact w_t|apply w_l);all_goals intros));exact⟨x%y,⟨y,⟨by exact gW e1,by exact gC⟩,hy,hml,hgg⟩,hm⟩
 ·exact⟨nv a,⟨by exact gC,by exact gC⟩,by omega,by omega,rfl⟩
theorem nAdd (n m:Nat) (hn:(toL n).length≤100000000) (hm:(toL m).length≤100000000):Pure Tryz.prog 188 [lim (toL n),lim (toL m)] (lim (toL (n+m))):=by
 have:=natAdd (toL n) (toL m) (by omega) (by omega) (Zav _) (Zav _)
 rwa [Zas,Zas] at this
theorem nMul (n m:Nat) (hn:(toL n).length≤100000000) (hm:(toL m).length≤100000000):Pure Tryz.prog 128 [lim (toL n),lim (toL m)] (lim (toL (n*m))):=by
 have:=natMul (toL n) (toL m) (by omega) (by omega) (Zav _) (Zav _)
 rwa [Zas,Zas] at this
theorem nCmp (n m:Nat) (hn:(toL n).length≤100000000) (hm:(toL m).length≤100000000):Pure Tryz.prog 173 [lim (toL n),lim (toL m)] (.v (.int .i64 (cmpN n m))):=by
 have:=Zpu (toL n) (toL m) (by omega) (by omega) (Zav _) (Zav _)
 rwa [Zas,Zas] at this
theorem nSub (n m:Nat) (hn:(toL n).length≤100000000) (hm:(toL m).length≤100000000):Pure Tryz.prog 189 [lim (toL n),lim (toL m)] (.tup [lim (if n < m then [] else toL (n - m)),.v (.int .i64 (if n < m then 2 else 0))]):=by
 have:=natSub (toL n) (toL m) (by omega) (by omega) (Zav _) (Zav _)
 rwa [Zas,Zas] at this
theorem Zsk (n m:Nat) (hn:(toL n).length≤100000000) (hm:(toL m).length≤100000000) (h0:m≠0):Pure Tryz.prog 144 [lim (toL n),lim (toL m)] (.tup [lim (toL (n/m)),lim (toL (n%m)),.v (.int .i64 0)]):=by
 have:=Zmv (toL n) (toL m) (by omega) (by omega) (Zav _) (Zav _) (by rw [Zas];exact h0)
 rwa [Zas,Zas] at this
theorem nGcd (n m:Nat) (hn:(toL n).length≤100000000) (hm:(toL m).length≤100000000):Pure Tryz.prog 87 [lim (toL n),lim (toL m)] (lim (toL (Nat.gcd n m))):=by
 have:=natGcd (toL n) (toL m) (by omega) (by omega) (Zav _) (Zav _)
 rwa [Zas,Zas] at this
theorem Zoi (n:Nat) (hn:(toL n).length≤100000000):Pure Tryz.prog 141 [lim (toL n)] (lim (toL n)):=by
 have:=Zlh (toL n) (by omega) (Zav _)
 rwa [Zas] at this
theorem Zsl (n:Nat) (hn:(toL n).length≤100000000):Pure Tryz.prog 145 [lim (toL n)] (.v (.int .i64 (Zl0 n:Nat))):=by
 have:=natBits (toL n) (by omega) (Zav _)
 rwa [Zas] at this
theorem rAdd (n m:Nat) (hn:(toL n).length≤100000000) (hm:(toL m).length≤100000000):Pure Tryz.prog 152 [lim (toL n),lim (toL m)] (lim (toL (n+m))):=by
 have:=refAdd (toL n) (toL m) (by omega) (by omega) (Zav _) (Zav _)
 rwa [Zas,Zas] at this
theorem rMul (n m:Nat) (hn:(toL n).length≤100000000) (hm:(toL m).length≤100000000):Pure Tryz.prog 113 [lim (toL n),lim (toL m)] (lim (toL (n*m))):=by
 have:=Zrx (toL n) (toL m) (by omega) (by omega) (Zav _) (Zav _)
 rwa [Zas,Zas] at this
theorem rCmp (n m:Nat) (hn:(toL n).length≤100000000) (hm:(toL m).length≤100000000):Pure Tryz.prog 172 [lim (toL n),lim (toL m)] (.v (.int .i64 (cmpN n m))):=by
 have:=Zry (toL n) (toL m) (by omega) (by omega) (Zav _) (Zav _)
 rwa [Zas,Zas] at this
theorem rSub (n m:Nat) (hn:(toL n).length≤100000000) (hm:(toL m).length≤100000000):Pure Tryz.prog 165 [lim (toL n),lim (toL m)] (.tup [lim (if n < m then [] else toL (n - m)),.v (.int .i64 (if n < m then 2 else 0))]):=by
 have:=refSub (toL n) (toL m) (by omega) (by omega) (Zav _) (Zav _)
 rwa [Zas,Zas] at this
theorem Zr3 (n m:Nat) (hn:(toL n).length≤100000000) (hm:(toL m).length≤100000000) (h0:m≠0):Pure Tryz.prog 149 [lim (toL n),lim (toL m)] (.tup [lim (toL (n/m)),lim (toL (n%m)),.v (.int .i64 0)]):=by
 have:=Zme (toL n) (toL m) (by omega) (by omega) (Zav _) (Zav _) (by rw [Zas];exact h0)
 rwa [Zas,Zas] at this
theorem rGcd (n m:Nat) (hn:(toL n).length≤100000000) (hm:(toL m).length≤100000000):Pure Tryz.prog 139 [lim (toL n),lim (toL m)] (lim (toL (Nat.gcd n m))):=by
 have:=refGcd (toL n) (toL m) (by omega) (by omega) (Zav _) (Zav _)
 rwa [Zas,Zas] at this
theorem rNorm (n:Nat) (hn:(toL n).length≤100000000):Pure Tryz.prog 148 [lim (toL n)] (lim (toL n)):=by
 have:=Zdt (toL n) (by omega) (Zav _)
 rwa [Zas] at this
theorem szB:szOf Tryz.prog 4=some 1:=by kernel_rfl
theorem zB:Zb1 Tryz.prog 4=some (.bool false):=by kernel_rfl
theorem Zcp:szOf Tryz.prog 40=some 1:=by kernel_rfl
theorem zNat:Zb1 Tryz.prog 40=some (.slice none 0 0):=by kernel_rfl
theorem Zcq:szOf Tryz.prog 42=some 2:=by kernel_rfl
theorem zInt:Zb1 Tryz.prog 42=some (.agg #[.bool false,.slice none 0 0]):=by kernel_rfl
theorem Zco:szOf Tryz.prog 44=some 3:=by kernel_rfl
theorem zRat:Zb1 Tryz.prog 44=some (.agg #[.bool false,.slice none 0 0,.slice none 0 0]):=by kernel_rfl
abbrev intA (s:Bool) (n:Nat):AV:=.agg [.v (.bool s),lim (toL n)]
def zI (s:Bool) (n:Nat):Int:=if s then -(n:Int) else n
abbrev intZ (z:Int):AV:=intA (decide (z < 0)) z.natAbs
theorem Zcf (z:Int):zI (decide (z < 0)) z.natAbs=z:=by
 unfold zI;by_cases h:z < 0
 ·rw [if_pos (by simpa using h)];omega
 ·rw [if_neg (by simpa using h)];omega
theorem Zdm (s:Bool) (n:Nat):(zI s n).natAbs=n:=by cases s<;>simp [zI]
theorem zI_lt (s:Bool) (n:Nat):decide (zI s n < 0)=(s && decide (0 < n)):=by
 cases s
 ·simp [zI]
 ·simp only [zI,if_true,Bool.true_and];by_cases h:0 < n
  ·rw [decide_eq_true (by omega),decide_eq_true h]
  ·rw [decide_eq_false (by omega),decide_eq_false h]
theorem Zhz (s:Bool) (n:Nat):intZ (zI s n)=.agg [.v (.bool (s && decide (0 < n))),lim (toL n)]:=by
 unfold intZ intA;rw [zI_lt,Zdm]
theorem Zbx {n:Nat}:(0 < (toL n).length)↔0 < n:=by
 have:=@Zbn n;omega
attribute [local go_sem] Tryz.underlying4 Tryz.underlying42 Tryz.underlying44 Tryz.underlying27 Tryz.underlying141 szB zB Zcp zNat Zcq zInt Zco zRat
theorem Zh0 (s:Bool) (n:Nat) (hn:(toL n).length≤1000000000):Pure Tryz.prog 167 [.v (.bool s),lim (toL n)] (intZ (zI s n)):=by
 rw [Zhz];have hp:=@Zbx n;cases s
 ·refine Zaa (tok:=0) Tryz.func167 rfl Tryz.ntmps167 Tryz.results167 Tryz.call167 (by rfl) (by simp) ?_;(focus (refine wkvp w_t w_t ?_;(repeat' first|exact w_t|apply w_l);all_goals intros));simp (disch:=omega) only [go_sem,Bool.false_and]
 ·by_cases h:0 < n
  ·refine Zaa (tok:=0) Tryz.func167 rfl Tryz.ntmps167 Tryz.results167 Tryz.call167 (by rfl) (by simp) ?_;(focus (refine wkvp w_t w_t ?_;(repeat' first|exact w_t|apply w_l);all_goals intros));simp (disch:=omega) only [go_sem,decide_eq_true h]
  ·refine Zaa (tok:=0) Tryz.func167 rfl Tryz.ntmps167 Tryz.results167 Tryz.call167 (by rfl) (by simp) ?_;(focus (refine wkvp w_t w_t ?_;(repeat' first|exact w_t|apply w_l);all_goals intros));simp (disch:=omega) only [go_sem,decide_eq_false h]
theorem intOf' (s:Bool) (n:Nat) (hn:(toL n).length≤100000000):Pure Tryz.prog 187 [.v (.bool s),lim (toL n)] (intZ (zI s n)):=by
 rw [Zhz];have hp:=@Zbx n;cases s
 ·refine Zaa (tok:=0) Tryz.func187 rfl Tryz.ntmps187 Tryz.results187 Tryz.call187 (by rfl) (by simp) ?_;(focus (refine wkvp w_t (w_1 (Zoi n hn)) ?_;(repeat' first|exact w_t|apply w_l);all_goals intros));simp (disch:=omega) only [go_sem,Bool.false_and]
 ·by_cases h:0 < n
  ·refine Zaa (tok:=0) Tryz.func187 rfl Tryz.ntmps187 Tryz.results187 Tryz.call187 (by rfl) (by simp) ?_;(focus (refine wkvp w_t (w_1 (Zoi n hn)) ?_;(repeat' first|exact w_t|apply w_l);all_goals intros));simp (disch:=omega) only [go_sem,decide_eq_true h]
  ·refine Zaa (tok:=0) Tryz.func187 rfl Tryz.ntmps187 Tryz.results187 Tryz.call187 (by rfl) (by simp) ?_;(focus (refine wkvp w_t (w_1 (Zoi n hn)) ?_;(repeat' first|exact w_t|apply w_l);all_goals intros));simp (disch:=omega) only [go_sem,decide_eq_false h]
theorem intNorm (s:Bool) (n:Nat) (hn:(toL n).length≤100000000):Pure Tryz.prog 168 [intA s n] (intZ (zI s n)):=by
 refine Zaa (tok:=0) Tryz.func168 rfl Tryz.ntmps168 Tryz.results168 Tryz.call168 (by rfl) (by simp) ?_;(focus (refine wkvp w_t (w_1 (intOf' s n hn)) ?_;(repeat' first|exact w_t|apply w_l);all_goals intros));simp (disch:=omega) only [go_sem]
theorem Zor (s:Bool) (n:Nat) (hn:(toL n).length≤100000000):Pure Tryz.prog 89 [intA s n] (.v (.int .i64 (zI s n).sign)):=by
 by_cases h:n=0
 ·have hb:Zl0 n=0:=Zgm.2 h;have hz:(zI s n).sign=0:=by subst h;cases s<;>rfl
  rw [hz];refine Zaa (tok:=0) Tryz.func89 rfl Tryz.ntmps89 Tryz.results89 Tryz.call89 (by rfl) (by simp) ?_;(focus (refine wkvp (w_2 hb @Int.natCast_zero) (w_1 (Zsl n hn)) ?_;(repeat' first|exact w_t|apply w_l);all_goals intros));simp (disch:=omega) only [go_sem]
 ·have hb:Zl0 n≠0:=λe=>h (Zgm.1 e);cases s
  ·have hz:(zI false n).sign=1:=Int.sign_eq_one_of_pos (by simp [zI];omega);rw [hz];refine Zaa (tok:=0) Tryz.func89 rfl Tryz.ntmps89 Tryz.results89 Tryz.call89 (by rfl) (by simp) ?_;(focus (refine wkvp w_t (w_1 (Zsl n hn)) ?_;(repeat' first|exact w_t|apply w_l);all_goals intros));simp (disch:=omega) only [go_sem]
  ·have hz:(zI true n).sign=-1:=Int.sign_eq_neg_one_of_neg (by simp [zI];omega);rw [hz];refine Zaa (tok:=0) Tryz.func89 rfl Tryz.ntmps89 Tryz.results89 Tryz.call89 (by rfl) (by simp) ?_;(focus (refine wkvp w_t (w_1 (Zsl n hn)) ?_;(repeat' first|exact w_t|apply w_l);all_goals intros));simp (disch:=omega) only [go_sem]
def cmpZ (a b:Int):Int:=if a < b then -1 else if b < a then 1 else 0
theorem Zsu (n m:Nat) (hn:(toL n).length≤100000000) (hm:(toL m).length≤100000000):Pure Tryz.prog 179 [lim (toL n),lim (toL m)] (.v (.int .i64 (cmpN n m))):=by
 refine Zaa (tok:=0) Tryz.func179 rfl Tryz.ntmps179 Tryz.results179 Tryz.call179 (by rfl) (by simp) ?_;(focus (refine wkvp w_t (w_1 (nCmp n m hn hm)) ?_;(repeat' first|exact w_t|apply w_l);all_goals intros));simp (disch:=omega) only [go_sem]
theorem intCmp (s t:Bool) (n m:Nat) (hn:(toL n).length≤100000000) (hm:(toL m).length≤100000000):Pure Tryz.prog 147 [intA s n,intA t m] (.v (.int .i64 (cmpZ (zI s n) (zI t m)))):=by
 have cs:=Zor s n hn;have ct:=Zor t m hm;rcases Int.lt_trichotomy (zI s n).sign (zI t m).sign with h | h | h
 ·have hc:cmpZ (zI s n) (zI t m)=-1:=by
   unfold cmpZ;rw [if_pos];rcases Int.lt_trichotomy (zI s n) 0 with h1 | h1 | h1<;>rcases Int.lt_trichotomy (zI t m) 0 with h2 | h2 | h2<;>first
    | omega
    | (exfalso;simp [Int.sign_eq_neg_one_of_neg,Int.sign_eq_one_of_pos,h1,h2] at h)
  rw [hc];refine Zaa (tok:=0) Tryz.func147 rfl Tryz.ntmps147 Tryz.results147 Tryz.call147 (by rfl) (by simp) ?_;(focus (refine wkvd w_t (w_2 cs ct) (w_1 (w_d 1 [(1,.v (.int .i64 (zI s n).sign)),(3,.v (.int .i64 (zI t m).sign))] [] [])) ?_;(repeat' first|exact w_t|apply w_l);all_goals intros));simp (disch:=omega) only [go_sem]
 ·have hcc:cmpZ (zI s n) (zI t m)=if (zI s n).sign < 0 then cmpN m n else cmpN n m:=by
   unfold cmpZ cmpN;cases s<;>cases t<;>simp only [zI,if_true,Bool.false_eq_true,if_false] at h ⊢
   ·have hs0:¬(n:Int).sign < 0:=by
     have:=Int.sign_nonneg_iff.2 (Int.natCast_nonneg n);omega
    simp only [hs0,if_false,Int.ofNat_lt]
   ·have h1:=Int.sign_nonneg_iff.2 (Int.natCast_nonneg n)
    have h2:(-(m:Int)).sign≤0:=by
     rcases Nat.eq_zero_or_pos m with h3 | h3
     ·subst h3;simp
     ·rw [Int.sign_eq_neg_one_of_neg (by omega)];omega
    have h3:(n:Int).sign=0:=by omega
    have h4:n=0:=by have:=Int.sign_eq_zero_iff_zero.1 h3;omega
    have h5:m=0:=by rw [h3] at h;have:=Int.sign_eq_zero_iff_zero.1 h.symm;omega
    subst h4;subst h5;simp
   ·have h1:=Int.sign_nonneg_iff.2 (Int.natCast_nonneg m)
    have h2:(-(n:Int)).sign≤0:=by
     rcases Nat.eq_zero_or_pos n with h3 | h3
     ·subst h3;simp
     ·rw [Int.sign_eq_neg_one_of_neg (by omega)];omega
    have h3:(m:Int).sign=0:=by omega
    have h4:m=0:=by have:=Int.sign_eq_zero_iff_zero.1 h3;omega
    have h5:n=0:=by rw [h3] at h;have:=Int.sign_eq_zero_iff_zero.1 h;omega
    subst h4;subst h5;simp
   ·rcases Nat.eq_zero_or_pos n with h3 | h3
    ·subst h3;have h5:m=0:=by have:=Int.sign_eq_zero_iff_zero.1 h.symm;omega
     subst h5;simp
    ·rw [if_pos (c:=(-(n:Int)).sign < 0) (by rw [Int.sign_eq_neg_one_of_neg (by omega)];omega)];have e1:(-(n:Int) < -(m:Int))↔m < n:=by omega
     have e2:(-(m:Int) < -(n:Int))↔n < m:=by omega
     simp only [e1,e2]
  rw [hcc];by_cases hneg:(zI s n).sign < 0
  ·rw [if_pos hneg];refine Zaa (tok:=0) Tryz.func147 rfl Tryz.ntmps147 Tryz.results147 Tryz.call147 (by rfl) (by simp) ?_;(focus (refine wkvd w_t (w_3 cs ct (Zsu m n hm hn)) (w_1 (w_d 1 [(1,.v (.int .i64 (zI s n).sign)),(3,.v (.int .i64 (zI t m).sign))] [] [])) ?_;(repeat' first|exact w_t|apply w_l);all_goals intros));simp (disch:=omega) only [go_sem]
  ·rw [if_neg hneg];refine Zaa (tok:=0) Tryz.func147 rfl Tryz.ntmps147 Tryz.results147 Tryz.call147 (by rfl) (by simp) ?_;(focus (refine wkvd w_t (w_3 cs ct (Zsu n m hn hm)) (w_1 (w_d 1 [(1,.v (.int .i64 (zI s n).sign)),(3,.v (.int .i64 (zI t m).sign))] [] [])) ?_;(repeat' first|exact w_t|apply w_l);all_goals intros));simp (disch:=omega) only [go_sem]
 ·have hc:cmpZ (zI s n) (zI t m)=1:=by
   have h0:zI t m < zI s n:=by
    rcases Int.lt_trichotomy (zI s n) 0 with h1 | h1 | h1<;>rcases Int.lt_trichotomy (zI t m) 0 with h2 | h2 | h2<;>first
     | omega
     | (exfalso;simp [Int.sign_eq_neg_one_of_neg,Int.sign_eq_one_of_pos,h1,h2] at h)
   unfold cmpZ;rw [if_neg (by omega),if_pos h0]
  rw [hc];refine Zaa (tok:=0) Tryz.func147 rfl Tryz.ntmps147 Tryz.results147 Tryz.call147 (by rfl) (by simp) ?_;(focus (refine wkvd w_t (w_2 cs ct) (w_1 (w_d 1 [(1,.v (.int .i64 (zI s n).sign)),(3,.v (.int .i64 (zI t m).sign))] [] [])) ?_;(repeat' first|exact w_t|apply w_l);all_goals intros));simp (disch:=omega) only [go_sem]
theorem Zp2 (s t:Bool) (n m:Nat) (hn:(toL n).length≤100000000) (hm:(toL m).length≤100000000):Pure Tryz.prog 123 [intA s n,intA t m] (intZ (zI s n*zI t m)):=by
 have e:zI s n*zI t m=zI (s != t) (n*m):=by cases s<;>cases t<;>simp [zI,Int.mul_neg,Int.neg_mul]
 have lm:(toL (n*m)).length≤1000000000:=by
  have h5:(toL (n*m)).length≤(toL n).length+(toL m).length:=by
   rw [Zah,Nat.pow_add];exact Nat.mul_lt_mul'' (Zah.1 (Nat.le_refl _)) (Zah.1 (Nat.le_refl _))
  omega
 rw [e];have hne:(!(s == t))=(s != t):=rfl;refine Zaa (tok:=0) Tryz.func123 rfl Tryz.ntmps123 Tryz.results123 Tryz.call123 (by rfl) (by simp) ?_;(focus (refine wkvd (w_1 hne) (w_2 (nMul n m hn hm) (Zh0 (s != t) (n*m) lm)) (w_1 (w_d 1 [(9,lim (toL (n*m))),(10,intZ (zI (s != t) (n*m)))] [11] [])) ?_;(repeat' first|exact w_t|apply w_l);all_goals intros));simp (disch:=omega) only [go_sem]
theorem intAdd (s t:Bool) (n m:Nat) (hn:(toL n).length≤100000000) (hm:(toL m).length≤100000000):Pure Tryz.prog 169 [intA s n,intA t m] (intZ (zI s n+zI t m)):=by
 by_cases hst:s=t
 ·subst hst;have e:zI s n+zI s m=zI s (n+m):=by cases s<;>simp [zI]<;>omega
  have la:(toL (n+m)).length≤1000000000:=by
   have h5:(toL (n+m)).length≤max (toL n).length (toL m).length+1:=by
    rw [Zah,Nat.pow_succ];have h1:=Zah.1 (Nat.le_max_left (toL n).length (toL m).length);have h2:=Zah.1 (Nat.le_max_right (toL n).length (toL m).length);generalize 65536 ^ max (toL n).length (toL m).length=p at *;omega
   omega
  rw [e];have hb:(s == s)=true:=by cases s<;>rfl
  refine Zaa (tok:=0) Tryz.func169 rfl Tryz.ntmps169 Tryz.results169 Tryz.call169 (by rfl) (by simp) ?_;(focus (refine wkvd (w_1 hb) (w_2 (nAdd n m hn hm) (Zh0 s (n+m) la)) (w_1 (w_d 2 [(6,lim (toL (n+m))),(7,intZ (zI s (n+m)))] [8] [])) ?_;(repeat' first|exact w_t|apply w_l);all_goals intros));simp (disch:=omega) only [go_sem]
 ·have hb:(s == t)=false:=by cases s<;>cases t<;>first|rfl|exact absurd rfl hst
  have ht:t=!s:=by cases s<;>cases t<;>first|rfl|exact absurd rfl hst
  by_cases hlt:n < m
  ·have hc:cmpN n m=-1:=if_pos hlt;have e:zI s n+zI t m=zI t (m - n):=by rw [ht];cases s<;>simp [zI]<;>omega
   have ls:(toL (m - n)).length≤1000000000:=Nat.le_trans (Za8 (Nat.sub_le _ _)) (by omega);have cs:=nSub m n hm hn;rw [if_neg (by omega),if_neg (by omega)] at cs;rw [e];refine Zaa (tok:=0) Tryz.func169 rfl Tryz.ntmps169 Tryz.results169 Tryz.call169 (by rfl) (by simp) ?_;(focus (refine wkvd (w_2 hb hc) (w_3 (nCmp n m hn hm) cs (Zh0 t (m - n) ls)) w_t ?_;(repeat' first|exact w_t|apply w_l);all_goals intros));simp (disch:=omega) only [go_sem]
  ·have hc:0≤cmpN n m:=by unfold cmpN;rw [if_neg hlt];split<;>omega
   have e:zI s n+zI t m=zI s (n - m):=by rw [ht];cases s<;>simp [zI]<;>omega
   have ls:(toL (n - m)).length≤1000000000:=Nat.le_trans (Za8 (Nat.sub_le _ _)) (by omega);have cs:=nSub n m hn hm;rw [if_neg (by omega),if_neg (by omega)] at cs;rw [e];refine Zaa (tok:=0) Tryz.func169 rfl Tryz.ntmps169 Tryz.results169 Tryz.call169 (by rfl) (by simp) ?_;(focus (refine wkvd (w_1 hb) (w_3 (nCmp n m hn hm) cs (Zh0 s (n - m) ls)) w_t ?_;(repeat' first|exact w_t|apply w_l);all_goals intros));simp (disch:=omega) only [go_sem]
inductive Vk:AV→AV→Prop
 | refl (a:AV):Vk a a
 | nil (m:Nat):Vk (.v (.slice none 0 0)) (.sl m [])
 | agg (xs ys:List AV) (hl:xs.length=ys.length) (h:∀(j:Nat) (a b:AV),xs[j]?=some a→ys[j]?=some b→Vk a b):Vk (.agg xs) (.agg ys)
 | tup (xs ys:List AV) (hl:xs.length=ys.length) (h:∀(j:Nat) (a b:AV),xs[j]?=some a→ys[j]?=some b→Vk a b):Vk (.tup xs) (.tup ys)
 | sl (m:Nat) (es es':List AV) (hl:es.length=es'.length) (hm:∀e∈es',e.cells.length=m) (hok:∀e∈es',e.ok=true) (hf:(flat es).length=(flat es').length) (h:∀(j:Nat) (a b:AV),(flat es)[j]?=some a→(flat es')[j]?=some b→Vk a b):Vk (.sl m es) (.sl m es')
theorem Vk.rd {w:World} {imm:Imm} {a b:AV} (h:Vk a b):∀{x:Value},Rd w imm a x→Rd w imm b x:=by
 induction h with
 | refl a=>exact λh=>h
 | nil m =>
   intro x h;cases h;exact .sl m [] none 0 (λ_=>undef) (by simp) (by simp) (Nat.le_refl _) (by simp) (by simp) (by simp [flat])
 | agg xs ys hl _ ih =>
   intro x h
   cases h with
   | agg _ vs hl2 hr =>
     refine .agg ys vs (by omega) λj b x h1 h2=>?_;have hj:j < xs.length:=by rw [hl];exact(List.getElem?_eq_some_iff.1 h1).1
     exact ih j xs[j] b (List.getElem?_eq_getElem hj) h1 (hr j xs[j] x (List.getElem?_eq_getElem hj) h2)
 | tup xs ys hl _ ih =>
   intro x h
   cases h with
   | tup _ vs hl2 hr =>
     refine .tup ys vs (by omega) λj b x h1 h2=>?_;have hj:j < xs.length:=by rw [hl];exact(List.getElem?_eq_some_iff.1 h1).1
     exact ih j xs[j] b (List.getElem?_eq_getElem hj) h1 (hr j xs[j] x (List.getElem?_eq_getElem hj) h2)
 | sl m es es' hl hm hok hf _ ih =>
   intro x h;obtain⟨A,cap,f,rfl,hcap,_,_,hn,hA,hr⟩:=(Rs.pure h).sl_inv;rw [hl];refine .sl m es' A cap f hm hok (by omega) (λh=>hn (by omega)) (λj hj=>hA j (by rw [hl];exact hj)) λj b hb=>?_;have hj:j < (flat es).length:=by rw [hf];exact(List.getElem?_eq_some_iff.1 hb).1
   exact ih j _ b (List.getElem?_eq_getElem hj) hb (hr j _ (List.getElem?_eq_getElem hj))
def VkL (xs ys:List AV):Prop:=xs.length=ys.length∧∀(j:Nat) (a b:AV),xs[j]?=some a→ys[j]?=some b→Vk a b
theorem VkL.nil:VkL [] []:=⟨rfl,λj a b h=>by simp at h⟩
theorem VkL.cons {a b:AV} {xs ys:List AV} (h:Vk a b) (t:VkL xs ys):VkL (a :: xs) (b :: ys):=by
 refine⟨by simp [t.1],λj x y h1 h2=>?_⟩
 cases j with
 | zero=>simp at h1 h2;subst h1;subst h2;exact h
 | succ j=>exact t.2 j x y (by simpa using h1) (by simpa using h2)
theorem VkL.refl (xs:List AV):VkL xs xs:=⟨rfl,λj a b h1 h2=>by rw [h1] at h2;cases h2;exact .refl _⟩
theorem Vk.aggL {xs ys:List AV} (h:VkL xs ys):Vk (.agg xs) (.agg ys):=.agg xs ys h.1 h.2
theorem Vk.tupL {xs ys:List AV} (h:VkL xs ys):Vk (.tup xs) (.tup ys):=.tup xs ys h.1 h.2
theorem Zr4 {P:Program} {f:FuncId} {args args':List AV} {r r':AV} (h:Pure P f args' r) (ha:VkL args args') (hw:Vk r r'):Pure P f args r':=by
 refine⟨h.1,λw imm vs h1 h2 h3=>(h.2 w imm vs h1 (by rw [←ha.1];exact h2) λj b x e1 e2=>?_).mono λe w' he=>?_⟩
 ·have hj:j < args.length:=by rw [ha.1];exact(List.getElem?_eq_some_iff.1 e1).1
  exact(ha.2 j args[j] b (List.getElem?_eq_getElem hj) e1).rd (h3 j args[j] x (List.getElem?_eq_getElem hj) e2)
 ·obtain⟨x,imm',e1,e2,e3⟩:=he;exact⟨x,imm',e1,hw.rd e2,e3⟩
theorem Zgh {P:Program} {f:FuncId} {args args':List AV} {r:AV} (h:Pure P f args' r) (ha:VkL args args'):Pure P f args r:=Zr4 h ha (.refl _)
theorem Zgg {P:Program} {f:FuncId} {args:List AV} {r r':AV} (h:Pure P f args r) (hw:Vk r r'):Pure P f args r':=Zr4 h (.refl _) hw
theorem Zez (n m:Nat):(toL (n*m)).length≤(toL n).length+(toL m).length:=by
 rw [Zah,Nat.pow_add];exact Nat.mul_lt_mul'' (Zah.1 (Nat.le_refl _)) (Zah.1 (Nat.le_refl _))
theorem Zm3 (n m:Nat):(toL (n+m)).length≤max ((toL n).length) ((toL m).length)+1:=by
 rw [Zah,Nat.pow_succ];have h1:=Zah.1 (Nat.le_max_left ((toL n).length) ((toL m).length));have h2:=Zah.1 (Nat.le_max_right ((toL n).length) ((toL m).length));generalize 65536 ^ max ((toL n).length) ((toL m).length)=p at *;omega
theorem Zdv {n m:Nat} (h:n≤m):(toL n).length≤(toL m).length:=Za8 h
theorem Zfl:(toL 1).length=1:=by rw [Zep (by omega)];simp [Za4]
theorem toL_one:toL 1=[1]:=by rw [Zep (by omega)];simp [Za4]
abbrev ratQ (q:Rat):AV:=.agg [.v (.bool (decide (q.num < 0))),lim (toL q.num.natAbs),lim (toL q.den)]
abbrev ratA (s:Bool) (n d:Nat):AV:=.agg [.v (.bool s),lim (toL n),lim (toL d)]
def Sz (q:Rat) (k:Nat):Prop:=(toL q.num.natAbs).length≤k∧(toL q.den).length≤k
theorem Sz.mono {q:Rat} {k j:Nat} (h:Sz q k) (hk:k≤j):Sz q j:=⟨Nat.le_trans h.1 hk,Nat.le_trans h.2 hk⟩
theorem Zn1 (z:Int) (m:Nat) (hm:m≠0):ratQ (mkRat z m)=.agg [.v (.bool (decide (z < 0))),lim (toL (z.natAbs/Nat.gcd z.natAbs m)),lim (toL (m/Nat.gcd z.natAbs m))]:=by
 unfold ratQ;rw [Rat.num_mkRat,Rat.den_mkRat,if_neg hm,if_neg hm,Nat.gcd_comm m z.natAbs];have hg:0 < Nat.gcd z.natAbs m:=Nat.gcd_pos_of_pos_right _ (by omega);have hd:((Nat.gcd z.natAbs m:Nat):Int) ∣ z:=Int.ofNat_dvd_left.2 (Nat.gcd_dvd_left _ _);generalize Nat.gcd z.natAbs m=g at *;obtain⟨k,hk⟩:=hd;have hgz:(g:Int)≠0:=by omega
 have e1:z/(g:Int)=k:=by rw [hk,Int.mul_ediv_cancel_left _ hgz]
 have e2:z.natAbs/g=k.natAbs:=by rw [hk,Int.natAbs_mul,Int.natAbs_natCast,Nat.mul_div_cancel_left _ hg]
 have e3:(z < 0)↔(k < 0):=by
  rw [hk];constructor
  ·intro h;rcases (by omega:k < 0∨0≤k) with h1 | h1
   ·exact h1
   ·have:=Int.mul_nonneg (show(0:Int)≤g by omega) h1;omega
  ·intro h;exact Int.mul_neg_of_pos_of_neg (by omega) h
 rw [e1,e2];simp only [e3]
theorem Sz.mk {z:Int} {m k:Nat} (hz:(toL z.natAbs).length≤k) (hm:(toL m).length≤k) (hk:1≤k):Sz (mkRat z m) k:=by
 unfold Sz;rw [Rat.num_mkRat,Rat.den_mkRat];by_cases h:m=0
 ·rw [if_pos h,if_pos h];refine⟨?_,by rw [Zfl];exact hk⟩;show(toL 0).length≤k;rw [Za4];simp
 ·rw [if_neg h,if_neg h];refine⟨Nat.le_trans (Zdv ?_) hz,Nat.le_trans (Zdv (Nat.div_le_self _ _)) hm⟩;have hd:((Nat.gcd m z.natAbs:Nat):Int) ∣ z:=Int.ofNat_dvd_left.2 (Nat.gcd_dvd_right _ _);have hg:0 < Nat.gcd m z.natAbs:=Nat.gcd_pos_of_pos_left _ (by omega);generalize Nat.gcd m z.natAbs=g at *;obtain⟨c,hc⟩:=hd;rw [hc,Int.mul_ediv_cancel_left _ (by omega),Int.natAbs_mul,Int.natAbs_natCast];exact Nat.le_mul_of_pos_left _ hg
theorem Zd0 (a b:Int):(a+b).natAbs≤a.natAbs+b.natAbs:=by omega
theorem Sz.pos {q:Rat} {k:Nat} (h:Sz q k):1≤k:=by
 have h1:=Zbx.2 q.den_pos;have h2:=h.2;omega
theorem Zdl (a b:Rat) {j k:Nat} (ha:Sz a j) (hb:Sz b k):(toL (a.num*b.den).natAbs).length≤j+k:=by
 rw [Int.natAbs_mul,Int.natAbs_natCast];exact Nat.le_trans (Zez _ _) (Nat.add_le_add ha.1 hb.2)
theorem Sz.mul {a b:Rat} {j k:Nat} (ha:Sz a j) (hb:Sz b k):Sz (a*b) (j+k):=by
 rw [Rat.mul_def'];refine Sz.mk ?_ (Nat.le_trans (Zez _ _) (Nat.add_le_add ha.2 hb.2)) (by have:=ha.pos;omega);rw [Int.natAbs_mul];exact Nat.le_trans (Zez _ _) (Nat.add_le_add ha.1 hb.1)
theorem Sz.add {a b:Rat} {j k:Nat} (ha:Sz a j) (hb:Sz b k):Sz (a+b) (j+k+1):=by
 rw [Rat.add_def'];refine Sz.mk ?_ (Nat.le_trans (Zez _ _) (by have:=ha.2;have:=hb.2;omega)) (by omega);have h1:=Zdl a b ha hb;have h2:=Zdl b a hb ha;have h3:=Zdv (Zd0 (a.num*b.den) (b.num*a.den));have h4:=Zm3 (a.num*b.den).natAbs (b.num*a.den).natAbs;omega
theorem Sz.neg {a:Rat} {j:Nat} (ha:Sz a j):Sz (-a) j:=by
 unfold Sz;rw [Rat.neg_num,Rat.neg_den,Int.natAbs_neg];exact ha
theorem Sz.sub {a b:Rat} {j k:Nat} (ha:Sz a j) (hb:Sz b k):Sz (a - b) (j+k+1):=by
 rw [Rat.sub_eq_add_neg];exact ha.add hb.neg
theorem Sz.inv {a:Rat} {j:Nat} (ha:Sz a j):Sz (a⁻¹) j:=by
 unfold Sz;rw [Rat.num_inv,Rat.den_inv];by_cases h:a.num=0
 ·rw [if_pos h,h];refine⟨?_,by rw [Zfl];exact ha.pos⟩;have:(Int.sign 0*(a.den:Int)).natAbs=0:=by simp
  rw [this];show(toL 0).length≤j;rw [Za4];simp
 ·rw [if_neg h];refine⟨?_,ha.1⟩;rw [Int.natAbs_mul,Int.natAbs_natCast,Int.natAbs_sign_of_ne_zero h,Nat.one_mul];exact ha.2
theorem Sz.div {a b:Rat} {j k:Nat} (ha:Sz a j) (hb:Sz b k):Sz (a/b) (j+k):=ha.mul hb.inv
theorem Sz.int {z:Int} {k:Nat} (h:(toL z.natAbs).length≤k) (hk:1≤k):Sz (z:Rat) k:=⟨h,by show(toL 1).length≤k;rw [Zfl];exact hk⟩
def cmpQ (a b:Rat):Int:=if a < b then -1 else if b < a then 1 else 0
theorem cmpQ_z (a b:Rat):cmpQ a b=cmpZ (a.num*b.den) (b.num*a.den):=by
 unfold cmpQ cmpZ;simp only [Rat.lt_iff]
theorem iMul (z w:Int) (hz:(toL z.natAbs).length≤100000000) (hw:(toL w.natAbs).length≤100000000):Pure Tryz.prog 123 [intZ z,intZ w] (intZ (z*w)):=by
 have:=Zp2 (decide (z < 0)) (decide (w < 0)) z.natAbs w.natAbs hz hw
 rwa [Zcf,Zcf] at this
theorem iMulN (z:Int) (d:Nat) (hz:(toL z.natAbs).length≤100000000) (hw:(toL d).length≤100000000):Pure Tryz.prog 123 [intZ z,intA false d] (intZ (z*d)):=by
 have:=Zp2 (decide (z < 0)) false z.natAbs d hz hw;rw [Zcf] at this;exact this
theorem iAddA (z:Int) (t:Bool) (m:Nat) (hz:(toL z.natAbs).length≤100000000) (hm:(toL m).length≤100000000):Pure Tryz.prog 169 [intZ z,intA t m] (intZ (z+zI t m)):=by
 have:=intAdd (decide (z < 0)) t z.natAbs m hz hm
 rwa [Zcf] at this
theorem iAdd0 (t:Bool) (m:Nat) (hm:(toL m).length≤100000000):Pure Tryz.prog 169 [.agg [.v (.bool false),.v (.slice none 0 0)],intA t m] (intZ (zI t m)):=by
 have h:=iAddA 0 t m (by show(toL 0).length≤_;rw [Za4];simp) hm;rw [Int.zero_add] at h;refine Zgh h (.cons (.aggL (.cons (.refl _) (.cons ?_ .nil))) (.cons (.refl _) .nil));show Vk _ (.sl 1 (u16s (toL 0)));rw [Za4];exact .nil 1
theorem iSign (z:Int) (hz:(toL z.natAbs).length≤100000000):Pure Tryz.prog 89 [intZ z] (.v (.int .i64 z.sign)):=by
 have:=Zor (decide (z < 0)) z.natAbs hz
 rwa [Zcf] at this
def sumC (z w:Int):Nat→List AV
 | 0=>[.v (.bool false),.v (.slice none 0 0)]
 | 1=>[.v (.bool (decide (z < 0))),lim (toL z.natAbs)]
 | _=>[.v (.bool (decide (z+w < 0))),lim (toL (z+w).natAbs)]
theorem u16s_c (x:Nat) (l:List Nat):u16s (x :: l)=AV.v (.int .u16 (x:Int)) :: u16s l:=rfl
theorem szShape:szOf Tryz.prog 141=some 2:=by kernel_rfl
theorem zShape:Zb1 Tryz.prog 141=some (.agg #[.int .i64 0,.int .u16 0]):=by kernel_rfl
theorem eqShape:eqTy Tryz.prog 141=true:=by kernel_rfl
theorem Zoe (n:Nat) (h:n < 65536):Sz (n:Rat) 1:=⟨Zah.2 (by show((n:Int)).natAbs < _;simpa using h),Zah.2 (by show 1 < 65536 ^ 1;decide)⟩
end Go.Proofs.YtimmnimikmnljaaGreat
namespace Go.Proofs.YtimmnimikmnljaaGreat
open Go Go.RowKit Go.Pg
section
variable {P:Program} {n:Nat} {Q:AE→St→Prop}
theorem r_label {l:Nat} {e:Nat→AV} {m:Mem} (h:Q .normal ⟨e,m⟩):Za7 P 0 n (.label l) Q ⟨e,m⟩:=λc a w imm hr=>wp_label ⟨.normal,⟨e,m⟩,imm,rfl,h,hr⟩
instance {l:Nat} {e:Nat→AV} {m:Mem}:Stp (Za7 P 0 n (.label l) Q ⟨e,m⟩) (Q .normal ⟨e,m⟩):=⟨r_label⟩
theorem Zr1 {x:Code} {st:St} (hf:Zbo n x=true) (h:Za7 P 0 n x Q st):Za7 P 0 n (.scope x) Q st:=λc a w imm hr =>
 wp_scope_straight (Code.wp_mono (λe a' w' hp=>by
  obtain⟨ae,st',imm',rfl,h2,h3⟩:=hp
  cases ae with
  | normal=>exact⟨.normal,st',imm',rfl,h2,h3⟩
  | exit i=>exact⟨.exit i,st',imm',rfl,h2,h3⟩
  | ret=>exact⟨.ret,st',imm',rfl,h2,h3⟩) (Zbz x Q st hf h c a w imm hr))
theorem row_mx {c:Cx} {w:World} {imm:Imm} {K pub mm:Nat} {sv:Value} {ty:TypeId} {m:Mem} {es es':List AV} (h0:Mx c m w imm) (hK:m K=some (.row sv ty mm es pub)) (hl:es.length=es'.length) (hm:∀x∈es',x.cells.length=mm) (hok:∀x∈es',x.ok=true) (h:VkL (flat es) (flat es')) :
 Mx c (upd m K (some (.row sv ty mm es' pub))) w imm:=by
 have hb:∀k e',upd m K (some (.row sv ty mm es' pub)) k=some e'→∃e0,m k=some e0∧e'.blk=e0.blk:=λk e' hk=>by
  rw [Zaz] at hk;split at hk
  ·subst_vars;cases hk;exact⟨_,hK,rfl⟩
  ·exact⟨e',hk,rfl⟩
 refine⟨⟨λk e' hk=>?_,λk k' e1 e2 b hk hk' h1 h2=>?_,h0.ok.lt,h0.ok.spot⟩,h0.below,h0.lt,h0.old,h0.new,h0.cells⟩
 ·rw [Zaz] at hk;split at hk
  ·subst_vars;cases hk
   obtain⟨xs,g1,g2,g3,g4,g5,g6,g7⟩:=h0.ok.ent _ _ hK;refine⟨xs,by rw [←hl];exact g1,hm,hok,λj a x ha hx=>?_,by rw [←hl];exact g5,g6,g7⟩;have hj:j < (flat es).length:=by rw [h.1];exact(List.getElem?_eq_some_iff.1 ha).1
   exact(h.2 j (flat es)[j] a (List.getElem?_eq_getElem hj) ha).rd (g4 j _ x (List.getElem?_eq_getElem hj) hx)
  ·exact h0.ok.ent _ _ hk
 ·obtain⟨e3,h3,h4⟩:=hb k e1 hk;obtain⟨e5,h5,h6⟩:=hb k' e2 hk';exact h0.ok.apart k k' e3 e5 b h3 h5 (by rw [←h4];exact h1) (by rw [←h6];exact h2)
theorem Frz.rowVk {K pub mm:Nat} {sv:Value} {ty:TypeId} {e:Nat→AV} {m:Mem} {es es':List AV} (hK:m K=some (.row sv ty mm es pub)) (hl:es.length=es'.length) (hm:∀x∈es',x.cells.length=mm) (hok:∀x∈es',x.ok=true) (h:VkL (flat es) (flat es')) :
 Frz n ⟨e,m⟩ ⟨e,upd m K (some (.row sv ty mm es' pub))⟩:=λc a w imm hr=>⟨imm,hr.env,hr.size,hr.defers,row_mx hr.mem hK hl hm hok h⟩
theorem Zpl {id:Nat} {ops:Array Oper} {st st':St} (h:Frz n st st') (k:Za7 P 0 n (.region id ops true) Q st'):Za7 P 0 n (.region id ops true) Q st:=λc a w imm hr=>by
 obtain⟨i,h1⟩:=h c a w imm hr;exact k c a w i h1
theorem Frz.mark {K:Nat} {e:Nat→AV} {m:Mem}:Frz n ⟨e,m⟩ ⟨e,Go.Pg.mark m K⟩:=λc a w imm hr=>by
 obtain⟨i,h1,h2⟩:=Zll hr.mem K;exact⟨i,λt=>h2.rs (hr.env t),hr.size,hr.defers,h1⟩
theorem box_mx {c:Cx} {w:World} {imm:Imm} {k g j:Nat} {bt:TypeId} {m:Mem} {cs:List AV} {x y:AV} (h:Mx c m w imm) (hK:m k=some (.box g bt cs false)) (hj:cs[j]?=some x) (hy:y.one=true) (hr:∀v,Rs w imm x v→Rs w imm y v):Mx c (upd m k (some (.box g bt (cs.set j y) false))) w imm:=by
 have hb:∀k' e',upd m k (some (.box g bt (cs.set j y) false)) k'=some e'→∃e0,m k'=some e0∧e'.blk=e0.blk:=λk' e' hk=>by
  rw [Zaz] at hk;split at hk
  ·subst_vars;cases hk;exact⟨_,hK,rfl⟩
  ·exact⟨e',hk,rfl⟩
 refine⟨⟨λk' e' hk=>?_,λk1 k' e1 e2 b hk hk' h1 h2=>?_,h.ok.lt,h.ok.spot⟩,h.below,h.lt,h.old,h.new,h.cells⟩
 ·rw [Zaz] at hk;split at hk
  ·subst_vars;cases hk
   obtain⟨cur,k1,k2,k3,k4,k5,k6,k7⟩:=h.ok.ent _ _ hK;have hjl:j < cs.length:=(List.getElem?_eq_some_iff.1 hj).1;refine⟨cur,k1,k2,by rw [List.length_set];exact k3,λz hz=>?_,λi a v ha hv=>?_,k6,λhp=>by cases hp⟩
   ·rcases List.mem_or_eq_of_mem_set hz with hz | rfl
    ·exact k4 z hz
    ·exact hy
   ·rw [List.getElem?_set] at ha;split at ha
    ·rename_i hij;subst hij;cases ha;exact hr v (k5 j x v hj hv)
    ·exact k5 i a v ha hv
  ·exact h.ok.ent _ _ hk
 ·obtain⟨e3,h3,h4⟩:=hb k1 e1 hk;obtain⟨e5,h5,h6⟩:=hb k' e2 hk';exact h.ok.apart k1 k' e3 e5 b h3 h5 (by rw [←h4];exact h1) (by rw [←h6];exact h2)
theorem Frz.boxPub {k g j K mm pub:Nat} {bt ty:TypeId} {e:Nat→AV} {m:Mem} {cs el:List AV} {sv:Value} (hm:m k=some (.box g bt cs false)) (hj:cs[j]?=some (.own K sv)) (hK:m K=some (.row sv ty mm el pub)) (hne:K≠k) :
 Frz n ⟨e,m⟩ ⟨e,upd (upd m K (some (.row sv ty mm el el.length))) k (some (.box g bt (cs.set j (.sl mm el)) false))⟩:=by
 intro c a w imm h;obtain⟨i,h1,h2⟩:=Zll h.mem K;have em:Go.Pg.mark m K=upd m K (some (.row sv ty mm el el.length)):=by unfold Go.Pg.mark;rw [hK];rfl
 have h1:Mx c (Go.Pg.mark m K) w i:=h1;rw [em] at h1;refine⟨i,λt=>h2.rs (h.env t),h.size,h.defers,box_mx h1 (by rw [Zaz,if_neg (Ne.symm hne)];exact hm) hj rfl λv hv=>?_⟩;rw [hv.own_inv];exact .pure (Zpb (k:=K) (e:=ty) (pub:=el.length) h1 (by rw [Zaz,if_pos rfl]) rfl)
theorem rdc_pub {f:FuncId} {K mm:Nat} {sv:Value} {ty:TypeId} {es:List AV} {a b r:AV} (h:Pure P f [a,.sl mm es,b] r) (ha:a.toks=[]) (hb:b.toks=[]) (ha2:∀σ,Zef σ a∧pubV σ a=a) (hb2:∀σ,Zef σ b∧pubV σ b=b):RdC P [(K,.row sv ty mm es es.length)] f [a,.own K sv,b] r:=λσ hσ=>by
 have hK:σ K=some (.row sv ty mm es es.length):=hσ.1;have ht:AV.toksL [a,.own K sv,b]=[K]:=by simp only [AV.toksL,ha,hb,AV.toks,List.nil_append,List.append_nil]
 have hm:marks σ [K]=σ:=by
  show Go.Pg.mark σ K=σ;unfold Go.Pg.mark;rw [hK]
  funext j
  rw [Zaz];split
  ·subst_vars;rw [hK];rfl
  ·rfl
 refine Zbd h ?_ ?_ ?_
 ·rw [ht,hm];simp only [Zdq,ha2,hb2,Zef,Ze1,hK,and_self]
 ·rw [ht,hm];simp only [Zdo,ha2,hb2,pubV,Zjk,hK]
 ·rw [ht,hm];exact⟨rfl,rfl⟩
end
section
variable {P:Program} {f:FuncId} {args:List AV} {all:List Oper} {rs:Nat→AV} {bar:List Nat} {σs:Mem} {fu k d:Nat} {K:St→Prop} {e:Nat→AV} {m:Mem} {ty:TypeId} {pos:String} {af:Array Edge}
theorem gyrG {x:AV} {L:List (Nat × Ent)} {g:Operand} {aS:Array Operand} {ts:Array TypeId} {j:Nat} {want:Bool} {v:Value} (c:RdC P L f args x) (hb:bar.contains k=false) (ho:all[k]?=some ⟨some d,.call ⟨.value g,aS,ts⟩,ty,pos,af,some (j,want)⟩) (hg:Ev (Zbh all ⟨e,Zan⟩ j=.v v)) (hs:says (.v v) want=true)
 (h:Ev (Zak P ⟨e,Zan⟩ (.call ⟨.value g,aS,ts⟩)=.call f args)) (hL:Ev (hasAll σs L)) (hx:Ev (rs k=x)) (hk:Zbq P 0 all rs bar σs fu (k+1) K ⟨upd e d x,m⟩):Zbq P 0 all rs bar σs (fu+1) k K ⟨e,m⟩:=by
 rw [Zcj];unfold Zdn;rw [ho];simp only [Zb0,hb,Bool.false_eq_true,if_false];unfold Zci;have hg:Zbh all ⟨e,Zan⟩ j=.v v:=hg;have hx:rs k=x:=hx;have hL:hasAll σs L:=hL;have hs2:opS P 0 σs ⟨e,m⟩ (.call ⟨.value g,aS,ts⟩)=.call f args:=h;simp only [hg];refine⟨trivial,?_⟩;rw [if_pos hs];simp only [Zc3,Zdc,Zaw,isVC,Bool.false_eq_true,if_false,hs2,Option.getD_some,Nat.zero_add,hx];exact⟨.inr ⟨trivial,λσ hp=>c σ (hL.part hp)⟩,trivial,hk⟩
end
end Go.Proofs.YtimmnimikmnljaaGreat
namespace Go.Pol
structure KO {α:Type} (D:α→Prop) (lt:α→α→Prop):Prop where
 irr:∀x,¬lt x x
 tr:∀x y z,lt x y→lt y z→lt x z
 tri:∀x y,D x→D y→lt x y∨x=y∨lt y x
section
variable {α:Type} {D:α→Prop} {lt:α→α→Prop} [DecidableEq α]
def cof:List (Rat × α)→α→Rat
 | [],_=>0
 | t :: p,x=>(if t.2=x then t.1 else 0)+cof p x
end
section
variable {α:Type} {D:α→Prop} {lt:α→α→Prop}
def addP (lt:α→α→Prop) [DecidableRel lt]:List (Rat × α)→List (Rat × α)→List (Rat × α)
 | [],q=>q
 | s :: p,[]=>s :: p
 | s :: p,t :: q =>
   if lt t.2 s.2 then s :: addP lt p (t :: q)
   else if lt s.2 t.2 then t :: addP lt (s :: p) q
   else if s.1+t.1=0 then addP lt p q
   else (s.1+t.1,s.2) :: addP lt p q
termination_by p q=>p.length+q.length
def Srt (D:α→Prop) (lt:α→α→Prop) (p:List (Rat × α)):Prop:=(∀t∈p,t.1≠0∧D t.2)∧p.Pairwise (λs t=>lt t.2 s.2)
end
section
variable {α:Type} {D:α→Prop} {lt:α→α→Prop} [DecidableEq α]
end
section
variable {α:Type} {D:α→Prop} {lt:α→α→Prop} [DecidableRel lt]
theorem addP_nil (p:List (Rat × α)):addP lt p []=p:=by cases p<;>simp [addP]
theorem Zil {p q:List (Rat × α)} {t:Rat × α} (h:t∈addP lt p q):∃s∈p++q,t.2=s.2:=by
 fun_induction addP lt p q with
 | case1 q=>exact⟨t,by simpa using h,rfl⟩
 | case2 s p=>exact⟨t,by simpa using h,rfl⟩
 | case3 s p u q h1 ih =>
   rcases List.mem_cons.1 h with rfl | h
   ·exact⟨t,by simp,rfl⟩
   ·obtain⟨v,hv,e⟩:=ih h;exact⟨v,by simp only [List.cons_append,List.mem_cons,List.mem_append] at hv ⊢;rcases hv with hv | hv | hv<;>simp [hv],e⟩
 | case4 s p u q h1 h2 ih =>
   rcases List.mem_cons.1 h with rfl | h
   ·exact⟨t,by simp,rfl⟩
   ·obtain⟨v,hv,e⟩:=ih h;exact⟨v,by simp only [List.cons_append,List.mem_cons,List.mem_append] at hv ⊢;rcases hv with hv | hv | hv<;>simp [hv],e⟩
 | case5 s p u q h1 h2 h3 ih =>
   obtain⟨v,hv,e⟩:=ih h;exact⟨v,by simp only [List.cons_append,List.mem_cons,List.mem_append] at hv ⊢;rcases hv with hv | hv<;>simp [hv],e⟩
 | case6 s p u q h1 h2 h3 ih =>
   rcases List.mem_cons.1 h with rfl | h
   ·exact⟨s,by simp,rfl⟩
   ·obtain⟨v,hv,e⟩:=ih h;exact⟨v,by simp only [List.cons_append,List.mem_cons,List.mem_append] at hv ⊢;rcases hv with hv | hv<;>simp [hv],e⟩
end
section
variable {α:Type} {D:α→Prop} {lt:α→α→Prop} [DecidableEq α] [DecidableRel lt]
theorem Zio (o:KO D lt) {p q:List (Rat × α)} (x:α) (hp:∀t∈p,D t.2) (hq:∀t∈q,D t.2):cof (addP lt p q) x=cof p x+cof q x:=by
 fun_induction addP lt p q with
 | case1 q=>show cof q x=0+cof q x;rw [Rat.zero_add]
 | case2 s p=>show cof (s :: p) x=cof (s :: p) x+0;rw [Rat.add_zero]
 | case3 s p u q h1 ih =>
   have:=ih (λt h=>hp t (.tail _ h)) hq;simp only [cof] at this ⊢;rw [this];grind
 | case4 s p u q h1 h2 ih =>
   have:=ih hp (λt h=>hq t (.tail _ h));simp only [cof] at this ⊢;rw [this];grind
 | case5 s p u q h1 h2 h3 ih =>
   have e:s.2=u.2:=by rcases o.tri s.2 u.2 (hp s (.head _)) (hq u (.head _)) with h | h | h;exact absurd h h2;exact h;exact absurd h h1
   have:=ih (λt h=>hp t (.tail _ h)) (λt h=>hq t (.tail _ h));simp only [cof] at this ⊢;rw [this,e];split<;>grind
 | case6 s p u q h1 h2 h3 ih =>
   have e:s.2=u.2:=by rcases o.tri s.2 u.2 (hp s (.head _)) (hq u (.head _)) with h | h | h;exact absurd h h2;exact h;exact absurd h h1
   have:=ih (λt h=>hp t (.tail _ h)) (λt h=>hq t (.tail _ h));simp only [cof] at this ⊢;rw [this,e];split<;>grind
end
section
variable {α:Type} {D:α→Prop} {lt:α→α→Prop}
theorem Srt.nil:Srt D lt ([]:List (Rat × α)):=⟨by simp,.nil⟩
theorem Srt.tail {t:Rat × α} {p:List (Rat × α)} (h:Srt D lt (t :: p)):Srt D lt p:=⟨λu hu=>h.1 u (.tail _ hu),(List.pairwise_cons.1 h.2).2⟩
theorem Srt.cons {t:Rat × α} {p:List (Rat × α)} (h:Srt D lt p) (h1:t.1≠0) (h2:D t.2) (h3:∀u∈p,lt u.2 t.2):Srt D lt (t :: p) :=
 ⟨λu hu=>by rcases List.mem_cons.1 hu with rfl | hu;exact⟨h1,h2⟩;exact h.1 u hu,List.pairwise_cons.2 ⟨h3,h.2⟩⟩
theorem Srt.dom {p:List (Rat × α)} (h:Srt D lt p):∀t∈p,D t.2:=λt ht=>(h.1 t ht).2
theorem Srt.head_lt {t:Rat × α} {p:List (Rat × α)} (h:Srt D lt (t :: p)):∀u∈p,lt u.2 t.2:=(List.pairwise_cons.1 h.2).1
end
section
variable {α:Type} {D:α→Prop} {lt:α→α→Prop} [DecidableRel lt]
theorem Zeo (o:KO D lt) {p q:List (Rat × α)} (hp:Srt D lt p) (hq:Srt D lt q):Srt D lt (addP lt p q):=by
 fun_induction addP lt p q with
 | case1 q=>exact hq
 | case2 s p=>exact hp
 | case3 s p u q h1 ih =>
   refine(ih hp.tail hq).cons (hp.1 s (.head _)).1 (hp.1 s (.head _)).2 λv hv=>?_;obtain⟨w,hw,e⟩:=Zil hv;rw [e];rcases List.mem_append.1 hw with hw | hw
   ·exact hp.head_lt w hw
   ·rcases List.mem_cons.1 hw with rfl | hw
    ·exact h1
    ·exact o.tr _ _ _ (hq.head_lt w hw) h1
 | case4 s p u q h1 h2 ih =>
   refine(ih hp hq.tail).cons (hq.1 u (.head _)).1 (hq.1 u (.head _)).2 λv hv=>?_;obtain⟨w,hw,e⟩:=Zil hv;rw [e];rcases List.mem_append.1 hw with hw | hw
   ·rcases List.mem_cons.1 hw with rfl | hw
    ·exact h2
    ·exact o.tr _ _ _ (hp.head_lt w hw) h2
   ·exact hq.head_lt w hw
 | case5 s p u q h1 h2 h3 ih=>exact ih hp.tail hq.tail
 | case6 s p u q h1 h2 h3 ih =>
   have es:s.2=u.2:=by rcases o.tri s.2 u.2 (hp.dom s (.head _)) (hq.dom u (.head _)) with h | h | h;exact absurd h h2;exact h;exact absurd h h1
   refine(ih hp.tail hq.tail).cons h3 (hp.1 s (.head _)).2 λv hv=>?_;obtain⟨w,hw,e⟩:=Zil hv;rw [e];rcases List.mem_append.1 hw with hw | hw
   ·exact hp.head_lt w hw
   ·show lt w.2 s.2;rw [es];exact hq.head_lt w hw
end
section
variable {α:Type} {D:α→Prop} {lt:α→α→Prop} [DecidableEq α]
theorem Zju (o:KO D lt) {p:List (Rat × α)} {x:α} (h:∀t∈p,lt t.2 x):cof p x=0:=by
 induction p with
 | nil=>rfl
 | cons t p ih =>
   show(if t.2=x then t.1 else 0)+cof p x=0;rw [if_neg (by rintro rfl;exact o.irr _ (h t (.head _))),ih λu hu=>h u (.tail _ hu),Rat.add_zero]
theorem Zfi (o:KO D lt) {t:Rat × α} {p:List (Rat × α)} (h:Srt D lt (t :: p)):cof (t :: p) t.2=t.1:=by
 show(if t.2=t.2 then t.1 else 0)+cof p t.2=t.1;rw [if_pos rfl,Zju o h.head_lt,Rat.add_zero]
theorem Znq (o:KO D lt):∀{p q:List (Rat × α)},Srt D lt p→Srt D lt q→(∀x,cof p x=cof q x)→p=q
 | [],[],_,_,_=>rfl
 | [],t :: q,_,hq,h=>absurd ((Zfi o hq).symm.trans (h t.2).symm) (hq.1 t (.head _)).1
 | s :: p,[],hp,_,h=>absurd ((Zfi o hp).symm.trans (h s.2)) (hp.1 s (.head _)).1
 | s :: p,t :: q,hp,hq,h=>by
   have ks:s.2=t.2:=by
    rcases o.tri s.2 t.2 (hp.dom s (.head _)) (hq.dom t (.head _)) with hl | hl | hl
    ·have h1:cof (s :: p) t.2=0:=Zju o λu hu=>by
      rcases List.mem_cons.1 hu with rfl | hu
      ·exact hl
      ·exact o.tr _ _ _ (hp.head_lt u hu) hl
     exact absurd (((h t.2).symm.trans h1).symm.trans (Zfi o hq)).symm (hq.1 t (.head _)).1
    ·exact hl
    ·have h1:cof (t :: q) s.2=0:=Zju o λu hu=>by
      rcases List.mem_cons.1 hu with rfl | hu
      ·exact hl
      ·exact o.tr _ _ _ (hq.head_lt u hu) hl
     exact absurd (((h s.2).trans h1).symm.trans (Zfi o hp)).symm (hp.1 s (.head _)).1
   have kc:s.1=t.1:=by
    have h1:=h s.2;rw [Zfi o hp,ks,Zfi o hq] at h1;exact h1
   have e:s=t:=Prod.ext kc ks;subst e;congr 1;refine Znq o hp.tail hq.tail λx=>?_;have h1:=h x;simp only [cof] at h1
   grind
end
section
variable {α:Type} {D:α→Prop} {lt:α→α→Prop}
def Zat (m:α→α→α) (p:List (Rat × α)) (t:Rat × α):List (Rat × α):=p.map λs=>(s.1*t.1,m s.2 t.2)
structure KM (D:α→Prop) (lt:α→α→Prop) (m:α→α→α):Prop where
 comm:∀x y,m x y=m y x
 dom:∀x y,D x→D y→D (m x y)
 mono:∀x y z,D x→D y→D z→lt x y→lt (m x z) (m y z)
theorem Zd6 {m:α→α→α} (k:KM D lt m) {p:List (Rat × α)} {t:Rat × α} (hp:Srt D lt p) (h1:t.1≠0) (h2:D t.2):Srt D lt (Zat m p t):=by
 refine⟨λu hu=>?_,?_⟩
 ·obtain⟨s,hs,rfl⟩:=List.mem_map.1 hu;have:=hp.1 s hs;exact⟨by show s.1*t.1≠0;intro h0;rcases Rat.mul_eq_zero.1 h0 with h | h;exact this.1 h;exact h1 h,k.dom _ _ this.2 h2⟩
 ·refine List.pairwise_map.2 (hp.2.imp_of_mem λ{a b} ha hb hl=>k.mono _ _ _ (hp.dom b hb) (hp.dom a ha) h2 hl)
end
section
variable {α:Type} {D:α→Prop} {lt:α→α→Prop} [DecidableEq α]
def cofM (m:α→α→α) (p:List (Rat × α)):List (Rat × α)→α→Rat
 | [],_=>0
 | t :: q,x=>cof (Zat m p t) x+cofM m p q x
theorem cofM_nil {m:α→α→α} (q:List (Rat × α)) (x:α):cofM m [] q x=0:=by
 induction q with
 | nil=>rfl
 | cons t q ih=>show 0+cofM m [] q x=0;rw [ih,Rat.add_zero]
theorem Ztc {m:α→α→α} (hm:∀x y,m x y=m y x) (s:Rat × α) (p q:List (Rat × α)) (x:α):cofM m (s :: p) q x=cof (Zat m q s) x+cofM m p q x:=by
 induction q with
 | nil=>show(0:Rat)=0+0;rw [Rat.add_zero]
 | cons t q ih =>
   show cof (Zat m (s :: p) t) x+cofM m (s :: p) q x=cof (Zat m (t :: q) s) x+(cof (Zat m p t) x+cofM m p q x);rw [ih];show((if m s.2 t.2=x then s.1*t.1 else 0)+cof (Zat m p t) x)+_=((if m t.2 s.2=x then t.1*s.1 else 0)+cof (Zat m q s) x)+_;rw [hm t.2 s.2,Rat.mul_comm t.1 s.1]
   grind
theorem Ztd {m:α→α→α} (hm:∀x y,m x y=m y x) (p q:List (Rat × α)) (x:α):cofM m p q x=cofM m q p x:=by
 induction p with
 | nil=>exact cofM_nil q x
 | cons s p ih=>rw [Ztc hm,ih];rfl
end
section
variable {α:Type} {D:α→Prop} {lt:α→α→Prop}
def mulR (lt:α→α→Prop) [DecidableRel lt] (m:α→α→α) (p q:List (Rat × α)):List (Rat × α):=q.foldl (λout t=>addP lt out (Zat m p t)) []
end
section
variable {α:Type} {D:α→Prop} {lt:α→α→Prop} [DecidableRel lt]
theorem Zm9 (o:KO D lt) {m:α→α→α} (k:KM D lt m) {p:List (Rat × α)} (hp:Srt D lt p):∀(q out:List (Rat × α)),Srt D lt q→Srt D lt out→Srt D lt (q.foldl (λout t=>addP lt out (Zat m p t)) out)
 | [],_,_,ho=>ho
 | t :: q,_,hq,ho=>Zm9 o k hp q _ hq.tail (Zeo o ho (Zd6 k hp (hq.1 t (.head _)).1 (hq.1 t (.head _)).2))
end
section
variable {α:Type} {D:α→Prop} {lt:α→α→Prop} [DecidableEq α] [DecidableRel lt]
theorem Zna (o:KO D lt) {m:α→α→α} (k:KM D lt m) {p:List (Rat × α)} (hp:Srt D lt p) (x:α):∀(q out:List (Rat × α)),Srt D lt q→Srt D lt out→cof (q.foldl (λout t=>addP lt out (Zat m p t)) out) x=cof out x+cofM m p q x
 | [],out,_,_=>by show cof out x=cof out x+0;rw [Rat.add_zero]
 | t :: q,out,hq,ho=>by
   have ht:=Zd6 k hp (hq.1 t (.head _)).1 (hq.1 t (.head _)).2;show cof (q.foldl _ (addP lt out (Zat m p t))) x=cof out x+(cof (Zat m p t) x+cofM m p q x);rw [Zna o k hp x q _ hq.tail (Zeo o ho ht),Zio o x ho.dom ht.dom,Rat.add_assoc]
end
section
variable {α:Type} {D:α→Prop} {lt:α→α→Prop} [DecidableRel lt]
theorem Zhg (o:KO D lt) {m:α→α→α} (k:KM D lt m) {p q:List (Rat × α)} (hp:Srt D lt p) (hq:Srt D lt q):Srt D lt (mulR lt m p q):=Zm9 o k hp q [] hq .nil
end
section
variable {α:Type} {D:α→Prop} {lt:α→α→Prop} [DecidableEq α] [DecidableRel lt]
theorem Zli (o:KO D lt) {m:α→α→α} (k:KM D lt m) {p q:List (Rat × α)} (hp:Srt D lt p) (hq:Srt D lt q) (x:α):cof (mulR lt m p q) x=cofM m p q x:=by
 unfold mulR;rw [Zna o k hp x q [] hq .nil];show 0+_=_;rw [Rat.zero_add]
end
section
variable {α:Type} {D:α→Prop} {lt:α→α→Prop}
def sumH (lt:α→α→Prop) [DecidableRel lt]:List (List (Rat × α))→List (Rat × α)
 | []=>[]
 | [p]=>p
 | p :: q :: l=>addP lt (sumH lt ((p :: q :: l).take ((p :: q :: l).length/2))) (sumH lt ((p :: q :: l).drop ((p :: q :: l).length/2)))
termination_by l=>l.length
decreasing_by all_goals (simp only [List.length_take,List.length_drop,List.length_cons];omega)
end
section
variable {α:Type} {D:α→Prop} {lt:α→α→Prop} [DecidableEq α]
def cofL:List (List (Rat × α))→α→Rat
 | [],_=>0
 | p :: l,x=>cof p x+cofL l x
theorem cofL_app (l k:List (List (Rat × α))) (x:α):cofL (l++k) x=cofL l x+cofL k x:=by
 induction l with
 | nil=>show cofL k x=0+cofL k x;rw [Rat.zero_add]
 | cons p l ih=>show _+cofL (l++k) x=(_+cofL l x)+cofL k x;rw [ih,Rat.add_assoc]
end
section
variable {α:Type} {D:α→Prop} {lt:α→α→Prop} [DecidableRel lt]
theorem Zg7 (o:KO D lt) (l:List (List (Rat × α))) (h:∀p∈l,Srt D lt p):Srt D lt (sumH lt l):=by
 fun_induction sumH lt l with
 | case1=>exact .nil
 | case2 p=>exact h p (.head _)
 | case3 p q l ih1 ih2=>exact Zeo o (ih1 λu hu=>h u (List.mem_of_mem_take hu)) (ih2 λu hu=>h u (List.mem_of_mem_drop hu))
end
section
variable {α:Type} {D:α→Prop} {lt:α→α→Prop} [DecidableEq α] [DecidableRel lt]
theorem sumH_cof (o:KO D lt) (x:α) (l:List (List (Rat × α))) (h:∀p∈l,Srt D lt p):cof (sumH lt l) x=cofL l x:=by
 fun_induction sumH lt l with
 | case1=>rfl
 | case2 p=>show cof p x=cof p x+0;rw [Rat.add_zero]
 | case3 p q l ih1 ih2 =>
   have h1:∀u∈(p :: q :: l).take ((p :: q :: l).length/2),Srt D lt u:=λu hu=>h u (List.mem_of_mem_take hu);have h2:∀u∈(p :: q :: l).drop ((p :: q :: l).length/2),Srt D lt u:=λu hu=>h u (List.mem_of_mem_drop hu);rw [Zio o x (Zg7 o _ h1).dom (Zg7 o _ h2).dom,ih1 h1,ih2 h2,←cofL_app,List.take_append_drop]
end
section
variable {α:Type} {D:α→Prop} {lt:α→α→Prop}
def mulH (lt:α→α→Prop) [DecidableRel lt] (m:α→α→α) (p q:List (Rat × α)):List (Rat × α):=sumH lt (p.map λt=>Zat m q t)
end
section
variable {α:Type} {D:α→Prop} {lt:α→α→Prop} [DecidableEq α] [DecidableRel lt]
theorem mulH_eq (o:KO D lt) {m:α→α→α} (k:KM D lt m) {p q:List (Rat × α)} (hp:Srt D lt p) (hq:Srt D lt q):mulH lt m p q=mulR lt m q p:=by
 have hs:∀u∈p.map (λt=>Zat m q t),Srt D lt u:=λu hu=>by
  obtain⟨t,ht,rfl⟩:=List.mem_map.1 hu;exact Zd6 k hq (hp.1 t ht).1 (hp.1 t ht).2
 refine Znq o (Zg7 o _ hs) (Zhg o k hq hp) λx=>?_;rw [Zli o k hq hp];unfold mulH;rw [sumH_cof o x _ hs];clear hs hp
 induction p with
 | nil=>rfl
 | cons t p ih=>show cof _ x+cofL (p.map _) x=cof _ x+cofM m q p x;rw [ih]
theorem Zmx (o:KO D lt) {m:α→α→α} (k:KM D lt m) {p q:List (Rat × α)} (hp:Srt D lt p) (hq:Srt D lt q):mulR lt m p q=mulR lt m q p :=
 Znq o (Zhg o k hp hq) (Zhg o k hq hp) λx=>by rw [Zli o k hp hq,Zli o k hq hp,Ztd k.comm]
end
section
variable {α:Type} {D:α→Prop} {lt:α→α→Prop} [DecidableRel lt]
theorem Ziq (p q:List (Rat × α)):(addP lt p q).length≤p.length+q.length:=by
 fun_induction addP lt p q<;>simp_all only [List.length_cons,List.length_nil]<;>omega
end
end Go.Pol
namespace Go.Proofs.YtimmnimikmnljaaGreat
open Go Go.RowKit Go.Pg
attribute [-bool_to_prop] Bool.and_eq_decide Bool.or_eq_decide Bool.decide_beq_decide decide_eq_decide
def Zf6 (x:Int):Bool:=!decide (x < 0) && !decide (1048576 < x)
def Zcc (l:List Int):Bool:=decide (l.length≤64) && !(l.getLast?.getD 1 == 0) && l.all Zf6
theorem Zl8 {l:List Int} {p:Int→Bool} {k:Nat} (h:k < l.length):(l.take (k+1)).all p=((l.take k).all p && p (gI l k)):=by
 rw [Zfp h,List.take_succ_eq_append_getElem h];simp only [List.all_append,List.all_cons,List.all_nil,Bool.and_true]
theorem Zpc {l:List Int} (h:l.length≤64) (hlast:(l.getLast?.getD 1 == 0)=false):Zcc l=l.all Zf6:=by
 unfold Zcc;simp [h,hlast]
theorem Zjz {l:List Int} {p:Int→Bool} {k:Nat} (h:¬k < l.length) (ha:(l.take k).all p=true):l.all p=true:=by
 rwa [List.take_of_length_le (by omega)] at ha
theorem Zl2 {l:List Int} {p:Int→Bool} {k:Nat} (h:k < l.length) (hx:p (gI l k)=false):l.all p=false:=by
 rw [List.all_eq_false];exact⟨l[k],List.getElem_mem _,by rw [←Zfp h];simp [hx]⟩
theorem Ze4 {l:List Int} (h:0 < l.length):l.getLast?.getD 1=gI l (l.length - 1):=by
 rw [List.getLast?_eq_getElem?,Zfp (by omega),List.getElem?_eq_getElem (by omega)];rfl
theorem Zpi (l:List Int):Pure Tryz.prog 82 [ints l] (.v (.bool (Zcc l))):=by
 unfold ints;refine Zaa (tok:=0) (rs:=[.tmp 2]) Tryz.func82 rfl Tryz.ntmps82 Tryz.results82 Tryz.call82 (by rfl) (by simp) ?_;by_cases hbig:64 < l.length
 ·have hr:Zcc l=false:=by unfold Zcc;simp;omega
  rw [hr]
  repeat' (first|with_reducible refine Za5 ?_|with_reducible refine Zaj ?_|with_reducible refine Zaq ?_|with_reducible refine Za6 ?_|with_reducible refine Zar ?_|with_reducible refine Zao ?_|with_reducible refine Zac ?_|with_reducible refine Zab ?_|with_reducible refine t_in ?_|with_reducible refine Zae ?_|with_reducible refine Zad ?_|with_reducible refine Zap ?_|with_reducible refine Zai ?_|(with_reducible refine Za1 ?_;intro K hK;simp (disch:=omega) only [go_sem,Tryz.underlying46,Tryz.underlying3,sz3];(repeat (first|(refine⟨by omega,?_⟩)|intro _));refine hK _ ?_;clear K hK)|(with_reducible refine Zau ?_ ?_;(focus (simp (disch:=omega) only [go_sem,Tryz.underlying46,Tryz.underlying3,sz3];done)))|(with_reducible refine Zam ?_ ?_;(focus (simp (disch:=omega) only [go_sem,Tryz.underlying46,Tryz.underlying3,sz3];done))))
  simp (disch:=omega) only [go_sem]
 ·by_cases hlast:l.getLast?.getD 1=0
  ·have h0:0 < l.length:=by
    rcases l with _ | ⟨a,r⟩
    ·simp at hlast
    ·simp
   have h5:gI l (l.length - 1)=0:=by rw [Ze4 (by omega)] at hlast;exact hlast
   have hr:Zcc l=false:=by unfold Zcc;simp [hlast]
   rw [hr]
   repeat' (first|with_reducible refine Za5 ?_|with_reducible refine Zaj ?_|with_reducible refine Zaq ?_|with_reducible refine Za6 ?_|with_reducible refine Zar ?_|with_reducible refine Zao ?_|with_reducible refine Zac ?_|with_reducible refine Zab ?_|with_reducible refine t_in ?_|with_reducible refine Zae ?_|with_reducible refine Zad ?_|with_reducible refine Zap ?_|with_reducible refine Zai ?_|(with_reducible refine Za1 ?_;intro K hK;simp (disch:=omega) only [go_sem,Tryz.underlying46,Tryz.underlying3,sz3];(repeat (first|(refine⟨by omega,?_⟩)|intro _));refine hK _ ?_;clear K hK)|(with_reducible refine Zau ?_ ?_;(focus (simp (disch:=omega) only [go_sem,Tryz.underlying46,Tryz.underlying3,sz3];done)))|(with_reducible refine Zam ?_ ?_;(focus (simp (disch:=omega) only [go_sem,Tryz.underlying46,Tryz.underlying3,sz3];done))))
   simp (disch:=omega) only [go_sem]
  ·rw [Zpc (by omega) (by simpa using hlast)];have h5:0 < l.length→gI l (l.length - 1)≠0:=λh=>by rw [Ze4 (by omega)] at hlast;exact hlast
   by_cases h0:0 < l.length
   ·have h5:=h5 h0
    repeat' (first|with_reducible refine Za5 ?_|with_reducible refine Zaj ?_|with_reducible refine Zaq ?_|with_reducible refine Za6 ?_|with_reducible refine Zar ?_|with_reducible refine Zao ?_|with_reducible refine Zac ?_|with_reducible refine Zab ?_|with_reducible refine t_in ?_|with_reducible refine Zae ?_|with_reducible refine Zad ?_|with_reducible refine Zap ?_|with_reducible refine Zai ?_|(with_reducible refine Za1 ?_;intro K hK;simp (disch:=omega) only [go_sem,Tryz.underlying46,Tryz.underlying3,sz3];(repeat (first|(refine⟨by omega,?_⟩)|intro _));refine hK _ ?_;clear K hK)|(with_reducible refine Zau ?_ ?_;(focus (simp (disch:=omega) only [go_sem,Tryz.underlying46,Tryz.underlying3,sz3];done)))|(with_reducible refine Zam ?_ ?_;(focus (simp (disch:=omega) only [go_sem,Tryz.underlying46,Tryz.underlying3,sz3];done))))
    refine Zfj (ι:=Nat) (λk st=>k≤l.length∧st.env 0=.sl 1 (l.map λn=>AV.v (.int .i64 n))∧st.env 3=.v (.int .i64 k)∧(l.take k).all Zf6=true) (λk=>l.length - k) 0 (by rfl) ?_ ?_
    ·rintro k st ⟨hk,e0,e3,ha⟩
     by_cases hlt:k < l.length
     ·by_cases p1:gI l k < 0
      ·repeat' (first|with_reducible refine Za5 ?_|with_reducible refine Zaj ?_|with_reducible refine Zaq ?_|with_reducible refine Za6 ?_|with_reducible refine Zar ?_|with_reducible refine Zao ?_|with_reducible refine Zac ?_|with_reducible refine Zab ?_|with_reducible refine t_in ?_|with_reducible refine Zae ?_|with_reducible refine Zad ?_|with_reducible refine Zap ?_|with_reducible refine Zai ?_|(with_reducible refine Za1 ?_;intro K hK;simp (disch:=omega) only [go_sem,Tryz.underlying46,Tryz.underlying3,sz3,e0,e3];(repeat (first|(refine⟨by omega,?_⟩)|intro _));refine hK _ ?_;clear K hK)|(with_reducible refine Zau ?_ ?_;(focus (simp (disch:=omega) only [go_sem,Tryz.underlying46,Tryz.underlying3,sz3,e0,e3];done)))|(with_reducible refine Zam ?_ ?_;(focus (simp (disch:=omega) only [go_sem,Tryz.underlying46,Tryz.underlying3,sz3,e0,e3];done))))
       rw [Zl2 (p:=Zf6) (k:=k) hlt (by unfold Zf6;simp [p1])];simp (disch:=omega) only [go_sem]
      ·by_cases p2:1048576 < gI l k
       ·repeat' (first|with_reducible refine Za5 ?_|with_reducible refine Zaj ?_|with_reducible refine Zaq ?_|with_reducible refine Za6 ?_|with_reducible refine Zar ?_|with_reducible refine Zao ?_|with_reducible refine Zac ?_|with_reducible refine Zab ?_|with_reducible refine t_in ?_|with_reducible refine Zae ?_|with_reducible refine Zad ?_|with_reducible refine Zap ?_|with_reducible refine Zai ?_|(with_reducible refine Za1 ?_;intro K hK;simp (disch:=omega) only [go_sem,Tryz.underlying46,Tryz.underlying3,sz3,e0,e3];(repeat (first|(refine⟨by omega,?_⟩)|intro _));refine hK _ ?_;clear K hK)|(with_reducible refine Zau ?_ ?_;(focus (simp (disch:=omega) only [go_sem,Tryz.underlying46,Tryz.underlying3,sz3,e0,e3];done)))|(with_reducible refine Zam ?_ ?_;(focus (simp (disch:=omega) only [go_sem,Tryz.underlying46,Tryz.underlying3,sz3,e0,e3];done))))
        rw [Zl2 (p:=Zf6) (k:=k) hlt (by unfold Zf6;simp [p2])];simp (disch:=omega) only [go_sem]
       ·repeat' (first|with_reducible refine Za5 ?_|with_reducible refine Zaj ?_|with_reducible refine Zaq ?_|with_reducible refine Za6 ?_|with_reducible refine Zar ?_|with_reducible refine Zao ?_|with_reducible refine Zac ?_|with_reducible refine Zab ?_|with_reducible refine t_in ?_|with_reducible refine Zae ?_|with_reducible refine Zad ?_|with_reducible refine Zap ?_|with_reducible refine Zai ?_|(with_reducible refine Za1 ?_;intro K hK;simp (disch:=omega) only [go_sem,Tryz.underlying46,Tryz.underlying3,sz3,e0,e3];(repeat (first|(refine⟨by omega,?_⟩)|intro _));refine hK _ ?_;clear K hK)|(with_reducible refine Zau ?_ ?_;(focus (simp (disch:=omega) only [go_sem,Tryz.underlying46,Tryz.underlying3,sz3,e0,e3];done)))|(with_reducible refine Zam ?_ ?_;(focus (simp (disch:=omega) only [go_sem,Tryz.underlying46,Tryz.underlying3,sz3,e0,e3];done))))
        refine⟨k+1,⟨by omega,by simp (disch:=omega) only [go_sem,e0],by simp (disch:=omega) only [go_sem,e3];rfl,?_⟩,by omega⟩;rw [Zl8 (by omega),ha];unfold Zf6;simp [p1,p2]
     ·repeat' (first|with_reducible refine Za5 ?_|with_reducible refine Zaj ?_|with_reducible refine Zaq ?_|with_reducible refine Za6 ?_|with_reducible refine Zar ?_|with_reducible refine Zao ?_|with_reducible refine Zac ?_|with_reducible refine Zab ?_|with_reducible refine t_in ?_|with_reducible refine Zae ?_|with_reducible refine Zad ?_|with_reducible refine Zap ?_|with_reducible refine Zai ?_|(with_reducible refine Za1 ?_;intro K hK;simp (disch:=omega) only [go_sem,Tryz.underlying46,Tryz.underlying3,sz3,e0,e3];(repeat (first|(refine⟨by omega,?_⟩)|intro _));refine hK _ ?_;clear K hK)|(with_reducible refine Zau ?_ ?_;(focus (simp (disch:=omega) only [go_sem,Tryz.underlying46,Tryz.underlying3,sz3,e0,e3];done)))|(with_reducible refine Zam ?_ ?_;(focus (simp (disch:=omega) only [go_sem,Tryz.underlying46,Tryz.underlying3,sz3,e0,e3];done))))
      rw [Zjz (by omega) ha];simp (disch:=omega) only [go_sem]
    ·refine⟨Nat.zero_le _,by simp (disch:=omega) only [go_sem],by simp (disch:=omega) only [go_sem];rfl,by simp⟩
   ·have hnil:l=[]:=List.length_eq_zero_iff.1 (by omega);subst hnil
    repeat' (first|with_reducible refine Za5 ?_|with_reducible refine Zaj ?_|with_reducible refine Zaq ?_|with_reducible refine Za6 ?_|with_reducible refine Zar ?_|with_reducible refine Zao ?_|with_reducible refine Zac ?_|with_reducible refine Zab ?_|with_reducible refine t_in ?_|with_reducible refine Zae ?_|with_reducible refine Zad ?_|with_reducible refine Zap ?_|with_reducible refine Zai ?_|(with_reducible refine Za1 ?_;intro K hK;simp (disch:=omega) only [go_sem,Tryz.underlying46,Tryz.underlying3,sz3];(repeat (first|(refine⟨by omega,?_⟩)|intro _));refine hK _ ?_;clear K hK)|(with_reducible refine Zau ?_ ?_;(focus (simp (disch:=omega) only [go_sem,Tryz.underlying46,Tryz.underlying3,sz3];done)))|(with_reducible refine Zam ?_ ?_;(focus (simp (disch:=omega) only [go_sem,Tryz.underlying46,Tryz.underlying3,sz3];done))))
    refine Zfj (ι:=Unit) (λ_ st=>st.env 0=.sl 1 []∧st.env 3=.v (.int .i64 0)) (λ_=>0) () (by rfl) ?_ ?_
    ·rintro _ st ⟨e0,e3⟩
     repeat' (first|with_reducible refine Za5 ?_|with_reducible refine Zaj ?_|with_reducible refine Zaq ?_|with_reducible refine Za6 ?_|with_reducible refine Zar ?_|with_reducible refine Zao ?_|with_reducible refine Zac ?_|with_reducible refine Zab ?_|with_reducible refine t_in ?_|with_reducible refine Zae ?_|with_reducible refine Zad ?_|with_reducible refine Zap ?_|with_reducible refine Zai ?_|(with_reducible refine Za1 ?_;intro K hK;simp (disch:=omega) only [go_sem,Tryz.underlying46,Tryz.underlying3,sz3,e0,e3];(repeat (first|(refine⟨by omega,?_⟩)|intro _));refine hK _ ?_;clear K hK)|(with_reducible refine Zau ?_ ?_;(focus (simp (disch:=omega) only [go_sem,Tryz.underlying46,Tryz.underlying3,sz3,e0,e3];done)))|(with_reducible refine Zam ?_ ?_;(focus (simp (disch:=omega) only [go_sem,Tryz.underlying46,Tryz.underlying3,sz3,e0,e3];done))))
     simp (disch:=omega) only [go_sem]
    ·refine⟨by simp (disch:=omega) only [go_sem],by simp (disch:=omega) only [go_sem]⟩
attribute [local go_sem] Tryz.underlying46 Tryz.underlying3 sz3 by3 z3
def Sm (l:List Int):Prop:=l.length≤1000∧∀j,0≤gI l j∧gI l j≤16777216
def sumT (l:List Int):Nat→Int
 | 0=>0
 | k+1=>sumT l k+gI l k
theorem Ziu {l:List Int} (h:Sm l):∀k,0≤sumT l k∧sumT l k≤k*16777216
 | 0=>by simp [sumT]
 | k+1=>by
   have h1:=Ziu h k;have h2:=h.2 k;simp only [sumT];omega
theorem Zmy (l:List Int) (hs:Sm l):Pure Tryz.prog 92 [ints l] (.v (.int .i64 (sumT l l.length))):=by
 unfold ints;refine Zaa (tok:=0) (rs:=[.tmp 2]) Tryz.func92 rfl Tryz.ntmps92 Tryz.results92 Tryz.call92 (by rfl) (by simp) ?_;have hl:=hs.1
 repeat' (first|with_reducible refine Za5 ?_|with_reducible refine Zaj ?_|with_reducible refine Zaq ?_|with_reducible refine Za6 ?_|with_reducible refine Zar ?_|with_reducible refine Zao ?_|with_reducible refine Zac ?_|with_reducible refine Zab ?_|with_reducible refine t_in ?_|with_reducible refine Zae ?_|with_reducible refine Zad ?_|with_reducible refine Zap ?_|with_reducible refine Zai ?_|(with_reducible refine Za1 ?_;intro K hK;simp (disch:=omega) only [go_sem];(repeat (first|(refine⟨by omega,?_⟩)|intro _));refine hK _ ?_;clear K hK)|(with_reducible refine Zau ?_ ?_;(focus (simp (disch:=omega) only [go_sem];done)))|(with_reducible refine Zam ?_ ?_;(focus (simp (disch:=omega) only [go_sem];done))))
 refine Zfj (ι:=Nat) (λk st=>k≤l.length∧st.env 6=.sl 1 (l.map λn=>AV.v (.int .i64 n))∧st.env 7=.v (.int .i64 l.length)∧st.env 8=.v (.int .i64 k)∧st.env 3=.v (.int .i64 (sumT l k))) (λk=>l.length - k) 0 (by rfl) ?_ ?_
 ·rintro k st ⟨hk,e6,e7,e8,e3⟩
  by_cases hlt:k < l.length
  ·have b1:=Ziu hs k;have b2:=hs.2 k
   repeat' (first|with_reducible refine Za5 ?_|with_reducible refine Zaj ?_|with_reducible refine Zaq ?_|with_reducible refine Za6 ?_|with_reducible refine Zar ?_|with_reducible refine Zao ?_|with_reducible refine Zac ?_|with_reducible refine Zab ?_|with_reducible refine t_in ?_|with_reducible refine Zae ?_|with_reducible refine Zad ?_|with_reducible refine Zap ?_|with_reducible refine Zai ?_|(with_reducible refine Za1 ?_;intro K hK;simp (disch:=omega) only [go_sem,e6,e7,e8,e3];(repeat (first|(refine⟨by omega,?_⟩)|intro _));refine hK _ ?_;clear K hK)|(with_reducible refine Zau ?_ ?_;(focus (simp (disch:=omega) only [go_sem,e6,e7,e8,e3];done)))|(with_reducible refine Zam ?_ ?_;(focus (simp (disch:=omega) only [go_sem,e6,e7,e8,e3];done))))
   exact⟨k+1,⟨by omega,by simp (disch:=omega) only [go_sem,e6],by simp (disch:=omega) only [go_sem,e7],by simp (disch:=omega) only [go_sem,e8];rfl,by simp (disch:=omega) only [go_sem,e3];rfl⟩,by omega⟩
  ·have hk':k=l.length:=by omega
   subst hk'
   repeat' (first|with_reducible refine Za5 ?_|with_reducible refine Zaj ?_|with_reducible refine Zaq ?_|with_reducible refine Za6 ?_|with_reducible refine Zar ?_|with_reducible refine Zao ?_|with_reducible refine Zac ?_|with_reducible refine Zab ?_|with_reducible refine t_in ?_|with_reducible refine Zae ?_|with_reducible refine Zad ?_|with_reducible refine Zap ?_|with_reducible refine Zai ?_|(with_reducible refine Za1 ?_;intro K hK;simp (disch:=omega) only [go_sem,e6,e7,e8,e3];(repeat (first|(refine⟨by omega,?_⟩)|intro _));refine hK _ ?_;clear K hK)|(with_reducible refine Zau ?_ ?_;(focus (simp (disch:=omega) only [go_sem,e6,e7,e8,e3];done)))|(with_reducible refine Zam ?_ ?_;(focus (simp (disch:=omega) only [go_sem,e6,e7,e8,e3];done))))
   simp (disch:=omega) only [go_sem,e3]
 ·exact⟨Nat.zero_le _,by simp (disch:=omega) only [go_sem],by simp (disch:=omega) only [go_sem],by simp (disch:=omega) only [go_sem];rfl,by simp (disch:=omega) only [go_sem];rfl⟩
theorem Zmf (l:List Int) (hs:Sm l):Pure Tryz.prog 54 [ints l] (.v (.int .i64 (sumT l l.length))):=by
 unfold ints;refine Zaa (tok:=0) (rs:=[.tmp 2]) Tryz.func54 rfl Tryz.ntmps54 Tryz.results54 Tryz.call54 (by rfl) (by simp) ?_;have hl:=hs.1
 repeat' (first|with_reducible refine Za5 ?_|with_reducible refine Zaj ?_|with_reducible refine Zaq ?_|with_reducible refine Za6 ?_|with_reducible refine Zar ?_|with_reducible refine Zao ?_|with_reducible refine Zac ?_|with_reducible refine Zab ?_|with_reducible refine t_in ?_|with_reducible refine Zae ?_|with_reducible refine Zad ?_|with_reducible refine Zap ?_|with_reducible refine Zai ?_|(with_reducible refine Za1 ?_;intro K hK;simp (disch:=omega) only [go_sem];(repeat (first|(refine⟨by omega,?_⟩)|intro _));refine hK _ ?_;clear K hK)|(with_reducible refine Zau ?_ ?_;(focus (simp (disch:=omega) only [go_sem];done)))|(with_reducible refine Zam ?_ ?_;(focus (simp (disch:=omega) only [go_sem];done))))
 refine Zfj (ι:=Nat) (λk st=>k≤l.length∧st.env 0=.sl 1 (l.map λn=>AV.v (.int .i64 n))∧st.env 4=.v (.int .i64 k)∧st.env 3=.v (.int .i64 (sumT l k))) (λk=>l.length - k) 0 (by rfl) ?_ ?_
 ·rintro k st ⟨hk,e0,e4,e3⟩
  by_cases hlt:k < l.length
  ·have b1:=Ziu hs k;have b2:=hs.2 k
   repeat' (first|with_reducible refine Za5 ?_|with_reducible refine Zaj ?_|with_reducible refine Zaq ?_|with_reducible refine Za6 ?_|with_reducible refine Zar ?_|with_reducible refine Zao ?_|with_reducible refine Zac ?_|with_reducible refine Zab ?_|with_reducible refine t_in ?_|with_reducible refine Zae ?_|with_reducible refine Zad ?_|with_reducible refine Zap ?_|with_reducible refine Zai ?_|(with_reducible refine Za1 ?_;intro K hK;simp (disch:=omega) only [go_sem,e0,e4,e3];(repeat (first|(refine⟨by omega,?_⟩)|intro _));refine hK _ ?_;clear K hK)|(with_reducible refine Zau ?_ ?_;(focus (simp (disch:=omega) only [go_sem,e0,e4,e3];done)))|(with_reducible refine Zam ?_ ?_;(focus (simp (disch:=omega) only [go_sem,e0,e4,e3];done))))
   exact⟨k+1,⟨by omega,by simp (disch:=omega) only [go_sem,e0],by simp (disch:=omega) only [go_sem,e4];rfl,by simp (disch:=omega) only [go_sem,e3];rfl⟩,by omega⟩
  ·have hk':k=l.length:=by omega
   subst hk'
   repeat' (first|with_reducible refine Za5 ?_|with_reducible refine Zaj ?_|with_reducible refine Zaq ?_|with_reducible refine Za6 ?_|with_reducible refine Zar ?_|with_reducible refine Zao ?_|with_reducible refine Zac ?_|with_reducible refine Zab ?_|with_reducible refine t_in ?_|with_reducible refine Zae ?_|with_reducible refine Zad ?_|with_reducible refine Zap ?_|with_reducible refine Zai ?_|(with_reducible refine Za1 ?_;intro K hK;simp (disch:=omega) only [go_sem,e0,e4,e3];(repeat (first|(refine⟨by omega,?_⟩)|intro _));refine hK _ ?_;clear K hK)|(with_reducible refine Zau ?_ ?_;(focus (simp (disch:=omega) only [go_sem,e0,e4,e3];done)))|(with_reducible refine Zam ?_ ?_;(focus (simp (disch:=omega) only [go_sem,e0,e4,e3];done))))
   simp (disch:=omega) only [go_sem,e3]
 ·exact⟨Nat.zero_le _,by simp (disch:=omega) only [go_sem],by simp (disch:=omega) only [go_sem];rfl,by simp (disch:=omega) only [go_sem];rfl⟩
def expI (l:List Int) (v:Int):Int:=if v < 0 then 0 else gI l v.toNat
theorem exp_of (l:List Int) (k:Nat):expI l (k:Int)=gI l k:=by unfold expI;rw [if_neg (by omega)];rfl
theorem Zo4 {l:List Int} {v:Int} (h0:0≤v) (h:v < l.length):v.toNat < l.length:=by omega
theorem monExp (l:List Int) (v:Int):Pure Tryz.prog 93 [ints l,.v (.int .i64 v)] (.v (.int .i64 (expI l v))):=by
 unfold ints;refine Zaa (tok:=0) (rs:=[.tmp 4]) Tryz.func93 rfl Tryz.ntmps93 Tryz.results93 Tryz.call93 (by rfl) (by simp) ?_;by_cases h0:v < 0
 ·unfold expI;rw [if_pos h0]
  repeat' (first|with_reducible refine Za5 ?_|with_reducible refine Zaj ?_|with_reducible refine Zaq ?_|with_reducible refine Za6 ?_|with_reducible refine Zar ?_|with_reducible refine Zao ?_|with_reducible refine Zac ?_|with_reducible refine Zab ?_|with_reducible refine t_in ?_|with_reducible refine Zae ?_|with_reducible refine Zad ?_|with_reducible refine Zap ?_|with_reducible refine Zai ?_|(with_reducible refine Za1 ?_;intro K hK;simp (disch:=omega) only [go_sem];(repeat (first|(refine⟨by omega,?_⟩)|intro _));refine hK _ ?_;clear K hK)|(with_reducible refine Zau ?_ ?_;(focus (simp (disch:=omega) only [go_sem];done)))|(with_reducible refine Zam ?_ ?_;(focus (simp (disch:=omega) only [go_sem];done))))
  simp (disch:=omega) only [go_sem]
 ·unfold expI;rw [if_neg h0];by_cases h1:v < l.length
  ·have h2:=Zo4 (by omega) h1
   repeat' (first|with_reducible refine Za5 ?_|with_reducible refine Zaj ?_|with_reducible refine Zaq ?_|with_reducible refine Za6 ?_|with_reducible refine Zar ?_|with_reducible refine Zao ?_|with_reducible refine Zac ?_|with_reducible refine Zab ?_|with_reducible refine t_in ?_|with_reducible refine Zae ?_|with_reducible refine Zad ?_|with_reducible refine Zap ?_|with_reducible refine Zai ?_|(with_reducible refine Za1 ?_;intro K hK;simp (disch:=omega) only [go_sem];(repeat (first|(refine⟨by omega,?_⟩)|intro _));refine hK _ ?_;clear K hK)|(with_reducible refine Zau ?_ ?_;(focus (simp (disch:=omega) only [go_sem];done)))|(with_reducible refine Zam ?_ ?_;(focus (simp (disch:=omega) only [go_sem];done))))
   simp (disch:=omega) only [go_sem]
  ·rw [Zbg (by omega)]
   repeat' (first|with_reducible refine Za5 ?_|with_reducible refine Zaj ?_|with_reducible refine Zaq ?_|with_reducible refine Za6 ?_|with_reducible refine Zar ?_|with_reducible refine Zao ?_|with_reducible refine Zac ?_|with_reducible refine Zab ?_|with_reducible refine t_in ?_|with_reducible refine Zae ?_|with_reducible refine Zad ?_|with_reducible refine Zap ?_|with_reducible refine Zai ?_|(with_reducible refine Za1 ?_;intro K hK;simp (disch:=omega) only [go_sem];(repeat (first|(refine⟨by omega,?_⟩)|intro _));refine hK _ ?_;clear K hK)|(with_reducible refine Zau ?_ ?_;(focus (simp (disch:=omega) only [go_sem];done)))|(with_reducible refine Zam ?_ ?_;(focus (simp (disch:=omega) only [go_sem];done))))
   simp (disch:=omega) only [go_sem]
theorem refExp (l:List Int) (v:Int):Pure Tryz.prog 52 [ints l,.v (.int .i64 v)] (.v (.int .i64 (expI l v))):=by
 unfold ints;refine Zaa (tok:=0) (rs:=[.tmp 4]) Tryz.func52 rfl Tryz.ntmps52 Tryz.results52 Tryz.call52 (by rfl) (by simp) ?_;by_cases h0:v < 0
 ·unfold expI;rw [if_pos h0]
  repeat' (first|with_reducible refine Za5 ?_|with_reducible refine Zaj ?_|with_reducible refine Zaq ?_|with_reducible refine Za6 ?_|with_reducible refine Zar ?_|with_reducible refine Zao ?_|with_reducible refine Zac ?_|with_reducible refine Zab ?_|with_reducible refine t_in ?_|with_reducible refine Zae ?_|with_reducible refine Zad ?_|with_reducible refine Zap ?_|with_reducible refine Zai ?_|(with_reducible refine Za1 ?_;intro K hK;simp (disch:=omega) only [go_sem];(repeat (first|(refine⟨by omega,?_⟩)|intro _));refine hK _ ?_;clear K hK)|(with_reducible refine Zau ?_ ?_;(focus (simp (disch:=omega) only [go_sem];done)))|(with_reducible refine Zam ?_ ?_;(focus (simp (disch:=omega) only [go_sem];done))))
  simp (disch:=omega) only [go_sem]
 ·unfold expI;rw [if_neg h0];by_cases h1:v < l.length
  ·have h2:=Zo4 (by omega) h1
   repeat' (first|with_reducible refine Za5 ?_|with_reducible refine Zaj ?_|with_reducible refine Zaq ?_|with_reducible refine Za6 ?_|with_reducible refine Zar ?_|with_reducible refine Zao ?_|with_reducible refine Zac ?_|with_reducible refine Zab ?_|with_reducible refine t_in ?_|with_reducible refine Zae ?_|with_reducible refine Zad ?_|with_reducible refine Zap ?_|with_reducible refine Zai ?_|(with_reducible refine Za1 ?_;intro K hK;simp (disch:=omega) only [go_sem];(repeat (first|(refine⟨by omega,?_⟩)|intro _));refine hK _ ?_;clear K hK)|(with_reducible refine Zau ?_ ?_;(focus (simp (disch:=omega) only [go_sem];done)))|(with_reducible refine Zam ?_ ?_;(focus (simp (disch:=omega) only [go_sem];done))))
   simp (disch:=omega) only [go_sem]
  ·rw [Zbg (by omega)]
   repeat' (first|with_reducible refine Za5 ?_|with_reducible refine Zaj ?_|with_reducible refine Zaq ?_|with_reducible refine Za6 ?_|with_reducible refine Zar ?_|with_reducible refine Zao ?_|with_reducible refine Zac ?_|with_reducible refine Zab ?_|with_reducible refine t_in ?_|with_reducible refine Zae ?_|with_reducible refine Zad ?_|with_reducible refine Zap ?_|with_reducible refine Zai ?_|(with_reducible refine Za1 ?_;intro K hK;simp (disch:=omega) only [go_sem];(repeat (first|(refine⟨by omega,?_⟩)|intro _));refine hK _ ?_;clear K hK)|(with_reducible refine Zau ?_ ?_;(focus (simp (disch:=omega) only [go_sem];done)))|(with_reducible refine Zam ?_ ?_;(focus (simp (disch:=omega) only [go_sem];done))))
   simp (disch:=omega) only [go_sem]
def sgn (n:Int):Int:=if n < 0 then -1 else if 0 < n then 1 else 0
theorem Zrw (n:Int):Pure Tryz.prog 109 [.v (.int .i64 n)] (.v (.int .i64 (sgn n))):=by
 refine Zaa (tok:=0) (rs:=[.tmp 2]) Tryz.func109 rfl Tryz.ntmps109 Tryz.results109 Tryz.call109 (by rfl) (by simp) ?_;unfold sgn;by_cases h0:n < 0
 ·rw [if_pos h0]
  repeat' (first|with_reducible refine Za5 ?_|with_reducible refine Zaj ?_|with_reducible refine Zaq ?_|with_reducible refine Za6 ?_|with_reducible refine Zar ?_|with_reducible refine Zao ?_|with_reducible refine Zac ?_|with_reducible refine Zab ?_|with_reducible refine t_in ?_|with_reducible refine Zae ?_|with_reducible refine Zad ?_|with_reducible refine Zap ?_|with_reducible refine Zai ?_|(with_reducible refine Za1 ?_;intro K hK;simp (disch:=omega) only [go_sem];(repeat (first|(refine⟨by omega,?_⟩)|intro _));refine hK _ ?_;clear K hK)|(with_reducible refine Zau ?_ ?_;(focus (simp (disch:=omega) only [go_sem];done)))|(with_reducible refine Zam ?_ ?_;(focus (simp (disch:=omega) only [go_sem];done))))
  simp (disch:=omega) only [go_sem]
 ·rw [if_neg h0];by_cases h1:0 < n
  ·rw [if_pos h1]
   repeat' (first|with_reducible refine Za5 ?_|with_reducible refine Zaj ?_|with_reducible refine Zaq ?_|with_reducible refine Za6 ?_|with_reducible refine Zar ?_|with_reducible refine Zao ?_|with_reducible refine Zac ?_|with_reducible refine Zab ?_|with_reducible refine t_in ?_|with_reducible refine Zae ?_|with_reducible refine Zad ?_|with_reducible refine Zap ?_|with_reducible refine Zai ?_|(with_reducible refine Za1 ?_;intro K hK;simp (disch:=omega) only [go_sem];(repeat (first|(refine⟨by omega,?_⟩)|intro _));refine hK _ ?_;clear K hK)|(with_reducible refine Zau ?_ ?_;(focus (simp (disch:=omega) only [go_sem];done)))|(with_reducible refine Zam ?_ ?_;(focus (simp (disch:=omega) only [go_sem];done))))
   simp (disch:=omega) only [go_sem]
  ·rw [if_neg h1]
   repeat' (first|with_reducible refine Za5 ?_|with_reducible refine Zaj ?_|with_reducible refine Zaq ?_|with_reducible refine Za6 ?_|with_reducible refine Zar ?_|with_reducible refine Zao ?_|with_reducible refine Zac ?_|with_reducible refine Zab ?_|with_reducible refine t_in ?_|with_reducible refine Zae ?_|with_reducible refine Zad ?_|with_reducible refine Zap ?_|with_reducible refine Zai ?_|(with_reducible refine Za1 ?_;intro K hK;simp (disch:=omega) only [go_sem];(repeat (first|(refine⟨by omega,?_⟩)|intro _));refine hK _ ?_;clear K hK)|(with_reducible refine Zau ?_ ?_;(focus (simp (disch:=omega) only [go_sem];done)))|(with_reducible refine Zam ?_ ?_;(focus (simp (disch:=omega) only [go_sem];done))))
   simp (disch:=omega) only [go_sem]
attribute [local go_sem] Tryz.underlying45
def Zdg (l:List Int):Nat→Nat
 | 0=>0
 | n+1=>if gI l n=0 then Zdg l n else n+1
theorem Zkx (l:List Int):∀n,Zdg l n≤n
 | 0=>Nat.le_refl _
 | n+1=>by
   simp only [Zdg];split
   ·exact Nat.le_trans (Zkx l n) (by omega)
   ·omega
def Zct (l:List Int):List Int:=l.take (Zdg l l.length)
theorem Zht {l:List Int} {k:Nat} (h:0 < k) (hx:gI l (k - 1)≠0):Zdg l k=k:=by
 cases k with
 | zero=>omega
 | succ k=>simp only [Zdg];rw [if_neg (by simpa using hx)]
theorem Zj7 {l:List Int} {k:Nat} (h:0 < k) (hx:gI l (k - 1)=0):Zdg l (k - 1)=Zdg l k:=by
 cases k with
 | zero=>omega
 | succ k=>simp only [Zdg];rw [if_pos (by simpa using hx)];rfl
theorem Zhn {k:Nat} (h:0 < k):(k:Int) - 1=((k - 1:Nat):Int):=by omega
theorem monTrim' (l:List Int) (hs:l.length≤1000):Pure Tryz.prog 119 [ints l] (if Zdg l l.length=0 then .v (.slice none 0 0) else ints (Zct l)):=by
 have hle:=Zkx l l.length
 have hcode:∀r:AV,(Zdg l l.length=0→r=.v (.slice none 0 0))→(Zdg l l.length≠0→r=.sl 1 ((l.map λn=>AV.v (.int .i64 n)).take (Zdg l l.length)))→Pure Tryz.prog 119 [ints l] r:=by
  intro r h1 h2;unfold ints;refine Zaa (tok:=0) (rs:=[.tmp 2]) Tryz.func119 rfl Tryz.ntmps119 Tryz.results119 Tryz.call119 (by rfl) (by simp) ?_
  repeat' (first|with_reducible refine Za5 ?_|with_reducible refine Zaj ?_|with_reducible refine Zaq ?_|with_reducible refine Za6 ?_|with_reducible refine Zar ?_|with_reducible refine Zao ?_|with_reducible refine Zac ?_|with_reducible refine Zab ?_|with_reducible refine t_in ?_|with_reducible refine Zae ?_|with_reducible refine Zad ?_|with_reducible refine Zap ?_|with_reducible refine Zai ?_|(with_reducible refine Za1 ?_;intro K hK;simp (disch:=omega) only [go_sem];(repeat (first|(refine⟨by omega,?_⟩)|intro _));refine hK _ ?_;clear K hK)|(with_reducible refine Zau ?_ ?_;(focus (simp (disch:=omega) only [go_sem];done)))|(with_reducible refine Zam ?_ ?_;(focus (simp (disch:=omega) only [go_sem];done))))
  refine Zfj (ι:=Nat) (λk st=>k≤l.length∧st.env 0=.sl 1 (l.map λn=>AV.v (.int .i64 n))∧st.env 3=.v (.int .i64 k)∧Zdg l k=Zdg l l.length) (λk=>k) l.length (by rfl) ?_ ?_
  ·rintro k st ⟨hk,e0,e3,ha⟩
   by_cases h0:0 < k
   ·by_cases hx:gI l (k - 1)=0
    ·repeat' (first|with_reducible refine Za5 ?_|with_reducible refine Zaj ?_|with_reducible refine Zaq ?_|with_reducible refine Za6 ?_|with_reducible refine Zar ?_|with_reducible refine Zao ?_|with_reducible refine Zac ?_|with_reducible refine Zab ?_|with_reducible refine t_in ?_|with_reducible refine Zae ?_|with_reducible refine Zad ?_|with_reducible refine Zap ?_|with_reducible refine Zai ?_|(with_reducible refine Za1 ?_;intro K hK;simp (disch:=omega) only [go_sem,e0,e3];(repeat (first|(refine⟨by omega,?_⟩)|intro _));refine hK _ ?_;clear K hK)|(with_reducible refine Zau ?_ ?_;(focus (simp (disch:=omega) only [go_sem,e0,e3];done)))|(with_reducible refine Zam ?_ ?_;(focus (simp (disch:=omega) only [go_sem,e0,e3];done))))
     refine⟨k - 1,⟨by omega,by simp (disch:=omega) only [go_sem,e0],by simp (disch:=omega) only [go_sem,e3];rw [Zhn h0],?_⟩,by omega⟩;rw [Zj7 h0 hx,ha]
    ·rw [Zht h0 hx] at ha;rw [←ha] at h1 h2 hle;rw [h2 (by omega)]
     repeat' (first|with_reducible refine Za5 ?_|with_reducible refine Zaj ?_|with_reducible refine Zaq ?_|with_reducible refine Za6 ?_|with_reducible refine Zar ?_|with_reducible refine Zao ?_|with_reducible refine Zac ?_|with_reducible refine Zab ?_|with_reducible refine t_in ?_|with_reducible refine Zae ?_|with_reducible refine Zad ?_|with_reducible refine Zap ?_|with_reducible refine Zai ?_|(with_reducible refine Za1 ?_;intro K hK;simp (disch:=omega) only [go_sem,e0,e3];(repeat (first|(refine⟨by omega,?_⟩)|intro _));refine hK _ ?_;clear K hK)|(with_reducible refine Zau ?_ ?_;(focus (simp (disch:=omega) only [go_sem,e0,e3];done)))|(with_reducible refine Zam ?_ ?_;(focus (simp (disch:=omega) only [go_sem,e0,e3];done))))
     simp (disch:=omega) only [go_sem]
   ·have hk0:k=0:=by omega
    subst hk0;have h3:Zdg l l.length=0:=ha.symm;rw [h1 h3]
    repeat' (first|with_reducible refine Za5 ?_|with_reducible refine Zaj ?_|with_reducible refine Zaq ?_|with_reducible refine Za6 ?_|with_reducible refine Zar ?_|with_reducible refine Zao ?_|with_reducible refine Zac ?_|with_reducible refine Zab ?_|with_reducible refine t_in ?_|with_reducible refine Zae ?_|with_reducible refine Zad ?_|with_reducible refine Zap ?_|with_reducible refine Zai ?_|(with_reducible refine Za1 ?_;intro K hK;simp (disch:=omega) only [go_sem,e0,e3];(repeat (first|(refine⟨by omega,?_⟩)|intro _));refine hK _ ?_;clear K hK)|(with_reducible refine Zau ?_ ?_;(focus (simp (disch:=omega) only [go_sem,e0,e3];done)))|(with_reducible refine Zam ?_ ?_;(focus (simp (disch:=omega) only [go_sem,e0,e3];done))))
    simp (disch:=omega) only [go_sem]
  ·exact⟨Nat.le_refl _,by simp (disch:=omega) only [go_sem],by simp (disch:=omega) only [go_sem],rfl⟩
 refine hcode _ (λh=>by rw [if_pos h]) (λh=>by rw [if_neg h];unfold ints Zct;rw [List.map_take])
theorem Zlj (l:List Int) (hs:l.length≤1000):Pure Tryz.prog 119 [ints l] (ints (Zct l)):=by
 refine(monTrim' l hs).wk ?_;split
 ·rename_i h;unfold Zct ints;rw [h];exact .nil 1
 ·exact .refl _
theorem refCut (l:List Int) (hs:l.length≤1000):Pure Tryz.prog 131 [ints l] (ints (Zct l)):=by
 have hle:=Zkx l l.length
 have hcode:∀r:AV,(r=.sl 1 ((l.map λn=>AV.v (.int .i64 n)).take (Zdg l l.length)))→Pure Tryz.prog 131 [ints l] r:=by
  intro r h2;unfold ints;refine Zaa (tok:=0) (rs:=[.tmp 2]) Tryz.func131 rfl Tryz.ntmps131 Tryz.results131 Tryz.call131 (by rfl) (by simp) ?_
  repeat' (first|with_reducible refine Za5 ?_|with_reducible refine Zaj ?_|with_reducible refine Zaq ?_|with_reducible refine Za6 ?_|with_reducible refine Zar ?_|with_reducible refine Zao ?_|with_reducible refine Zac ?_|with_reducible refine Zab ?_|with_reducible refine t_in ?_|with_reducible refine Zae ?_|with_reducible refine Zad ?_|with_reducible refine Zap ?_|with_reducible refine Zai ?_|(with_reducible refine Za1 ?_;intro K hK;simp (disch:=omega) only [go_sem];(repeat (first|(refine⟨by omega,?_⟩)|intro _));refine hK _ ?_;clear K hK)|(with_reducible refine Zau ?_ ?_;(focus (simp (disch:=omega) only [go_sem];done)))|(with_reducible refine Zam ?_ ?_;(focus (simp (disch:=omega) only [go_sem];done))))
  refine Zfj (ι:=Nat) (λk st=>k≤l.length∧st.env 0=.sl 1 (l.map λn=>AV.v (.int .i64 n))∧st.env 3=.v (.int .i64 k)∧Zdg l k=Zdg l l.length∧st.mem=Zan) (λk=>k) l.length (by rfl) ?_ ?_
  ·rintro k st ⟨hk,e0,e3,ha,em⟩
   by_cases h0:0 < k
   ·by_cases hx:gI l (k - 1)=0
    ·repeat' (first|with_reducible refine Za5 ?_|with_reducible refine Zaj ?_|with_reducible refine Zaq ?_|with_reducible refine Za6 ?_|with_reducible refine Zar ?_|with_reducible refine Zao ?_|with_reducible refine Zac ?_|with_reducible refine Zab ?_|with_reducible refine t_in ?_|with_reducible refine Zae ?_|with_reducible refine Zad ?_|with_reducible refine Zap ?_|with_reducible refine Zai ?_|(with_reducible refine Za1 ?_;intro K hK;simp (disch:=omega) only [go_sem,e0,e3];(repeat (first|(refine⟨by omega,?_⟩)|intro _));refine hK _ ?_;clear K hK)|(with_reducible refine Zau ?_ ?_;(focus (simp (disch:=omega) only [go_sem,e0,e3];done)))|(with_reducible refine Zam ?_ ?_;(focus (simp (disch:=omega) only [go_sem,e0,e3];done))))
     refine⟨k - 1,⟨by omega,by simp (disch:=omega) only [go_sem,e0],by simp (disch:=omega) only [go_sem,e3];rw [Zhn h0],?_,by simp (disch:=omega) only [go_sem,em]⟩,by omega⟩;rw [Zj7 h0 hx,ha]
    ·rw [Zht h0 hx] at ha;rw [←ha] at h2 hle;rw [h2]
     repeat' (first|with_reducible refine Za5 ?_|with_reducible refine Zaj ?_|with_reducible refine Zaq ?_|with_reducible refine Za6 ?_|with_reducible refine Zar ?_|with_reducible refine Zao ?_|with_reducible refine Zac ?_|with_reducible refine Zab ?_|with_reducible refine t_in ?_|with_reducible refine Zae ?_|with_reducible refine Zad ?_|with_reducible refine Zap ?_|with_reducible refine Zai ?_|(with_reducible refine Za1 ?_;intro K hK;simp (disch:=omega) only [go_sem,e0,e3,em];(repeat (first|(refine⟨by omega,?_⟩)|intro _));refine hK _ ?_;clear K hK)|(with_reducible refine Zau ?_ ?_;(focus (simp (disch:=omega) only [go_sem,e0,e3,em];done)))|(with_reducible refine Zam ?_ ?_;(focus (simp (disch:=omega) only [go_sem,e0,e3,em];done))))
     simp (disch:=omega) only [go_sem]
   ·have hk0:k=0:=by omega
    subst hk0;have h3:Zdg l l.length=0:=ha.symm;rw [h2,h3]
    repeat' (first|with_reducible refine Za5 ?_|with_reducible refine Zaj ?_|with_reducible refine Zaq ?_|with_reducible refine Za6 ?_|with_reducible refine Zar ?_|with_reducible refine Zao ?_|with_reducible refine Zac ?_|with_reducible refine Zab ?_|with_reducible refine t_in ?_|with_reducible refine Zae ?_|with_reducible refine Zad ?_|with_reducible refine Zap ?_|with_reducible refine Zai ?_|(with_reducible refine Za1 ?_;intro K hK;simp (disch:=omega) only [go_sem,e0,e3,em];(repeat (first|(refine⟨by omega,?_⟩)|intro _));refine hK _ ?_;clear K hK)|(with_reducible refine Zau ?_ ?_;(focus (simp (disch:=omega) only [go_sem,e0,e3,em];done)))|(with_reducible refine Zam ?_ ?_;(focus (simp (disch:=omega) only [go_sem,e0,e3,em];done))))
    simp (disch:=omega) only [go_sem]
  ·exact⟨Nat.le_refl _,by simp (disch:=omega) only [go_sem],by simp (disch:=omega) only [go_sem],rfl,by simp (disch:=omega) only [go_sem]⟩
 refine hcode _ (by unfold ints Zct;rw [List.map_take])
theorem Zpx (l:List Int):Pure Tryz.prog 43 [ints l] (.v (.bool (Zcc l))):=by
 unfold ints;refine Zaa (tok:=0) (rs:=[.tmp 2]) Tryz.func43 rfl Tryz.ntmps43 Tryz.results43 Tryz.call43 (by rfl) (by simp) ?_;by_cases hbig:64 < l.length
 ·have hr:Zcc l=false:=by unfold Zcc;simp;omega
  rw [hr]
  repeat' (first|with_reducible refine Za5 ?_|with_reducible refine Zaj ?_|with_reducible refine Zaq ?_|with_reducible refine Za6 ?_|with_reducible refine Zar ?_|with_reducible refine Zao ?_|with_reducible refine Zac ?_|with_reducible refine Zab ?_|with_reducible refine t_in ?_|with_reducible refine Zae ?_|with_reducible refine Zad ?_|with_reducible refine Zap ?_|with_reducible refine Zai ?_|(with_reducible refine Za1 ?_;intro K hK;simp (disch:=omega) only [go_sem];(repeat (first|(refine⟨by omega,?_⟩)|intro _));refine hK _ ?_;clear K hK)|(with_reducible refine Zau ?_ ?_;(focus (simp (disch:=omega) only [go_sem];done)))|(with_reducible refine Zam ?_ ?_;(focus (simp (disch:=omega) only [go_sem];done))))
  simp (disch:=omega) only [go_sem]
 ·by_cases hlast:l.getLast?.getD 1=0
  ·have h0:0 < l.length:=by
    rcases l with _ | ⟨a,r⟩
    ·simp at hlast
    ·simp
   have h5:gI l (l.length - 1)=0:=by rw [Ze4 (by omega)] at hlast;exact hlast
   have hr:Zcc l=false:=by unfold Zcc;simp [hlast]
   rw [hr]
   repeat' (first|with_reducible refine Za5 ?_|with_reducible refine Zaj ?_|with_reducible refine Zaq ?_|with_reducible refine Za6 ?_|with_reducible refine Zar ?_|with_reducible refine Zao ?_|with_reducible refine Zac ?_|with_reducible refine Zab ?_|with_reducible refine t_in ?_|with_reducible refine Zae ?_|with_reducible refine Zad ?_|with_reducible refine Zap ?_|with_reducible refine Zai ?_|(with_reducible refine Za1 ?_;intro K hK;simp (disch:=omega) only [go_sem];(repeat (first|(refine⟨by omega,?_⟩)|intro _));refine hK _ ?_;clear K hK)|(with_reducible refine Zau ?_ ?_;(focus (simp (disch:=omega) only [go_sem];done)))|(with_reducible refine Zam ?_ ?_;(focus (simp (disch:=omega) only [go_sem];done))))
   simp (disch:=omega) only [go_sem]
  ·rw [Zpc (by omega) (by simpa using hlast)];have h5:0 < l.length→gI l (l.length - 1)≠0:=λh=>by rw [Ze4 (by omega)] at hlast;exact hlast
   by_cases h0:0 < l.length
   ·have h5:=h5 h0
    repeat' (first|with_reducible refine Za5 ?_|with_reducible refine Zaj ?_|with_reducible refine Zaq ?_|with_reducible refine Za6 ?_|with_reducible refine Zar ?_|with_reducible refine Zao ?_|with_reducible refine Zac ?_|with_reducible refine Zab ?_|with_reducible refine t_in ?_|with_reducible refine Zae ?_|with_reducible refine Zad ?_|with_reducible refine Zap ?_|with_reducible refine Zai ?_|(with_reducible refine Za1 ?_;intro K hK;simp (disch:=omega) only [go_sem];(repeat (first|(refine⟨by omega,?_⟩)|intro _));refine hK _ ?_;clear K hK)|(with_reducible refine Zau ?_ ?_;(focus (simp (disch:=omega) only [go_sem];done)))|(with_reducible refine Zam ?_ ?_;(focus (simp (disch:=omega) only [go_sem];done))))
    refine Zfj (ι:=Nat) (λk st=>k≤l.length∧st.env 22=.sl 1 (l.map λn=>AV.v (.int .i64 n))∧st.env 23=.v (.int .i64 l.length)∧st.env 24=.v (.int .i64 k)∧(l.take k).all Zf6=true) (λk=>l.length - k) 0 (by rfl) ?_ ?_
    ·rintro k st ⟨hk,e0,e1,e3,ha⟩
     by_cases hlt:k < l.length
     ·by_cases p1:gI l k < 0
      ·repeat' (first|with_reducible refine Za5 ?_|with_reducible refine Zaj ?_|with_reducible refine Zaq ?_|with_reducible refine Za6 ?_|with_reducible refine Zar ?_|with_reducible refine Zao ?_|with_reducible refine Zac ?_|with_reducible refine Zab ?_|with_reducible refine t_in ?_|with_reducible refine Zae ?_|with_reducible refine Zad ?_|with_reducible refine Zap ?_|with_reducible refine Zai ?_|(with_reducible refine Za1 ?_;intro K hK;simp (disch:=omega) only [go_sem,e0,e1,e3];(repeat (first|(refine⟨by omega,?_⟩)|intro _));refine hK _ ?_;clear K hK)|(with_reducible refine Zau ?_ ?_;(focus (simp (disch:=omega) only [go_sem,e0,e1,e3];done)))|(with_reducible refine Zam ?_ ?_;(focus (simp (disch:=omega) only [go_sem,e0,e1,e3];done))))
       rw [Zl2 (p:=Zf6) (k:=k) hlt (by unfold Zf6;simp [p1])];simp (disch:=omega) only [go_sem]
      ·by_cases p2:1048576 < gI l k
       ·repeat' (first|with_reducible refine Za5 ?_|with_reducible refine Zaj ?_|with_reducible refine Zaq ?_|with_reducible refine Za6 ?_|with_reducible refine Zar ?_|with_reducible refine Zao ?_|with_reducible refine Zac ?_|with_reducible refine Zab ?_|with_reducible refine t_in ?_|with_reducible refine Zae ?_|with_reducible refine Zad ?_|with_reducible refine Zap ?_|with_reducible refine Zai ?_|(with_reducible refine Za1 ?_;intro K hK;simp (disch:=omega) only [go_sem,e0,e1,e3];(repeat (first|(refine⟨by omega,?_⟩)|intro _));refine hK _ ?_;clear K hK)|(with_reducible refine Zau ?_ ?_;(focus (simp (disch:=omega) only [go_sem,e0,e1,e3];done)))|(with_reducible refine Zam ?_ ?_;(focus (simp (disch:=omega) only [go_sem,e0,e1,e3];done))))
        rw [Zl2 (p:=Zf6) (k:=k) hlt (by unfold Zf6;simp [p2])];simp (disch:=omega) only [go_sem]
       ·repeat' (first|with_reducible refine Za5 ?_|with_reducible refine Zaj ?_|with_reducible refine Zaq ?_|with_reducible refine Za6 ?_|with_reducible refine Zar ?_|with_reducible refine Zao ?_|with_reducible refine Zac ?_|with_reducible refine Zab ?_|with_reducible refine t_in ?_|with_reducible refine Zae ?_|with_reducible refine Zad ?_|with_reducible refine Zap ?_|with_reducible refine Zai ?_|(with_reducible refine Za1 ?_;intro K hK;simp (disch:=omega) only [go_sem,e0,e1,e3];(repeat (first|(refine⟨by omega,?_⟩)|intro _));refine hK _ ?_;clear K hK)|(with_reducible refine Zau ?_ ?_;(focus (simp (disch:=omega) only [go_sem,e0,e1,e3];done)))|(with_reducible refine Zam ?_ ?_;(focus (simp (disch:=omega) only [go_sem,e0,e1,e3];done))))
        refine⟨k+1,⟨by omega,by simp (disch:=omega) only [go_sem,e0],by simp (disch:=omega) only [go_sem,e1],by simp (disch:=omega) only [go_sem,e3];rfl,?_⟩,by omega⟩;rw [Zl8 (by omega),ha];unfold Zf6;simp [p1,p2]
     ·repeat' (first|with_reducible refine Za5 ?_|with_reducible refine Zaj ?_|with_reducible refine Zaq ?_|with_reducible refine Za6 ?_|with_reducible refine Zar ?_|with_reducible refine Zao ?_|with_reducible refine Zac ?_|with_reducible refine Zab ?_|with_reducible refine t_in ?_|with_reducible refine Zae ?_|with_reducible refine Zad ?_|with_reducible refine Zap ?_|with_reducible refine Zai ?_|(with_reducible refine Za1 ?_;intro K hK;simp (disch:=omega) only [go_sem,e0,e1,e3];(repeat (first|(refine⟨by omega,?_⟩)|intro _));refine hK _ ?_;clear K hK)|(with_reducible refine Zau ?_ ?_;(focus (simp (disch:=omega) only [go_sem,e0,e1,e3];done)))|(with_reducible refine Zam ?_ ?_;(focus (simp (disch:=omega) only [go_sem,e0,e1,e3];done))))
      rw [Zjz (by omega) ha];simp (disch:=omega) only [go_sem]
    ·refine⟨Nat.zero_le _,by simp (disch:=omega) only [go_sem],by simp (disch:=omega) only [go_sem],by simp (disch:=omega) only [go_sem];rfl,by simp⟩
   ·have hnil:l=[]:=List.length_eq_zero_iff.1 (by omega);subst hnil
    repeat' (first|with_reducible refine Za5 ?_|with_reducible refine Zaj ?_|with_reducible refine Zaq ?_|with_reducible refine Za6 ?_|with_reducible refine Zar ?_|with_reducible refine Zao ?_|with_reducible refine Zac ?_|with_reducible refine Zab ?_|with_reducible refine t_in ?_|with_reducible refine Zae ?_|with_reducible refine Zad ?_|with_reducible refine Zap ?_|with_reducible refine Zai ?_|(with_reducible refine Za1 ?_;intro K hK;simp (disch:=omega) only [go_sem];(repeat (first|(refine⟨by omega,?_⟩)|intro _));refine hK _ ?_;clear K hK)|(with_reducible refine Zau ?_ ?_;(focus (simp (disch:=omega) only [go_sem];done)))|(with_reducible refine Zam ?_ ?_;(focus (simp (disch:=omega) only [go_sem];done))))
    refine Zfj (ι:=Unit) (λ_ st=>st.env 23=.v (.int .i64 0)∧st.env 24=.v (.int .i64 0)) (λ_=>0) () (by rfl) ?_ ?_
    ·rintro _ st ⟨e0,e3⟩
     repeat' (first|with_reducible refine Za5 ?_|with_reducible refine Zaj ?_|with_reducible refine Zaq ?_|with_reducible refine Za6 ?_|with_reducible refine Zar ?_|with_reducible refine Zao ?_|with_reducible refine Zac ?_|with_reducible refine Zab ?_|with_reducible refine t_in ?_|with_reducible refine Zae ?_|with_reducible refine Zad ?_|with_reducible refine Zap ?_|with_reducible refine Zai ?_|(with_reducible refine Za1 ?_;intro K hK;simp (disch:=omega) only [go_sem,e0,e3];(repeat (first|(refine⟨by omega,?_⟩)|intro _));refine hK _ ?_;clear K hK)|(with_reducible refine Zau ?_ ?_;(focus (simp (disch:=omega) only [go_sem,e0,e3];done)))|(with_reducible refine Zam ?_ ?_;(focus (simp (disch:=omega) only [go_sem,e0,e3];done))))
     simp (disch:=omega) only [go_sem]
    ·refine⟨by simp (disch:=omega) only [go_sem];rfl,by simp (disch:=omega) only [go_sem]⟩
theorem addF (x y:Int) (h:-9223372036854775808≤x+y∧x+y≤9223372036854775807):Pure Tryz.prog 146 [.v (.int .i64 x),.v (.int .i64 y)] (.v (.int .i64 (x+y))):=by
 refine Zaa (tok:=0) (rs:=[.tmp 4]) Tryz.func146 rfl Tryz.ntmps146 Tryz.results146 Tryz.call146 (by rfl) (by simp) ?_
 repeat' (first|with_reducible refine Za5 ?_|with_reducible refine Zaj ?_|with_reducible refine Zaq ?_|with_reducible refine Za6 ?_|with_reducible refine Zar ?_|with_reducible refine Zao ?_|with_reducible refine Zac ?_|with_reducible refine Zab ?_|with_reducible refine t_in ?_|with_reducible refine Zae ?_|with_reducible refine Zad ?_|with_reducible refine Zap ?_|with_reducible refine Zai ?_|(with_reducible refine Za1 ?_;intro K hK;simp (disch:=omega) only [go_sem];(repeat (first|(refine⟨by omega,?_⟩)|intro _));refine hK _ ?_;clear K hK)|(with_reducible refine Zau ?_ ?_;(focus (simp (disch:=omega) only [go_sem];done)))|(with_reducible refine Zam ?_ ?_;(focus (simp (disch:=omega) only [go_sem];done))))
 simp (disch:=omega) only [go_sem]
theorem subF (x y:Int) (h:-9223372036854775808≤x - y∧x - y≤9223372036854775807):Pure Tryz.prog 121 [.v (.int .i64 x),.v (.int .i64 y)] (.v (.int .i64 (x - y))):=by
 refine Zaa (tok:=0) (rs:=[.tmp 4]) Tryz.func121 rfl Tryz.ntmps121 Tryz.results121 Tryz.call121 (by rfl) (by simp) ?_
 repeat' (first|with_reducible refine Za5 ?_|with_reducible refine Zaj ?_|with_reducible refine Zaq ?_|with_reducible refine Za6 ?_|with_reducible refine Zar ?_|with_reducible refine Zao ?_|with_reducible refine Zac ?_|with_reducible refine Zab ?_|with_reducible refine t_in ?_|with_reducible refine Zae ?_|with_reducible refine Zad ?_|with_reducible refine Zap ?_|with_reducible refine Zai ?_|(with_reducible refine Za1 ?_;intro K hK;simp (disch:=omega) only [go_sem];(repeat (first|(refine⟨by omega,?_⟩)|intro _));refine hK _ ?_;clear K hK)|(with_reducible refine Zau ?_ ?_;(focus (simp (disch:=omega) only [go_sem];done)))|(with_reducible refine Zam ?_ ?_;(focus (simp (disch:=omega) only [go_sem];done))))
 simp (disch:=omega) only [go_sem]
theorem maxFn (x y:Int):Pure Tryz.prog 140 [.v (.int .i64 x),.v (.int .i64 y)] (.v (.int .i64 (max x y))):=by
 refine Zaa (tok:=0) (rs:=[.tmp 4]) Tryz.func140 rfl Tryz.ntmps140 Tryz.results140 Tryz.call140 (by rfl) (by simp) ?_
 repeat' (first|with_reducible refine Za5 ?_|with_reducible refine Zaj ?_|with_reducible refine Zaq ?_|with_reducible refine Za6 ?_|with_reducible refine Zar ?_|with_reducible refine Zao ?_|with_reducible refine Zac ?_|with_reducible refine Zab ?_|with_reducible refine t_in ?_|with_reducible refine Zae ?_|with_reducible refine Zad ?_|with_reducible refine Zap ?_|with_reducible refine Zai ?_|(with_reducible refine Za1 ?_;intro K hK;simp (disch:=omega) only [go_sem];(repeat (first|(refine⟨by omega,?_⟩)|intro _));refine hK _ ?_;clear K hK)|(with_reducible refine Zau ?_ ?_;(focus (simp (disch:=omega) only [go_sem];done)))|(with_reducible refine Zam ?_ ?_;(focus (simp (disch:=omega) only [go_sem];done))))
 simp (disch:=omega) only [go_sem]
def zipI (F:Int→Int→Int) (a b:List Int):List Int:=(List.range (max a.length b.length)).map λi=>F (gI a i) (gI b i)
def upto (n k:Nat) (F:Nat→Int):List AV:=(List.range n).map λi=>AV.v (.int .i64 (if i < k then F i else 0))
theorem upto_len (n k:Nat) (F:Nat→Int):(upto n k F).length=n:=by simp [upto]
theorem Zg5 (n:Nat) (F:Nat→Int):List.replicate n (AV.v (.int .i64 0))=upto n 0 F:=by
 refine List.ext_getElem (by simp [upto]) λj h1 h2=>?_;simp [upto]
theorem upto_set {n k:Nat} {F:Nat→Int} (h:k < n):(upto n k F).set k (.v (.int .i64 (F k)))=upto n (k+1) F:=by
 refine List.ext_getElem (by simp [upto]) λj h1 h2=>?_;simp only [upto,List.getElem_set,List.getElem_map,List.getElem_range];by_cases hj:k=j
 ·subst hj;simp
 ·rw [if_neg hj];by_cases h3:j < k
  ·rw [if_pos h3,if_pos (by omega)]
  ·rw [if_neg h3,if_neg (by omega)]
theorem Zrd (n:Nat) (F:Nat→Int):upto n n F=((List.range n).map F).map λx=>AV.v (.int .i64 x):=by
 refine List.ext_getElem (by simp [upto]) λj h1 h2=>?_;have hj:j < n:=by simpa [upto] using h1
 simp [upto,hj]
theorem Zhw (a b:List Int) (g:Nat) (F:Int→Int→Int) (ha:a.length≤1000) (hb:b.length≤1000)
 (hF:∀k,k < max a.length b.length→Pure Tryz.prog g [.v (.int .i64 (gI a k)),.v (.int .i64 (gI b k))] (.v (.int .i64 (F (gI a k) (gI b k))))):Pure Tryz.prog 120 [ints a,ints b,.fn g []] (ints (zipI F a b)):=by
 unfold ints;refine Zaa (tok:=0) (rs:=[.tmp 6]) Tryz.func120 rfl Tryz.ntmps120 Tryz.results120 Tryz.call120 (by rfl) (by simp) ?_;obtain⟨n,hn⟩:∃n,n=max a.length b.length:=⟨_,rfl⟩;have hmx:max (a.length:Int) (b.length:Int)=(n:Int):=by omega
 repeat' (first|with_reducible refine Za5 ?_|with_reducible refine Zaj ?_|with_reducible refine Zaq ?_|with_reducible refine Za6 ?_|with_reducible refine Zar ?_|with_reducible refine Zao ?_|with_reducible refine Zac ?_|with_reducible refine Zab ?_|with_reducible refine t_in ?_|with_reducible refine Zae ?_|with_reducible refine Zad ?_|with_reducible refine Zap ?_|with_reducible refine Zai ?_|(with_reducible refine Za1 ?_;intro K hK;simp (disch:=omega) only [go_sem,hmx,Zg5];(repeat (first|(refine⟨by omega,?_⟩)|intro _));refine hK _ ?_;clear K hK)|(with_reducible refine Zau ?_ ?_;(focus (simp (disch:=omega) only [go_sem,hmx,Zg5];done)))|(with_reducible refine Zam ?_ ?_;(focus (simp (disch:=omega) only [go_sem,hmx,Zg5];done))))
 rename_i sv;refine Zfj (ι:=Nat) (λk st=>k≤n∧st.env 0=.sl 1 (a.map λn=>AV.v (.int .i64 n))∧st.env 1=.sl 1 (b.map λn=>AV.v (.int .i64 n))∧st.env 2=.fn g []∧st.env 7=.own 16 sv∧st.env 18=.v (.int .i64 n)∧st.env 19=.v (.int .i64 k)∧st.mem 16=some (.row sv 3 1 (upto n k λi=>F (gI a i) (gI b i)) 0)) (λk=>n - k) 0 (by rfl) ?_ ?_
 ·rintro k st ⟨hk,e0,e1,e2,e7,e18,e19,em⟩
  have hu:=upto_len n k λi=>F (gI a i) (gI b i);by_cases hlt:k < n
  ·have hFk:=hF k (by omega);have hst:=@upto_set n k (λi=>F (gI a i) (gI b i)) hlt;have key:∀(x y:Int) (Q:AE→St→Prop),gI a k=x→gI b k=y→True:=λ_ _ _ _ _=>trivial;by_cases h1:k < a.length<;>by_cases h2:k < b.length
   ·repeat' (first|with_reducible refine Za5 ?_|with_reducible refine Zaj ?_|with_reducible refine Zaq ?_|with_reducible refine Za6 ?_|with_reducible refine Zar ?_|with_reducible refine Zao ?_|with_reducible refine Zac ?_|with_reducible refine Zab ?_|with_reducible refine t_in ?_|with_reducible refine Zae ?_|with_reducible refine Zad ?_|with_reducible refine Zap ?_|with_reducible refine Zai ?_|(with_reducible refine Za1 ?_;intro K hK;simp (disch:=omega) only [go_sem,e0,e1,e2,e7,e18,e19,em,hmx];(repeat (first|(refine⟨by omega,?_⟩)|intro _));refine hK _ ?_;clear K hK)|(with_reducible refine Zau ?_ ?_;(focus (simp (disch:=omega) only [go_sem,e0,e1,e2,e7,e18,e19,em,hmx];done)))|(with_reducible refine Zam ?_ ?_;(focus (simp (disch:=omega) only [go_sem,e0,e1,e2,e7,e18,e19,em,hmx];done))))
    refine Za1 ?_;intro K hK;simp (disch:=omega) only [go_sem,e0,e1,e2,e7,e18,e19,em,hu,hst];(repeat (first|(refine⟨by omega,?_⟩)|intro _));refine Zbd (hFk) ?_ ?_ ?_;(focus (try simp (disch:=omega) only [go_sem,e0,e1,e2,e7,e18,e19,em,hu,hst]));(focus (first|rfl|(simp (disch:=omega) only [go_sem,e0,e1,e2,e7,e18,e19,em,hu,hst];done)));simp (disch:=omega) only [go_sem,e0,e1,e2,e7,e18,e19,em,hu,hst];(repeat (first|(refine⟨by omega,?_⟩)|intro _));refine hK _ ?_;clear K hK
    repeat' (first|with_reducible refine Za5 ?_|with_reducible refine Zaj ?_|with_reducible refine Zaq ?_|with_reducible refine Za6 ?_|with_reducible refine Zar ?_|with_reducible refine Zao ?_|with_reducible refine Zac ?_|with_reducible refine Zab ?_|with_reducible refine t_in ?_|with_reducible refine Zae ?_|with_reducible refine Zad ?_|with_reducible refine Zap ?_|with_reducible refine Zai ?_|(with_reducible refine Za1 ?_;intro K hK;simp (disch:=omega) only [go_sem,e0,e1,e2,e7,e18,e19,em,hmx];(repeat (first|(refine⟨by omega,?_⟩)|intro _));refine hK _ ?_;clear K hK)|(with_reducible refine Zau ?_ ?_;(focus (simp (disch:=omega) only [go_sem,e0,e1,e2,e7,e18,e19,em,hmx];done)))|(with_reducible refine Zam ?_ ?_;(focus (simp (disch:=omega) only [go_sem,e0,e1,e2,e7,e18,e19,em,hmx];done))))
    refine⟨k+1,⟨by omega,by simp (disch:=omega) only [go_sem,e0],by simp (disch:=omega) only [go_sem,e1],by simp (disch:=omega) only [go_sem,e2],by simp (disch:=omega) only [go_sem,e7],by simp (disch:=omega) only [go_sem,e18],by simp (disch:=omega) only [go_sem,e19];rfl,by simp (disch:=omega) only [go_sem]⟩,by omega⟩
   ·have g2:=Zbg (l:=b) (k:=k) (by omega);rw [g2] at hFk;rw [g2] at hst
    repeat' (first|with_reducible refine Za5 ?_|with_reducible refine Zaj ?_|with_reducible refine Zaq ?_|with_reducible refine Za6 ?_|with_reducible refine Zar ?_|with_reducible refine Zao ?_|with_reducible refine Zac ?_|with_reducible refine Zab ?_|with_reducible refine t_in ?_|with_reducible refine Zae ?_|with_reducible refine Zad ?_|with_reducible refine Zap ?_|with_reducible refine Zai ?_|(with_reducible refine Za1 ?_;intro K hK;simp (disch:=omega) only [go_sem,e0,e1,e2,e7,e18,e19,em,hmx];(repeat (first|(refine⟨by omega,?_⟩)|intro _));refine hK _ ?_;clear K hK)|(with_reducible refine Zau ?_ ?_;(focus (simp (disch:=omega) only [go_sem,e0,e1,e2,e7,e18,e19,em,hmx];done)))|(with_reducible refine Zam ?_ ?_;(focus (simp (disch:=omega) only [go_sem,e0,e1,e2,e7,e18,e19,em,hmx];done))))
    refine Za1 ?_;intro K hK;simp (disch:=omega) only [go_sem,e0,e1,e2,e7,e18,e19,em,hu,hst];(repeat (first|(refine⟨by omega,?_⟩)|intro _));refine Zbd (hFk) ?_ ?_ ?_;(focus (try simp (disch:=omega) only [go_sem,e0,e1,e2,e7,e18,e19,em,hu,hst]));(focus (first|rfl|(simp (disch:=omega) only [go_sem,e0,e1,e2,e7,e18,e19,em,hu,hst];done)));simp (disch:=omega) only [go_sem,e0,e1,e2,e7,e18,e19,em,hu,hst];(repeat (first|(refine⟨by omega,?_⟩)|intro _));refine hK _ ?_;clear K hK
    repeat' (first|with_reducible refine Za5 ?_|with_reducible refine Zaj ?_|with_reducible refine Zaq ?_|with_reducible refine Za6 ?_|with_reducible refine Zar ?_|with_reducible refine Zao ?_|with_reducible refine Zac ?_|with_reducible refine Zab ?_|with_reducible refine t_in ?_|with_reducible refine Zae ?_|with_reducible refine Zad ?_|with_reducible refine Zap ?_|with_reducible refine Zai ?_|(with_reducible refine Za1 ?_;intro K hK;simp (disch:=omega) only [go_sem,e0,e1,e2,e7,e18,e19,em,hmx];(repeat (first|(refine⟨by omega,?_⟩)|intro _));refine hK _ ?_;clear K hK)|(with_reducible refine Zau ?_ ?_;(focus (simp (disch:=omega) only [go_sem,e0,e1,e2,e7,e18,e19,em,hmx];done)))|(with_reducible refine Zam ?_ ?_;(focus (simp (disch:=omega) only [go_sem,e0,e1,e2,e7,e18,e19,em,hmx];done))))
    refine⟨k+1,⟨by omega,by simp (disch:=omega) only [go_sem,e0],by simp (disch:=omega) only [go_sem,e1],by simp (disch:=omega) only [go_sem,e2],by simp (disch:=omega) only [go_sem,e7],by simp (disch:=omega) only [go_sem,e18],by simp (disch:=omega) only [go_sem,e19];rfl,by simp (disch:=omega) only [go_sem]⟩,by omega⟩
   ·have g2:=Zbg (l:=a) (k:=k) (by omega);rw [g2] at hFk;rw [g2] at hst
    repeat' (first|with_reducible refine Za5 ?_|with_reducible refine Zaj ?_|with_reducible refine Zaq ?_|with_reducible refine Za6 ?_|with_reducible refine Zar ?_|with_reducible refine Zao ?_|with_reducible refine Zac ?_|with_reducible refine Zab ?_|with_reducible refine t_in ?_|with_reducible refine Zae ?_|with_reducible refine Zad ?_|with_reducible refine Zap ?_|with_reducible refine Zai ?_|(with_reducible refine Za1 ?_;intro K hK;simp (disch:=omega) only [go_sem,e0,e1,e2,e7,e18,e19,em,hmx];(repeat (first|(refine⟨by omega,?_⟩)|intro _));refine hK _ ?_;clear K hK)|(with_reducible refine Zau ?_ ?_;(focus (simp (disch:=omega) only [go_sem,e0,e1,e2,e7,e18,e19,em,hmx];done)))|(with_reducible refine Zam ?_ ?_;(focus (simp (disch:=omega) only [go_sem,e0,e1,e2,e7,e18,e19,em,hmx];done))))
    refine Za1 ?_;intro K hK;simp (disch:=omega) only [go_sem,e0,e1,e2,e7,e18,e19,em,hu,hst];(repeat (first|(refine⟨by omega,?_⟩)|intro _));refine Zbd (hFk) ?_ ?_ ?_;(focus (try simp (disch:=omega) only [go_sem,e0,e1,e2,e7,e18,e19,em,hu,hst]));(focus (first|rfl|(simp (disch:=omega) only [go_sem,e0,e1,e2,e7,e18,e19,em,hu,hst];done)));simp (disch:=omega) only [go_sem,e0,e1,e2,e7,e18,e19,em,hu,hst];(repeat (first|(refine⟨by omega,?_⟩)|intro _));refine hK _ ?_;clear K hK
    repeat' (first|with_reducible refine Za5 ?_|with_reducible refine Zaj ?_|with_reducible refine Zaq ?_|with_reducible refine Za6 ?_|with_reducible refine Zar ?_|with_reducible refine Zao ?_|with_reducible refine Zac ?_|with_reducible refine Zab ?_|with_reducible refine t_in ?_|with_reducible refine Zae ?_|with_reducible refine Zad ?_|with_reducible refine Zap ?_|with_reducible refine Zai ?_|(with_reducible refine Za1 ?_;intro K hK;simp (disch:=omega) only [go_sem,e0,e1,e2,e7,e18,e19,em,hmx];(repeat (first|(refine⟨by omega,?_⟩)|intro _));refine hK _ ?_;clear K hK)|(with_reducible refine Zau ?_ ?_;(focus (simp (disch:=omega) only [go_sem,e0,e1,e2,e7,e18,e19,em,hmx];done)))|(with_reducible refine Zam ?_ ?_;(focus (simp (disch:=omega) only [go_sem,e0,e1,e2,e7,e18,e19,em,hmx];done))))
    refine⟨k+1,⟨by omega,by simp (disch:=omega) only [go_sem,e0],by simp (disch:=omega) only [go_sem,e1],by simp (disch:=omega) only [go_sem,e2],by simp (disch:=omega) only [go_sem,e7],by simp (disch:=omega) only [go_sem,e18],by simp (disch:=omega) only [go_sem,e19];rfl,by simp (disch:=omega) only [go_sem]⟩,by omega⟩
   ·exfalso;omega
  ·have hk':k=n:=by omega
   subst hk'
   repeat' (first|with_reducible refine Za5 ?_|with_reducible refine Zaj ?_|with_reducible refine Zaq ?_|with_reducible refine Za6 ?_|with_reducible refine Zar ?_|with_reducible refine Zao ?_|with_reducible refine Zac ?_|with_reducible refine Zab ?_|with_reducible refine t_in ?_|with_reducible refine Zae ?_|with_reducible refine Zad ?_|with_reducible refine Zap ?_|with_reducible refine Zai ?_|(with_reducible refine Za1 ?_;intro K hK;simp (disch:=omega) only [go_sem,e0,e1,e2,e7,e18,e19,em,hmx];(repeat (first|(refine⟨by omega,?_⟩)|intro _));refine hK _ ?_;clear K hK)|(with_reducible refine Zau ?_ ?_;(focus (simp (disch:=omega) only [go_sem,e0,e1,e2,e7,e18,e19,em,hmx];done)))|(with_reducible refine Zam ?_ ?_;(focus (simp (disch:=omega) only [go_sem,e0,e1,e2,e7,e18,e19,em,hmx];done))))
   unfold zipI;rw [←hn,←Zrd];simp (disch:=omega) only [go_sem,em]
 ·exact⟨Nat.zero_le _,by simp (disch:=omega) only [go_sem],by simp (disch:=omega) only [go_sem],by simp (disch:=omega) only [go_sem],by simp (disch:=omega) only [go_sem],by simp (disch:=omega) only [go_sem],by simp (disch:=omega) only [go_sem];rfl,by simp (disch:=omega) only [go_sem,←Zg5]⟩
theorem Zkw (F:Int→Int→Int) (a b:List Int):(zipI F a b).length=max a.length b.length:=by simp [zipI]
def Wd (l:List Int):Prop:=l.length≤1000∧∀j,-4503599627370496≤gI l j∧gI l j≤4503599627370496
theorem Sm.wd {l:List Int} (h:Sm l):Wd l:=⟨h.1,λj=>by have:=h.2 j;omega⟩
theorem monMul (a b:List Int) (ha:Wd a) (hb:Wd b):Pure Tryz.prog 91 [ints a,ints b] (ints (Zct (zipI (·+·) a b))):=by
 have h1:=Zhw a b 146 (·+·) ha.1 hb.1 λk _=>addF _ _ (by have:=ha.2 k;have:=hb.2 k;omega);have h2:=Zlj (zipI (·+·) a b) (by rw [Zkw];have:=ha.1;have:=hb.1;omega);unfold ints at *;refine Zaa (tok:=0) (rs:=[.tmp 4]) Tryz.func91 rfl Tryz.ntmps91 Tryz.results91 Tryz.call91 (by rfl) (by simp) ?_
 repeat' (first|with_reducible refine Za5 ?_|with_reducible refine Zaj ?_|with_reducible refine Zaq ?_|with_reducible refine Za6 ?_|with_reducible refine Zar ?_|with_reducible refine Zao ?_|with_reducible refine Zac ?_|with_reducible refine Zab ?_|with_reducible refine t_in ?_|with_reducible refine Zae ?_|with_reducible refine Zad ?_|with_reducible refine Zap ?_|with_reducible refine Zai ?_|(with_reducible refine Za1 ?_;intro K hK;simp (disch:=omega) only [go_sem];(repeat (first|(refine⟨by omega,?_⟩)|intro _));refine hK _ ?_;clear K hK)|(with_reducible refine Zau ?_ ?_;(focus (simp (disch:=omega) only [go_sem];done)))|(with_reducible refine Zam ?_ ?_;(focus (simp (disch:=omega) only [go_sem];done))))
 refine Za1 ?_;intro K hK;simp (disch:=omega) only [go_sem];(repeat (first|(refine⟨by omega,?_⟩)|intro _));refine Zbd (h1) ?_ ?_ ?_;(focus (try simp (disch:=omega) only [go_sem]));(focus (first|rfl|(simp (disch:=omega) only [go_sem];done)));simp (disch:=omega) only [go_sem];(repeat (first|(refine⟨by omega,?_⟩)|intro _));refine Zbd (h2) ?_ ?_ ?_;(focus (try simp (disch:=omega) only [go_sem]));(focus (first|rfl|(simp (disch:=omega) only [go_sem];done)));simp (disch:=omega) only [go_sem];(repeat (first|(refine⟨by omega,?_⟩)|intro _));refine hK _ ?_;clear K hK
 repeat' (first|with_reducible refine Za5 ?_|with_reducible refine Zaj ?_|with_reducible refine Zaq ?_|with_reducible refine Za6 ?_|with_reducible refine Zar ?_|with_reducible refine Zao ?_|with_reducible refine Zac ?_|with_reducible refine Zab ?_|with_reducible refine t_in ?_|with_reducible refine Zae ?_|with_reducible refine Zad ?_|with_reducible refine Zap ?_|with_reducible refine Zai ?_|(with_reducible refine Za1 ?_;intro K hK;simp (disch:=omega) only [go_sem];(repeat (first|(refine⟨by omega,?_⟩)|intro _));refine hK _ ?_;clear K hK)|(with_reducible refine Zau ?_ ?_;(focus (simp (disch:=omega) only [go_sem];done)))|(with_reducible refine Zam ?_ ?_;(focus (simp (disch:=omega) only [go_sem];done))))
 simp (disch:=omega) only [go_sem]
theorem monLcm (a b:List Int) (ha:a.length≤1000) (hb:b.length≤1000):Pure Tryz.prog 83 [ints a,ints b] (ints (Zct (zipI max a b))):=by
 have h1:=Zhw a b 140 max ha hb λk _=>maxFn _ _;have h2:=Zlj (zipI max a b) (by rw [Zkw];omega);unfold ints at *;refine Zaa (tok:=0) (rs:=[.tmp 4]) Tryz.func83 rfl Tryz.ntmps83 Tryz.results83 Tryz.call83 (by rfl) (by simp) ?_
 repeat' (first|with_reducible refine Za5 ?_|with_reducible refine Zaj ?_|with_reducible refine Zaq ?_|with_reducible refine Za6 ?_|with_reducible refine Zar ?_|with_reducible refine Zao ?_|with_reducible refine Zac ?_|with_reducible refine Zab ?_|with_reducible refine t_in ?_|with_reducible refine Zae ?_|with_reducible refine Zad ?_|with_reducible refine Zap ?_|with_reducible refine Zai ?_|(with_reducible refine Za1 ?_;intro K hK;simp (disch:=omega) only [go_sem];(repeat (first|(refine⟨by omega,?_⟩)|intro _));refine hK _ ?_;clear K hK)|(with_reducible refine Zau ?_ ?_;(focus (simp (disch:=omega) only [go_sem];done)))|(with_reducible refine Zam ?_ ?_;(focus (simp (disch:=omega) only [go_sem];done))))
 refine Za1 ?_;intro K hK;simp (disch:=omega) only [go_sem];(repeat (first|(refine⟨by omega,?_⟩)|intro _));refine Zbd (h1) ?_ ?_ ?_;(focus (try simp (disch:=omega) only [go_sem]));(focus (first|rfl|(simp (disch:=omega) only [go_sem];done)));simp (disch:=omega) only [go_sem];(repeat (first|(refine⟨by omega,?_⟩)|intro _));refine Zbd (h2) ?_ ?_ ?_;(focus (try simp (disch:=omega) only [go_sem]));(focus (first|rfl|(simp (disch:=omega) only [go_sem];done)));simp (disch:=omega) only [go_sem];(repeat (first|(refine⟨by omega,?_⟩)|intro _));refine hK _ ?_;clear K hK
 repeat' (first|with_reducible refine Za5 ?_|with_reducible refine Zaj ?_|with_reducible refine Zaq ?_|with_reducible refine Za6 ?_|with_reducible refine Zar ?_|with_reducible refine Zao ?_|with_reducible refine Zac ?_|with_reducible refine Zab ?_|with_reducible refine t_in ?_|with_reducible refine Zae ?_|with_reducible refine Zad ?_|with_reducible refine Zap ?_|with_reducible refine Zai ?_|(with_reducible refine Za1 ?_;intro K hK;simp (disch:=omega) only [go_sem];(repeat (first|(refine⟨by omega,?_⟩)|intro _));refine hK _ ?_;clear K hK)|(with_reducible refine Zau ?_ ?_;(focus (simp (disch:=omega) only [go_sem];done)))|(with_reducible refine Zam ?_ ?_;(focus (simp (disch:=omega) only [go_sem];done))))
 simp (disch:=omega) only [go_sem]
def divI (a b:List Int):Bool:=(List.range a.length).all λi=>decide (gI a i≤gI b i)
theorem divI_t {a b:List Int} (h:∀j,j < a.length→gI a j≤gI b j):divI a b=true:=by
 unfold divI;rw [List.all_eq_true];intro j hj;exact decide_eq_true (h j (List.mem_range.1 hj))
theorem divI_f {a b:List Int} {j:Nat} (hj:j < a.length) (h:gI b j < gI a j):divI a b=false:=by
 unfold divI;rw [List.all_eq_false];exact⟨j,List.mem_range.2 hj,by simp;omega⟩
theorem Zlk (b:List Int) (k:Nat):Pure Tryz.prog 93 [.sl 1 (b.map λn=>AV.v (.int .i64 n)),.v (.int .i64 k)] (.v (.int .i64 (gI b k))):=by
 have:=monExp b k
 rwa [exp_of] at this
theorem Zfb (b:List Int) (k:Nat):Pure Tryz.prog 52 [.sl 1 (b.map λn=>AV.v (.int .i64 n)),.v (.int .i64 k)] (.v (.int .i64 (gI b k))):=by
 have:=refExp b k
 rwa [exp_of] at this
theorem Zki (a b:List Int) (ha:a.length≤1000):Pure Tryz.prog 105 [ints a,ints b] (.v (.bool (divI a b))):=by
 unfold ints;refine Zaa (tok:=0) (rs:=[.tmp 4]) Tryz.func105 rfl Tryz.ntmps105 Tryz.results105 Tryz.call105 (by rfl) (by simp) ?_
 repeat' (first|with_reducible refine Za5 ?_|with_reducible refine Zaj ?_|with_reducible refine Zaq ?_|with_reducible refine Za6 ?_|with_reducible refine Zar ?_|with_reducible refine Zao ?_|with_reducible refine Zac ?_|with_reducible refine Zab ?_|with_reducible refine t_in ?_|with_reducible refine Zae ?_|with_reducible refine Zad ?_|with_reducible refine Zap ?_|with_reducible refine Zai ?_|(with_reducible refine Za1 ?_;intro K hK;simp (disch:=omega) only [go_sem];(repeat (first|(refine⟨by omega,?_⟩)|intro _));refine hK _ ?_;clear K hK)|(with_reducible refine Zau ?_ ?_;(focus (simp (disch:=omega) only [go_sem];done)))|(with_reducible refine Zam ?_ ?_;(focus (simp (disch:=omega) only [go_sem];done))))
 refine Zfj (ι:=Nat) (λk st=>k≤a.length∧st.env 7=.sl 1 (a.map λn=>AV.v (.int .i64 n))∧st.env 1=.sl 1 (b.map λn=>AV.v (.int .i64 n))∧st.env 8=.v (.int .i64 a.length)∧st.env 9=.v (.int .i64 k)∧∀j,j < k→gI a j≤gI b j) (λk=>a.length - k) 0 (by rfl) ?_ ?_
 ·rintro k st ⟨hk,e7,e1,e8,e9,hd⟩
  by_cases hlt:k < a.length
  ·have hx:=Zlk b k;by_cases hc:gI b k < gI a k
   ·repeat' (first|with_reducible refine Za5 ?_|with_reducible refine Zaj ?_|with_reducible refine Zaq ?_|with_reducible refine Za6 ?_|with_reducible refine Zar ?_|with_reducible refine Zao ?_|with_reducible refine Zac ?_|with_reducible refine Zab ?_|with_reducible refine t_in ?_|with_reducible refine Zae ?_|with_reducible refine Zad ?_|with_reducible refine Zap ?_|with_reducible refine Zai ?_|(with_reducible refine Za1 ?_;intro K hK;simp (disch:=omega) only [go_sem,e7,e1,e8,e9];(repeat (first|(refine⟨by omega,?_⟩)|intro _));refine hK _ ?_;clear K hK)|(with_reducible refine Zau ?_ ?_;(focus (simp (disch:=omega) only [go_sem,e7,e1,e8,e9];done)))|(with_reducible refine Zam ?_ ?_;(focus (simp (disch:=omega) only [go_sem,e7,e1,e8,e9];done))))
    refine Za1 ?_;intro K hK;simp (disch:=omega) only [go_sem,e7,e1,e8,e9];(repeat (first|(refine⟨by omega,?_⟩)|intro _));refine Zbd (hx) ?_ ?_ ?_;(focus (try simp (disch:=omega) only [go_sem,e7,e1,e8,e9]));(focus (first|rfl|(simp (disch:=omega) only [go_sem,e7,e1,e8,e9];done)));simp (disch:=omega) only [go_sem,e7,e1,e8,e9];(repeat (first|(refine⟨by omega,?_⟩)|intro _));refine hK _ ?_;clear K hK
    repeat' (first|with_reducible refine Za5 ?_|with_reducible refine Zaj ?_|with_reducible refine Zaq ?_|with_reducible refine Za6 ?_|with_reducible refine Zar ?_|with_reducible refine Zao ?_|with_reducible refine Zac ?_|with_reducible refine Zab ?_|with_reducible refine t_in ?_|with_reducible refine Zae ?_|with_reducible refine Zad ?_|with_reducible refine Zap ?_|with_reducible refine Zai ?_|(with_reducible refine Za1 ?_;intro K hK;simp (disch:=omega) only [go_sem];(repeat (first|(refine⟨by omega,?_⟩)|intro _));refine hK _ ?_;clear K hK)|(with_reducible refine Zau ?_ ?_;(focus (simp (disch:=omega) only [go_sem];done)))|(with_reducible refine Zam ?_ ?_;(focus (simp (disch:=omega) only [go_sem];done))))
    rw [divI_f hlt hc];simp (disch:=omega) only [go_sem]
   ·repeat' (first|with_reducible refine Za5 ?_|with_reducible refine Zaj ?_|with_reducible refine Zaq ?_|with_reducible refine Za6 ?_|with_reducible refine Zar ?_|with_reducible refine Zao ?_|with_reducible refine Zac ?_|with_reducible refine Zab ?_|with_reducible refine t_in ?_|with_reducible refine Zae ?_|with_reducible refine Zad ?_|with_reducible refine Zap ?_|with_reducible refine Zai ?_|(with_reducible refine Za1 ?_;intro K hK;simp (disch:=omega) only [go_sem,e7,e1,e8,e9];(repeat (first|(refine⟨by omega,?_⟩)|intro _));refine hK _ ?_;clear K hK)|(with_reducible refine Zau ?_ ?_;(focus (simp (disch:=omega) only [go_sem,e7,e1,e8,e9];done)))|(with_reducible refine Zam ?_ ?_;(focus (simp (disch:=omega) only [go_sem,e7,e1,e8,e9];done))))
    refine Za1 ?_;intro K hK;simp (disch:=omega) only [go_sem,e7,e1,e8,e9];(repeat (first|(refine⟨by omega,?_⟩)|intro _));refine Zbd (hx) ?_ ?_ ?_;(focus (try simp (disch:=omega) only [go_sem,e7,e1,e8,e9]));(focus (first|rfl|(simp (disch:=omega) only [go_sem,e7,e1,e8,e9];done)));simp (disch:=omega) only [go_sem,e7,e1,e8,e9];(repeat (first|(refine⟨by omega,?_⟩)|intro _));refine hK _ ?_;clear K hK
    repeat' (first|with_reducible refine Za5 ?_|with_reducible refine Zaj ?_|with_reducible refine Zaq ?_|with_reducible refine Za6 ?_|with_reducible refine Zar ?_|with_reducible refine Zao ?_|with_reducible refine Zac ?_|with_reducible refine Zab ?_|with_reducible refine t_in ?_|with_reducible refine Zae ?_|with_reducible refine Zad ?_|with_reducible refine Zap ?_|with_reducible refine Zai ?_|(with_reducible refine Za1 ?_;intro K hK;simp (disch:=omega) only [go_sem,e9];(repeat (first|(refine⟨by omega,?_⟩)|intro _));refine hK _ ?_;clear K hK)|(with_reducible refine Zau ?_ ?_;(focus (simp (disch:=omega) only [go_sem,e9];done)))|(with_reducible refine Zam ?_ ?_;(focus (simp (disch:=omega) only [go_sem,e9];done))))
    refine⟨k+1,⟨by omega,by simp (disch:=omega) only [go_sem,e7],by simp (disch:=omega) only [go_sem,e1],by simp (disch:=omega) only [go_sem,e8],by simp (disch:=omega) only [go_sem,e9];rfl,λj hj=>?_⟩,by omega⟩;rcases Nat.lt_or_ge j k with h1 | h1
    ·exact hd j h1
    ·rw [show j=k by omega];omega
  ·repeat' (first|with_reducible refine Za5 ?_|with_reducible refine Zaj ?_|with_reducible refine Zaq ?_|with_reducible refine Za6 ?_|with_reducible refine Zar ?_|with_reducible refine Zao ?_|with_reducible refine Zac ?_|with_reducible refine Zab ?_|with_reducible refine t_in ?_|with_reducible refine Zae ?_|with_reducible refine Zad ?_|with_reducible refine Zap ?_|with_reducible refine Zai ?_|(with_reducible refine Za1 ?_;intro K hK;simp (disch:=omega) only [go_sem,e7,e1,e8,e9];(repeat (first|(refine⟨by omega,?_⟩)|intro _));refine hK _ ?_;clear K hK)|(with_reducible refine Zau ?_ ?_;(focus (simp (disch:=omega) only [go_sem,e7,e1,e8,e9];done)))|(with_reducible refine Zam ?_ ?_;(focus (simp (disch:=omega) only [go_sem,e7,e1,e8,e9];done))))
   rw [divI_t λj hj=>hd j (by omega)];simp (disch:=omega) only [go_sem]
 ·exact⟨Nat.zero_le _,by simp (disch:=omega) only [go_sem],by simp (disch:=omega) only [go_sem],by simp (disch:=omega) only [go_sem],by simp (disch:=omega) only [go_sem];rfl,by simp⟩
theorem Zqn (a b:List Int) (ha:a.length≤1000):Pure Tryz.prog 19 [ints a,ints b] (.v (.bool (divI a b))):=by
 unfold ints;refine Zaa (tok:=0) Tryz.func19 rfl Tryz.ntmps19 Tryz.results19 Tryz.call19 (by rfl) (by simp) ?_;(focus (refine wkad w_t w_t w_t ?_;(repeat' first|exact w_t|apply w_l);all_goals intros));refine Zal (ι:=Nat) (λk e m=>k≤a.length∧e 0=.sl 1 (a.map λn=>AV.v (.int .i64 n))∧e 1=.sl 1 (b.map λn=>AV.v (.int .i64 n))∧e 5=.v (.int .i64 k)∧∀j,j < k→gI a j≤gI b j) (λk=>a.length - k) 0 (by rfl) ?_ ?_
 ·rintro k e m ⟨hk,e0,e1,e5,hd⟩
  by_cases hlt:k < a.length
  ·have hx:=Zfb b k;by_cases hc:gI b k < gI a k
   ·rw [divI_f hlt hc];(focus (refine wkld (w_3 e0 e1 e5) (w_1 hx) w_t (w_1 (w_d 4 [(6,.v (.int .i64 (gI b k)))] [] [])) ?_;(repeat' first|exact w_t|apply w_l);all_goals intros))
   ·(focus (refine wkad (w_3 e0 e1 e5) (w_1 hx) (w_1 (w_d 4 [(6,.v (.int .i64 (gI b k)))] [] [])) ?_;(repeat' first|exact w_t|apply w_l);all_goals intros));refine⟨k+1,⟨by omega,by exact gW e0,by exact gW e1,by exact gS,λj hj=>?_⟩,by omega⟩;rcases Nat.lt_or_ge j k with h1 | h1
    ·exact hd j h1
    ·rw [show j=k by omega];omega
  ·rw [divI_t λj hj=>hd j (by omega)];(focus (refine wkld (w_3 e0 e1 e5) w_t w_t w_t ?_;(repeat' first|exact w_t|apply w_l);all_goals intros))
 ·exact⟨Nat.zero_le _,by exact gC,by exact gC,by exact gC,by simp⟩
def copI (a b:List Int):Bool:=(List.range a.length).all λi=>decide (gI a i=0∨gI b i=0)
theorem copI_t {a b:List Int} (h:∀j,j < a.length→gI a j=0∨gI b j=0):copI a b=true:=by
 unfold copI;rw [List.all_eq_true];intro j hj;exact decide_eq_true (h j (List.mem_range.1 hj))
theorem copI_f {a b:List Int} {j:Nat} (hj:j < a.length) (h:gI a j≠0) (h2:gI b j≠0):copI a b=false:=by
 unfold copI;rw [List.all_eq_false];exact⟨j,List.mem_range.2 hj,by simp [h,h2]⟩
theorem Zkj (a b:List Int) (ha:a.length≤1000):Pure Tryz.prog 154 [ints a,ints b] (.v (.bool (copI a b))):=by
 unfold ints;refine Zaa (tok:=0) (rs:=[.tmp 4]) Tryz.func154 rfl Tryz.ntmps154 Tryz.results154 Tryz.call154 (by rfl) (by simp) ?_
 repeat' (first|with_reducible refine Za5 ?_|with_reducible refine Zaj ?_|with_reducible refine Zaq ?_|with_reducible refine Za6 ?_|with_reducible refine Zar ?_|with_reducible refine Zao ?_|with_reducible refine Zac ?_|with_reducible refine Zab ?_|with_reducible refine t_in ?_|with_reducible refine Zae ?_|with_reducible refine Zad ?_|with_reducible refine Zap ?_|with_reducible refine Zai ?_|(with_reducible refine Za1 ?_;intro K hK;simp (disch:=omega) only [go_sem];(repeat (first|(refine⟨by omega,?_⟩)|intro _));refine hK _ ?_;clear K hK)|(with_reducible refine Zau ?_ ?_;(focus (simp (disch:=omega) only [go_sem];done)))|(with_reducible refine Zam ?_ ?_;(focus (simp (disch:=omega) only [go_sem];done))))
 refine Zfj (ι:=Nat) (λk st=>k≤a.length∧st.env 7=.sl 1 (a.map λn=>AV.v (.int .i64 n))∧st.env 1=.sl 1 (b.map λn=>AV.v (.int .i64 n))∧st.env 8=.v (.int .i64 a.length)∧st.env 9=.v (.int .i64 k)∧∀j,j < k→gI a j=0∨gI b j=0) (λk=>a.length - k) 0 (by rfl) ?_ ?_
 ·rintro k st ⟨hk,e7,e1,e8,e9,hd⟩
  by_cases hlt:k < a.length
  ·have hx:=Zlk b k;have next:gI a k=0∨gI b k=0→∀j,j < k+1→gI a j=0∨gI b j=0:=λh j hj=>by
    rcases Nat.lt_or_ge j k with h1 | h1
    ·exact hd j h1
    ·rw [show j=k by omega];exact h
   by_cases hc:gI a k=0
   ·repeat' (first|with_reducible refine Za5 ?_|with_reducible refine Zaj ?_|with_reducible refine Zaq ?_|with_reducible refine Za6 ?_|with_reducible refine Zar ?_|with_reducible refine Zao ?_|with_reducible refine Zac ?_|with_reducible refine Zab ?_|with_reducible refine t_in ?_|with_reducible refine Zae ?_|with_reducible refine Zad ?_|with_reducible refine Zap ?_|with_reducible refine Zai ?_|(with_reducible refine Za1 ?_;intro K hK;simp (disch:=omega) only [go_sem,e7,e1,e8,e9];(repeat (first|(refine⟨by omega,?_⟩)|intro _));refine hK _ ?_;clear K hK)|(with_reducible refine Zau ?_ ?_;(focus (simp (disch:=omega) only [go_sem,e7,e1,e8,e9];done)))|(with_reducible refine Zam ?_ ?_;(focus (simp (disch:=omega) only [go_sem,e7,e1,e8,e9];done))))
    refine⟨k+1,⟨by omega,by simp (disch:=omega) only [go_sem,e7],by simp (disch:=omega) only [go_sem,e1],by simp (disch:=omega) only [go_sem,e8],by simp (disch:=omega) only [go_sem,e9];rfl,next (.inl hc)⟩,by omega⟩
   ·by_cases hc2:gI b k=0
    ·repeat' (first|with_reducible refine Za5 ?_|with_reducible refine Zaj ?_|with_reducible refine Zaq ?_|with_reducible refine Za6 ?_|with_reducible refine Zar ?_|with_reducible refine Zao ?_|with_reducible refine Zac ?_|with_reducible refine Zab ?_|with_reducible refine t_in ?_|with_reducible refine Zae ?_|with_reducible refine Zad ?_|with_reducible refine Zap ?_|with_reducible refine Zai ?_|(with_reducible refine Za1 ?_;intro K hK;simp (disch:=omega) only [go_sem,e7,e1,e8,e9];(repeat (first|(refine⟨by omega,?_⟩)|intro _));refine hK _ ?_;clear K hK)|(with_reducible refine Zau ?_ ?_;(focus (simp (disch:=omega) only [go_sem,e7,e1,e8,e9];done)))|(with_reducible refine Zam ?_ ?_;(focus (simp (disch:=omega) only [go_sem,e7,e1,e8,e9];done))))
     refine Za1 ?_;intro K hK;simp (disch:=omega) only [go_sem,e7,e1,e8,e9];(repeat (first|(refine⟨by omega,?_⟩)|intro _));refine Zbd (hx) ?_ ?_ ?_;(focus (try simp (disch:=omega) only [go_sem,e7,e1,e8,e9]));(focus (first|rfl|(simp (disch:=omega) only [go_sem,e7,e1,e8,e9];done)));simp (disch:=omega) only [go_sem,e7,e1,e8,e9];(repeat (first|(refine⟨by omega,?_⟩)|intro _));refine hK _ ?_;clear K hK
     repeat' (first|with_reducible refine Za5 ?_|with_reducible refine Zaj ?_|with_reducible refine Zaq ?_|with_reducible refine Za6 ?_|with_reducible refine Zar ?_|with_reducible refine Zao ?_|with_reducible refine Zac ?_|with_reducible refine Zab ?_|with_reducible refine t_in ?_|with_reducible refine Zae ?_|with_reducible refine Zad ?_|with_reducible refine Zap ?_|with_reducible refine Zai ?_|(with_reducible refine Za1 ?_;intro K hK;simp (disch:=omega) only [go_sem,e9];(repeat (first|(refine⟨by omega,?_⟩)|intro _));refine hK _ ?_;clear K hK)|(with_reducible refine Zau ?_ ?_;(focus (simp (disch:=omega) only [go_sem,e9];done)))|(with_reducible refine Zam ?_ ?_;(focus (simp (disch:=omega) only [go_sem,e9];done))))
     refine⟨k+1,⟨by omega,by simp (disch:=omega) only [go_sem,e7],by simp (disch:=omega) only [go_sem,e1],by simp (disch:=omega) only [go_sem,e8],by simp (disch:=omega) only [go_sem,e9];rfl,next (.inr hc2)⟩,by omega⟩
    ·repeat' (first|with_reducible refine Za5 ?_|with_reducible refine Zaj ?_|with_reducible refine Zaq ?_|with_reducible refine Za6 ?_|with_reducible refine Zar ?_|with_reducible refine Zao ?_|with_reducible refine Zac ?_|with_reducible refine Zab ?_|with_reducible refine t_in ?_|with_reducible refine Zae ?_|with_reducible refine Zad ?_|with_reducible refine Zap ?_|with_reducible refine Zai ?_|(with_reducible refine Za1 ?_;intro K hK;simp (disch:=omega) only [go_sem,e7,e1,e8,e9];(repeat (first|(refine⟨by omega,?_⟩)|intro _));refine hK _ ?_;clear K hK)|(with_reducible refine Zau ?_ ?_;(focus (simp (disch:=omega) only [go_sem,e7,e1,e8,e9];done)))|(with_reducible refine Zam ?_ ?_;(focus (simp (disch:=omega) only [go_sem,e7,e1,e8,e9];done))))
     refine Za1 ?_;intro K hK;simp (disch:=omega) only [go_sem,e7,e1,e8,e9];(repeat (first|(refine⟨by omega,?_⟩)|intro _));refine Zbd (hx) ?_ ?_ ?_;(focus (try simp (disch:=omega) only [go_sem,e7,e1,e8,e9]));(focus (first|rfl|(simp (disch:=omega) only [go_sem,e7,e1,e8,e9];done)));simp (disch:=omega) only [go_sem,e7,e1,e8,e9];(repeat (first|(refine⟨by omega,?_⟩)|intro _));refine hK _ ?_;clear K hK
     repeat' (first|with_reducible refine Za5 ?_|with_reducible refine Zaj ?_|with_reducible refine Zaq ?_|with_reducible refine Za6 ?_|with_reducible refine Zar ?_|with_reducible refine Zao ?_|with_reducible refine Zac ?_|with_reducible refine Zab ?_|with_reducible refine t_in ?_|with_reducible refine Zae ?_|with_reducible refine Zad ?_|with_reducible refine Zap ?_|with_reducible refine Zai ?_|(with_reducible refine Za1 ?_;intro K hK;simp (disch:=omega) only [go_sem];(repeat (first|(refine⟨by omega,?_⟩)|intro _));refine hK _ ?_;clear K hK)|(with_reducible refine Zau ?_ ?_;(focus (simp (disch:=omega) only [go_sem];done)))|(with_reducible refine Zam ?_ ?_;(focus (simp (disch:=omega) only [go_sem];done))))
     rw [copI_f hlt hc hc2];simp (disch:=omega) only [go_sem]
  ·repeat' (first|with_reducible refine Za5 ?_|with_reducible refine Zaj ?_|with_reducible refine Zaq ?_|with_reducible refine Za6 ?_|with_reducible refine Zar ?_|with_reducible refine Zao ?_|with_reducible refine Zac ?_|with_reducible refine Zab ?_|with_reducible refine t_in ?_|with_reducible refine Zae ?_|with_reducible refine Zad ?_|with_reducible refine Zap ?_|with_reducible refine Zai ?_|(with_reducible refine Za1 ?_;intro K hK;simp (disch:=omega) only [go_sem,e7,e1,e8,e9];(repeat (first|(refine⟨by omega,?_⟩)|intro _));refine hK _ ?_;clear K hK)|(with_reducible refine Zau ?_ ?_;(focus (simp (disch:=omega) only [go_sem,e7,e1,e8,e9];done)))|(with_reducible refine Zam ?_ ?_;(focus (simp (disch:=omega) only [go_sem,e7,e1,e8,e9];done))))
   rw [copI_t λj hj=>hd j (by omega)];simp (disch:=omega) only [go_sem]
 ·exact⟨Nat.zero_le _,by simp (disch:=omega) only [go_sem],by simp (disch:=omega) only [go_sem],by simp (disch:=omega) only [go_sem],by simp (disch:=omega) only [go_sem];rfl,by simp⟩
def outL (F:Nat→Int) (k:Nat):List AV:=(List.range k).map λi=>AV.v (.int .i64 (F i))
theorem Zlb (F:Nat→Int) (k:Nat):(outL F k).length=k:=by simp [outL]
theorem Zi7 (F:Nat→Int) (k:Nat):outL F k++[AV.v (.int .i64 (F k))]=outL F (k+1):=by simp [outL,List.range_succ]
theorem Zla (F:Nat→Int):[AV.v (.int .i64 (F 0))]=outL F (0+1):=by simp [outL,List.range_succ]
theorem Zi8 (F:Nat→Int) (n:Nat):AV.sl 1 (outL F n)=ints ((List.range n).map F):=by simp [outL,ints,Function.comp_def]
theorem nil_wk {n:Nat} {F:Nat→Int} (h:n=0):Wk (.v (.slice none 0 0)) (ints ((List.range n).map F)):=by subst h;exact .nil 1
theorem mrMul' (a b:List Int) (ha:Wd a) (hb:Wd b):Pure Tryz.prog 116 [ints a,ints b] (if max a.length b.length=0 then .v (.slice none 0 0) else .sl 1 (outL (λi=>gI a i+gI b i) (max a.length b.length))):=by
 obtain⟨n,hn⟩:∃n,n=max a.length b.length:=⟨_,rfl⟩;have hal:=ha.1;have hbl:=hb.1;rw [←hn]
 have hcode:∀r:AV,(n=0→r=.v (.slice none 0 0))→(n≠0→r=.sl 1 (outL (λi=>gI a i+gI b i) n))→Pure Tryz.prog 116 [ints a,ints b] r:=by
  intro r hr0 hr1;unfold ints;refine Zaa (tok:=0) (rs:=[.tmp 4]) Tryz.func116 rfl Tryz.ntmps116 Tryz.results116 Tryz.call116 (by rfl) (by simp) ?_;(focus (refine wkap w_t w_t (w_r 0) ?_;(repeat' first|exact w_t|apply w_l);all_goals intros));refine Zal (ι:=Nat) (λk e m=>k≤n∧e 0=.sl 1 (a.map λn=>AV.v (.int .i64 n))∧e 1=.sl 1 (b.map λn=>AV.v (.int .i64 n))∧e 6=.v (.int .i64 k)∧(k=0→e 5=.v (.slice none 0 0))∧(k≠0→∃sv,e 5=.own 28 sv∧m 28=some (.row sv 3 1 (outL (λi=>gI a i+gI b i) k) 0))) (λk=>n - k) 0 (by rfl) ?_ ?_
  ·rintro k e m ⟨hk,e0,e1,e6,hz,hp⟩
   by_cases hlt:k < n
   ·have hxa:=Zfb a k;have hxb:=Zfb b k;have p1:=ha.2 k;have p2:=hb.2 k;by_cases hk0:k=0
    ·subst hk0;have e5:=hz rfl;have o1:=Zla (λi=>gI a i+gI b i);by_cases hka:0 < a.length;all_goals
      (focus (refine wkap (w_4 e0 e1 e6 e5) (w_2 hxa hxb) (w_r 0) ?_;(repeat' first|exact w_t|apply w_l);all_goals intros));refine⟨0+1,⟨by omega,by exact gW e0,by exact gW e1,by exact gV e6,λh=>by omega,λ_=>⟨_,by exact gS,by(simp (disch:=omega) only [go_sem,←o1]<;>repeat' first|rfl|refine⟨?_,?_⟩)⟩⟩,by omega⟩
    ·obtain⟨sv,e5,em⟩:=hp hk0;have hol:=Zlb (λi=>gI a i+gI b i) k;have hos:=Zi7 (λi=>gI a i+gI b i) k;by_cases hka:k < a.length;all_goals
      (focus (refine wkap (w_6 e0 e1 e6 e5 em hol) (w_2 hxa hxb) (w_r 0) ?_;(repeat' first|exact w_t|apply w_l);all_goals intros));refine⟨k+1,⟨by omega,by exact gW e0,by exact gW e1,by exact gV e6,λh=>by omega,λ_=>⟨_,by exact gS,by exact gW hos⟩⟩,by omega⟩
   ·have hk':k=n:=by omega
    subst hk';by_cases hk0:k=0
    ·have e5:=hz hk0;rw [hr0 hk0];(focus (refine wklp (w_4 e0 e1 e6 e5) w_t w_t (w_r 0) ?_;(repeat' first|exact w_t|apply w_l);all_goals intros))
    ·obtain⟨sv,e5,em⟩:=hp hk0;rw [hr1 hk0];(focus (refine wklp (w_5 e0 e1 e6 e5 em) w_t (w_1 em) (w_r 0) ?_;(repeat' first|exact w_t|apply w_l);all_goals intros))
  ·exact⟨Nat.zero_le _,by exact gC,by exact gC,by exact gS,λ_=>by exact gC,λh=>absurd rfl h⟩
 exact hcode _ (λh=>by rw [if_pos h]) (λh=>by rw [if_neg h])
theorem mrMul (a b:List Int) (ha:Wd a) (hb:Wd b):Pure Tryz.prog 116 [ints a,ints b] (ints (zipI (·+·) a b)):=by
 refine(mrMul' a b ha hb).wk ?_;split
 ·rename_i h;exact nil_wk h
 ·rw [Zi8];exact .refl _
theorem refLcm' (a b:List Int) (ha:Wd a) (hb:Wd b):Pure Tryz.prog 84 [ints a,ints b] (if max a.length b.length=0 then .v (.slice none 0 0) else .sl 1 (outL (λi=>max (gI a i) (gI b i)) (max a.length b.length))):=by
 obtain⟨n,hn⟩:∃n,n=max a.length b.length:=⟨_,rfl⟩;have hal:=ha.1;have hbl:=hb.1;rw [←hn]
 have hcode:∀r:AV,(n=0→r=.v (.slice none 0 0))→(n≠0→r=.sl 1 (outL (λi=>max (gI a i) (gI b i)) n))→Pure Tryz.prog 84 [ints a,ints b] r:=by
  intro r hr0 hr1;unfold ints;refine Zaa (tok:=0) (rs:=[.tmp 4]) Tryz.func84 rfl Tryz.ntmps84 Tryz.results84 Tryz.call84 (by rfl) (by simp) ?_;(focus (refine wkad w_t w_t w_t ?_;(repeat' first|exact w_t|apply w_l);all_goals intros));refine Zal (ι:=Nat) (λk e m=>k≤n∧e 0=.sl 1 (a.map λn=>AV.v (.int .i64 n))∧e 1=.sl 1 (b.map λn=>AV.v (.int .i64 n))∧e 6=.v (.int .i64 k)∧(k=0→e 5=.v (.slice none 0 0))∧(k≠0→∃sv,e 5=.own 28 sv∧m 28=some (.row sv 3 1 (outL (λi=>max (gI a i) (gI b i)) k) 0))) (λk=>n - k) 0 (by rfl) ?_ ?_
  ·rintro k e m ⟨hk,e0,e1,e6,hz,hp⟩
   by_cases hlt:k < n
   ·have hxa:=Zfb a k;have hxb:=Zfb b k;have p1:=ha.2 k;have p2:=hb.2 k;by_cases hk0:k=0
    ·subst hk0;have e5:=hz rfl;have o1:=Zla (λi=>max (gI a i) (gI b i));by_cases hka:0 < a.length;all_goals
      (focus (refine wkad (w_4 e0 e1 e6 e5) (w_2 hxa hxb) w_t ?_;(repeat' first|exact w_t|apply w_l);all_goals intros));refine⟨0+1,⟨by omega,by exact gW e0,by exact gW e1,by exact gV e6,λh=>by omega,λ_=>⟨_,by exact gS,by(simp (disch:=omega) only [go_sem,←o1]<;>repeat' first|rfl|refine⟨?_,?_⟩)⟩⟩,by omega⟩
    ·obtain⟨sv,e5,em⟩:=hp hk0;have hol:=Zlb (λi=>max (gI a i) (gI b i)) k;have hos:=Zi7 (λi=>max (gI a i) (gI b i)) k;by_cases hka:k < a.length;all_goals
      (focus (refine wkad (w_6 e0 e1 e6 e5 em hol) (w_2 hxa hxb) w_t ?_;(repeat' first|exact w_t|apply w_l);all_goals intros));refine⟨k+1,⟨by omega,by exact gW e0,by exact gW e1,by exact gV e6,λh=>by omega,λ_=>⟨_,by exact gS,by exact gW hos⟩⟩,by omega⟩
   ·have hk':k=n:=by omega
    subst hk';by_cases hk0:k=0
    ·have e5:=hz hk0;rw [hr0 hk0];(focus (refine wkld (w_4 e0 e1 e6 e5) w_t w_t w_t ?_;(repeat' first|exact w_t|apply w_l);all_goals intros))
    ·obtain⟨sv,e5,em⟩:=hp hk0;rw [hr1 hk0];(focus (refine wkld (w_5 e0 e1 e6 e5 em) w_t (w_1 em) w_t ?_;(repeat' first|exact w_t|apply w_l);all_goals intros))
  ·exact⟨Nat.zero_le _,by exact gC,by exact gC,by exact gS,λ_=>by exact gC,λh=>absurd rfl h⟩
 exact hcode _ (λh=>by rw [if_pos h]) (λh=>by rw [if_neg h])
theorem refLcm (a b:List Int) (ha:Wd a) (hb:Wd b):Pure Tryz.prog 84 [ints a,ints b] (ints (zipI max a b)):=by
 refine(refLcm' a b ha hb).wk ?_;split
 ·rename_i h;exact nil_wk h
 ·rw [Zi8];exact .refl _
def quoI (a b:List Int):List Int:=if divI b a=true then Zct (zipI (· - ·) a b) else []
def quoR (a b:List Int):List Int:=if divI b a=true then Zct ((List.range a.length).map λi=>gI a i - gI b i) else []
theorem monQuo (a b:List Int) (ha:Wd a) (hb:Wd b):Pure Tryz.prog 70 [ints a,ints b] (.tup [ints (quoI a b),.v (.bool (divI b a))]):=by
 have hal:=ha.1;have hbl:=hb.1;have h0:=Zki b a hb.1;have h1:=Zhw a b 121 (· - ·) ha.1 hb.1 λk _=>subF _ _ (by have:=ha.2 k;have:=hb.2 k;omega);have h2:=Zlj (zipI (· - ·) a b) (by rw [Zkw];omega);by_cases hd:divI b a=true
 ·unfold quoI;rw [if_pos hd,hd];rw [hd] at h0;unfold ints at *;refine Zaa (tok:=0) (rs:=[.tmp 4,.tmp 5]) Tryz.func70 rfl Tryz.ntmps70 Tryz.results70 Tryz.call70 (by rfl) (by simp) ?_
  (repeat' (first|(with_reducible first|refine Za5 ?_|refine Zaj ?_|refine Zaq ?_|refine Za6 ?_|refine Zar ?_|refine Zao ?_|refine Zac ?_|refine Zab ?_|refine t_in ?_|refine Zae ?_|refine Zad ?_|refine Zap ?_|refine Zai ?_|refine Zoa ?_|refine Zjb ?_|refine Zjc ?_|refine Zob ?_|refine Zjd ?_|refine Zn6 ?_|refine Zi6 ?_|refine Zn7 ?_|refine c_t ?_|refine c_f ?_)|((with_reducible first|refine Za1 ?_);intro K hK)|((with_reducible first|refine Zqu ?_|refine Zow ?_);refine hK _ ?_;clear K hK)|((with_reducible first|refine Zbi ?_);intro sv)|(first|refine g_y rfl ?_|refine g_n rfl ?_|refine g_nN rfl ?_)|((with_reducible first|refine Zh7 ?_ ?_|refine Zjr ?_ ?_);(focus (first|omega|(simp (disch:=omega) only [go_sem];first|done|omega))))|((with_reducible first|apply o_op|apply Zoc|apply o_g|apply Zn8|apply r_c);(focus (simp (disch:=omega) only [go_sem];rfl)))));((first|(with_reducible refine Zmq (h0) ?_ ?_ ?_ ?_)|(with_reducible refine Zld (h0) ?_ ?_ ?_ ?_)|((with_reducible apply Znf (c:=h0));(focus rfl)));(focus (first|rfl|(simp (disch:=omega) only [go_sem];done)));(focus (simp (disch:=omega) only [go_sem];done));(focus (first|rfl|(simp (disch:=omega) only [go_sem];done))));(repeat' (first|(with_reducible first|refine Za5 ?_|refine Zaj ?_|refine Zaq ?_|refine Za6 ?_|refine Zar ?_|refine Zao ?_|refine Zac ?_|refine Zab ?_|refine t_in ?_|refine Zae ?_|refine Zad ?_|refine Zap ?_|refine Zai ?_|refine Zoa ?_|refine Zjb ?_|refine Zjc ?_|refine Zob ?_|refine Zjd ?_|refine Zn6 ?_|refine Zi6 ?_|refine Zn7 ?_|refine c_t ?_|refine c_f ?_)|((with_reducible first|refine Za1 ?_);intro K hK)|((with_reducible first|refine Zqu ?_|refine Zow ?_);refine hK _ ?_;clear K hK)|((with_reducible first|refine Zbi ?_);intro sv)|(first|refine g_y rfl ?_|refine g_n rfl ?_|refine g_nN rfl ?_)|((with_reducible first|refine Zh7 ?_ ?_|refine Zjr ?_ ?_);(focus (first|omega|(simp (disch:=omega) only [go_sem];first|done|omega))))|((with_reducible first|apply o_op|apply Zoc|apply o_g|apply Zn8|apply r_c);(focus (simp (disch:=omega) only [go_sem];rfl)))));((first|(with_reducible refine Zmq (h1) ?_ ?_ ?_ ?_)|(with_reducible refine Zld (h1) ?_ ?_ ?_ ?_)|((with_reducible apply Znf (c:=h1));(focus rfl)));(focus (first|rfl|(simp (disch:=omega) only [go_sem];done)));(focus (simp (disch:=omega) only [go_sem];done));(focus (first|rfl|(simp (disch:=omega) only [go_sem];done))));(repeat' (first|(with_reducible first|refine Za5 ?_|refine Zaj ?_|refine Zaq ?_|refine Za6 ?_|refine Zar ?_|refine Zao ?_|refine Zac ?_|refine Zab ?_|refine t_in ?_|refine Zae ?_|refine Zad ?_|refine Zap ?_|refine Zai ?_|refine Zoa ?_|refine Zjb ?_|refine Zjc ?_|refine Zob ?_|refine Zjd ?_|refine Zn6 ?_|refine Zi6 ?_|refine Zn7 ?_|refine c_t ?_|refine c_f ?_)|((with_reducible first|refine Za1 ?_);intro K hK)|((with_reducible first|refine Zqu ?_|refine Zow ?_);refine hK _ ?_;clear K hK)|((with_reducible first|refine Zbi ?_);intro sv)|(first|refine g_y rfl ?_|refine g_n rfl ?_|refine g_nN rfl ?_)|((with_reducible first|refine Zh7 ?_ ?_|refine Zjr ?_ ?_);(focus (first|omega|(simp (disch:=omega) only [go_sem];first|done|omega))))|((with_reducible first|apply o_op|apply Zoc|apply o_g|apply Zn8|apply r_c);(focus (simp (disch:=omega) only [go_sem];rfl)))));((first|(with_reducible refine Zmq (h2) ?_ ?_ ?_ ?_)|(with_reducible refine Zld (h2) ?_ ?_ ?_ ?_)|((with_reducible apply Znf (c:=h2));(focus rfl)));(focus (first|rfl|(simp (disch:=omega) only [go_sem];done)));(focus (simp (disch:=omega) only [go_sem];done));(focus (first|rfl|(simp (disch:=omega) only [go_sem];done))));(repeat' (first|(with_reducible first|refine Za5 ?_|refine Zaj ?_|refine Zaq ?_|refine Za6 ?_|refine Zar ?_|refine Zao ?_|refine Zac ?_|refine Zab ?_|refine t_in ?_|refine Zae ?_|refine Zad ?_|refine Zap ?_|refine Zai ?_|refine Zoa ?_|refine Zjb ?_|refine Zjc ?_|refine Zob ?_|refine Zjd ?_|refine Zn6 ?_|refine Zi6 ?_|refine Zn7 ?_|refine c_t ?_|refine c_f ?_)|((with_reducible first|refine Za1 ?_);intro K hK)|((with_reducible first|refine Zqu ?_|refine Zow ?_);refine hK _ ?_;clear K hK)|((with_reducible first|refine Zbi ?_);intro sv)|(first|refine g_y rfl ?_|refine g_n rfl ?_|refine g_nN rfl ?_)|((with_reducible first|refine Zh7 ?_ ?_|refine Zjr ?_ ?_);(focus (first|omega|(simp (disch:=omega) only [go_sem];first|done|omega))))|((with_reducible first|apply o_op|apply Zoc|apply o_g|apply Zn8|apply r_c);(focus (simp (disch:=omega) only [go_sem];rfl)))))
  simp (disch:=omega) only [go_sem]
 ·have hd':divI b a=false:=by simpa using hd
  refine Pure.wk (r:=.tup [.v (.slice none 0 0),.v (.bool (divI b a))]) ?_ ?_
  ·rw [hd'];rw [hd'] at h0;unfold ints at *;refine Zaa (tok:=0) (rs:=[.tmp 4,.tmp 5]) Tryz.func70 rfl Tryz.ntmps70 Tryz.results70 Tryz.call70 (by rfl) (by simp) ?_
   (repeat' (first|(with_reducible first|refine Za5 ?_|refine Zaj ?_|refine Zaq ?_|refine Za6 ?_|refine Zar ?_|refine Zao ?_|refine Zac ?_|refine Zab ?_|refine t_in ?_|refine Zae ?_|refine Zad ?_|refine Zap ?_|refine Zai ?_|refine Zoa ?_|refine Zjb ?_|refine Zjc ?_|refine Zob ?_|refine Zjd ?_|refine Zn6 ?_|refine Zi6 ?_|refine Zn7 ?_|refine c_t ?_|refine c_f ?_)|((with_reducible first|refine Za1 ?_);intro K hK)|((with_reducible first|refine Zqu ?_|refine Zow ?_);refine hK _ ?_;clear K hK)|((with_reducible first|refine Zbi ?_);intro sv)|(first|refine g_y rfl ?_|refine g_n rfl ?_|refine g_nN rfl ?_)|((with_reducible first|refine Zh7 ?_ ?_|refine Zjr ?_ ?_);(focus (first|omega|(simp (disch:=omega) only [go_sem];first|done|omega))))|((with_reducible first|apply o_op|apply Zoc|apply o_g|apply Zn8|apply r_c);(focus (simp (disch:=omega) only [go_sem];rfl)))));((first|(with_reducible refine Zmq (h0) ?_ ?_ ?_ ?_)|(with_reducible refine Zld (h0) ?_ ?_ ?_ ?_)|((with_reducible apply Znf (c:=h0));(focus rfl)));(focus (first|rfl|(simp (disch:=omega) only [go_sem];done)));(focus (simp (disch:=omega) only [go_sem];done));(focus (first|rfl|(simp (disch:=omega) only [go_sem];done))));(repeat' (first|(with_reducible first|refine Za5 ?_|refine Zaj ?_|refine Zaq ?_|refine Za6 ?_|refine Zar ?_|refine Zao ?_|refine Zac ?_|refine Zab ?_|refine t_in ?_|refine Zae ?_|refine Zad ?_|refine Zap ?_|refine Zai ?_|refine Zoa ?_|refine Zjb ?_|refine Zjc ?_|refine Zob ?_|refine Zjd ?_|refine Zn6 ?_|refine Zi6 ?_|refine Zn7 ?_|refine c_t ?_|refine c_f ?_)|((with_reducible first|refine Za1 ?_);intro K hK)|((with_reducible first|refine Zqu ?_|refine Zow ?_);refine hK _ ?_;clear K hK)|((with_reducible first|refine Zbi ?_);intro sv)|(first|refine g_y rfl ?_|refine g_n rfl ?_|refine g_nN rfl ?_)|((with_reducible first|refine Zh7 ?_ ?_|refine Zjr ?_ ?_);(focus (first|omega|(simp (disch:=omega) only [go_sem];first|done|omega))))|((with_reducible first|apply o_op|apply Zoc|apply o_g|apply Zn8|apply r_c);(focus (simp (disch:=omega) only [go_sem];rfl)))))
   simp (disch:=omega) only [go_sem]
  ·unfold quoI;rw [if_neg hd];exact(Wk.nil 1).pair
theorem refQuo (a b:List Int) (ha:Wd a) (hb:Wd b):Pure Tryz.prog 77 [ints a,ints b] (.tup [ints (quoR a b),.v (.bool (divI b a))]):=by
 have hal:=ha.1;have hbl:=hb.1;have h0:=Zqn b a hb.1;have hc:=refCut ((List.range a.length).map λi=>gI a i - gI b i) (by simpa using ha.1);by_cases hd:divI b a=true
 ·have hq:quoR a b=Zct ((List.range a.length).map λi=>gI a i - gI b i):=by unfold quoR;rw [if_pos hd]
  rw [←hq] at hc;rw [←Zi8] at hc;rw [hd];rw [hd] at h0;unfold ints at h0 hc ⊢;refine Zaa (tok:=0) Tryz.func77 rfl Tryz.ntmps77 Tryz.results77 Tryz.call77 (by rfl) (by simp) ?_;(focus (refine wkad w_t (w_1 h0) w_t ?_;(repeat' first|exact w_t|apply w_l);all_goals intros));refine Zal (ι:=Nat) (λk e m=>k≤a.length∧e 0=.sl 1 (a.map λn=>AV.v (.int .i64 n))∧e 1=.sl 1 (b.map λn=>AV.v (.int .i64 n))∧e 7=.v (.int .i64 k)∧(k=0→e 6=.v (.slice none 0 0))∧(k≠0→∃sv,e 6=.own 28 sv∧m 28=some (.row sv 3 1 (outL (λi=>gI a i - gI b i) k) 0))) (λk=>a.length - k) 0 (by rfl) ?_ ?_
  ·rintro k e m ⟨hk,e0,e1,e7,hz,hp⟩
   by_cases hlt:k < a.length
   ·have hx:=Zfb b k;have p1:=ha.2 k;have p2:=hb.2 k;by_cases hk0:k=0
    ·subst hk0;have e6:=hz rfl;have o1:=Zla (λi=>gI a i - gI b i);(focus (refine wkad (w_4 e0 e1 e7 e6) (w_1 hx) (w_1 (w_d 7 [(7,.v (.int .i64 (gI b 0)))] [10,11] [27])) ?_;(repeat' first|exact w_t|apply w_l);all_goals intros));refine⟨0+1,⟨by omega,by exact gW e0,by exact gW e1,by exact gS,λh=>by omega,λ_=>⟨_,by exact gC,by(simp (disch:=omega) only [go_sem,←o1]<;>repeat' first|rfl|refine⟨?_,?_⟩)⟩⟩,by omega⟩
    ·obtain⟨sv,e6,em⟩:=hp hk0;have hol:=Zlb (λi=>gI a i - gI b i) k;have hos:=Zi7 (λi=>gI a i - gI b i) k;(focus (refine wkad (w_6 e0 e1 e7 e6 em hol) (w_1 hx) (w_1 (w_d 7 [(7,.v (.int .i64 (gI b k)))] [10,11] [27])) ?_;(repeat' first|exact w_t|apply w_l);all_goals intros));refine⟨k+1,⟨by omega,by exact gW e0,by exact gW e1,by exact gS,λh=>by omega,λ_=>⟨_,by exact gC,by exact gW hos⟩⟩,by omega⟩
   ·have hk':k=a.length:=by omega
    by_cases hk0:k=0
    ·have e6:=hz hk0;have ha0:a.length=0:=by omega
     rw [ha0] at hc;have hc:=hc.nil1;(focus (refine wkld (w_4 e0 e1 e7 e6) (w_1 hc) w_t w_t ?_;(repeat' first|exact w_t|apply w_l);all_goals intros))
    ·obtain⟨sv,e6,em⟩:=hp hk0;subst hk';(focus (refine wkax (w_5 e0 e1 e7 e6 em) w_t w_t (w_1 hc) w_t w_t (w_r 0) ?_;(repeat' first|exact w_t|apply w_l);all_goals intros))
     (all_goals (try simp (disch:=omega) only [go_sem,em,decide_eq_true,decide_eq_false,if_pos,if_neg,Int.reduceAdd,Int.reduceSub,Int.reduceToNat,Int.zero_add]));(all_goals first|done|rfl|(congr 2;first|done|omega|(rw [Bool.eq_iff_iff];simp only [bool_to_prop,Bool.false_eq_true,iff_true,true_iff,iff_false,false_iff];omega))|skip)
  ·exact⟨Nat.zero_le _,by exact gC,by exact gC,by exact gC,λ_=>by exact gC,λh=>absurd rfl h⟩
 ·have hd':divI b a=false:=by simpa using hd
  refine Pure.wk (r:=.tup [.v (.slice none 0 0),.v (.bool (divI b a))]) ?_ ?_
  ·rw [hd'];rw [hd'] at h0;unfold ints at h0 ⊢;refine Zaa (tok:=0) Tryz.func77 rfl Tryz.ntmps77 Tryz.results77 Tryz.call77 (by rfl) (by simp) ?_;(focus (refine wkad w_t (w_1 h0) w_t ?_;(repeat' first|exact w_t|apply w_l);all_goals intros));simp (disch:=omega) only [go_sem]
  ·unfold quoR;rw [if_neg hd];exact(Wk.nil 1).pair
section
attribute [local go_sem] Tryz.underlying4
theorem sz23:szOf Tryz.prog 46=some 1:=by kernel_rfl
attribute [local go_sem] sz23
theorem Zl7 (l:List Int):(Zct l).length≤l.length:=by unfold Zct;rw [List.length_take];omega
def Zms (l:List Int):List Int:=if Zcc (Zct l)=true then Zct l else []
theorem monNorm (l:List Int) (hs:l.length≤1000):Pure Tryz.prog 76 [ints l] (ints (Zms l)):=by
 have h1:=Zlj l hs;have h2:=Zpx (Zct l);have hl:=Zl7 l;by_cases hr:Zcc (Zct l)=true
 ·unfold Zms;rw [if_pos hr];rw [hr] at h2;unfold ints at *;refine Zaa (tok:=0) (rs:=[.tmp 2]) Tryz.func76 rfl Tryz.ntmps76 Tryz.results76 Tryz.call76 (by rfl) (by simp) ?_;(focus (refine wkld w_t (w_2 h1 h2) w_t w_t ?_;(repeat' first|exact w_t|apply w_l);all_goals intros))
 ·have hr':Zcc (Zct l)=false:=by simpa using hr
  rw [hr'] at h2;refine Pure.wk (r:=.v (.slice none 0 0)) ?_ (by unfold Zms;rw [if_neg hr];exact .nil 1);unfold ints at *;refine Zaa (tok:=0) (rs:=[.tmp 2]) Tryz.func76 rfl Tryz.ntmps76 Tryz.results76 Tryz.call76 (by rfl) (by simp) ?_;(focus (refine wkld w_t (w_2 h1 h2) w_t w_t ?_;(repeat' first|exact w_t|apply w_l);all_goals intros))
theorem mrNorm (l:List Int) (hs:l.length≤1000):Pure Tryz.prog 133 [ints l] (ints (Zms l)):=by
 have h1:=refCut l hs;have h2:=Zpi (Zct l);have hl:=Zl7 l;by_cases hr:Zcc (Zct l)=true
 ·unfold Zms;rw [if_pos hr];rw [hr] at h2;unfold ints at *;refine Zaa (tok:=0) (rs:=[.tmp 2]) Tryz.func133 rfl Tryz.ntmps133 Tryz.results133 Tryz.call133 (by rfl) (by simp) ?_;(focus (refine wkld w_t (w_2 h1 h2) w_t w_t ?_;(repeat' first|exact w_t|apply w_l);all_goals intros))
 ·have hr':Zcc (Zct l)=false:=by simpa using hr
  rw [hr'] at h2;refine Pure.wk (r:=.v (.slice none 0 0)) ?_ (by unfold Zms;rw [if_neg hr];exact .nil 1);unfold ints at *;refine Zaa (tok:=0) (rs:=[.tmp 2]) Tryz.func133 rfl Tryz.ntmps133 Tryz.results133 Tryz.call133 (by rfl) (by simp) ?_;(focus (refine wkld w_t (w_2 h1 h2) w_t w_t ?_;(repeat' first|exact w_t|apply w_l);all_goals intros))
def lt1 (x y:Int):Int:=if x < y then -1 else 1
def lexC (a b:List Int):Nat→Int
 | 0=>0
 | n+1=>if gI a n=gI b n then lexC a b n else lt1 (gI a n) (gI b n)
def cmpI (a b:List Int) (o:Int):Int :=
 if o=1∧sumT a a.length≠sumT b b.length then lt1 (sumT a a.length) (sumT b b.length) else lexC a b (max a.length b.length)
theorem Zm5 {a b:List Int} {k:Nat} (h0:0 < k) (h:gI a (k - 1)=gI b (k - 1)):lexC a b (k - 1)=lexC a b k:=by
 cases k with
 | zero=>omega
 | succ k=>simp only [lexC];rw [if_pos (by simpa using h)];rfl
theorem Zm6 {a b:List Int} {k:Nat} (h0:0 < k) (h:gI a (k - 1)≠gI b (k - 1)):lexC a b k=lt1 (gI a (k - 1)) (gI b (k - 1)):=by
 cases k with
 | zero=>omega
 | succ k=>simp only [lexC];rw [if_neg (by simpa using h)];rfl
theorem Zro {x y:Int} (h:x≠y):sgn (x - y)=lt1 x y:=by
 unfold sgn lt1;by_cases h1:x < y
 ·rw [if_pos (by omega),if_pos h1]
 ·rw [if_neg (by omega),if_pos (by omega),if_neg h1]
theorem Zpy (a b:List Int) (o:Int) (ha:Sm a) (hb:Sm b):Pure Tryz.prog 51 [ints a,ints b,.v (.int .i64 o)] (.v (.int .i64 (cmpI a b o))):=by
 have hal:=ha.1;have hbl:=hb.1;have d1:=Zmy a ha;have d2:=Zmy b hb;unfold ints at *;refine Zaa (tok:=0) (rs:=[.tmp 6]) Tryz.func51 rfl Tryz.ntmps51 Tryz.results51 Tryz.call51 (by rfl) (by simp) ?_;obtain⟨n,hn⟩:∃n,n=max a.length b.length:=⟨_,rfl⟩;have hmx:max (a.length:Int) (b.length:Int)=(n:Int):=by omega
 by_cases hbig:o=1∧sumT a a.length≠sumT b b.length
 ·obtain⟨ho,hd⟩:=hbig;have hc:cmpI a b o=lt1 (sumT a a.length) (sumT b b.length):=by unfold cmpI;rw [if_pos ⟨ho,hd⟩]
  rw [hc];unfold lt1;by_cases hlt:sumT a a.length < sumT b b.length
  ·rw [if_pos hlt];(focus (refine wklp w_t (w_2 d1 d2) w_t (w_r 0) ?_;(repeat' first|exact w_t|apply w_l);all_goals intros))
  ·rw [if_neg hlt];(focus (refine wklp w_t (w_2 d1 d2) w_t (w_r 0) ?_;(repeat' first|exact w_t|apply w_l);all_goals intros))
 ·have hc:cmpI a b o=lexC a b n:=by unfold cmpI;rw [if_neg hbig,hn]
  rw [hc];have loop:∀(e:Nat→AV) (m:Mem),e 0=.sl 1 (a.map λn=>AV.v (.int .i64 n))→e 1=.sl 1 (b.map λn=>AV.v (.int .i64 n))→True:=λ_ _ _ _=>trivial;have hd0:o=1→sumT a a.length=sumT b b.length:=λho=>Decidable.byContradiction λh=>hbig ⟨ho,h⟩;by_cases ho:o=1;all_goals
   first
   | (have hd:=hd0 ho
      (focus (refine wkap (w_1 hmx) (w_2 d1 d2) (w_r 0) ?_;(repeat' first|exact w_t|apply w_l);all_goals intros)))
   | ((focus (refine wkap (w_1 hmx) w_t (w_r 0) ?_;(repeat' first|exact w_t|apply w_l);all_goals intros)))
   refine Zal (ι:=Nat) (λk e m=>k≤n∧e 0=.sl 1 (a.map λn=>AV.v (.int .i64 n))∧e 1=.sl 1 (b.map λn=>AV.v (.int .i64 n))∧e 9=.v (.int .i64 ((k:Int) - 1))∧lexC a b k=lexC a b n) (λk=>k) n (by rfl) ?_ ?_
   ·rintro k e m ⟨hk,e0,e1,e9,hl⟩
    by_cases hk0:0 < k
    ·have hp:=Zhn hk0;rw [hp] at e9;have x1:=Zlk a (k - 1);have x2:=Zlk b (k - 1);by_cases hx:gI a (k - 1)=gI b (k - 1)
     ·(focus (refine wkap (w_3 e0 e1 e9) (w_2 x1 x2) (w_r 0) ?_;(repeat' first|exact w_t|apply w_l);all_goals intros));exact⟨k - 1,⟨by omega,by exact gW e0,by exact gW e1,by exact gW e9,by rw [Zm5 hk0 hx,hl]⟩,by omega⟩
     ·rw [←hl,Zm6 hk0 hx];unfold lt1;by_cases hlt:gI a (k - 1) < gI b (k - 1)
      ·rw [if_pos hlt];(focus (refine wklp (w_3 e0 e1 e9) (w_2 x1 x2) w_t (w_r 0) ?_;(repeat' first|exact w_t|apply w_l);all_goals intros))
      ·rw [if_neg hlt];(focus (refine wklp (w_3 e0 e1 e9) (w_2 x1 x2) w_t (w_r 0) ?_;(repeat' first|exact w_t|apply w_l);all_goals intros))
    ·have hk':k=0:=by omega
     subst hk';rw [←hl,show lexC a b 0=0 from rfl];(focus (refine wklp (w_3 e0 e1 e9) w_t w_t (w_r 0) ?_;(repeat' first|exact w_t|apply w_l);all_goals intros))
   ·exact⟨Nat.le_refl _,by exact gC,by exact gC,by exact gW hmx,rfl⟩
end
attribute [local go_sem] Tryz.underlying4 sz23
theorem mrCmp (a b:List Int) (o:Int) (ha:Sm a) (hb:Sm b):Pure Tryz.prog 62 [ints a,ints b,.v (.int .i64 o)] (.v (.int .i64 (cmpI a b o))):=by
 have hal:=ha.1;have hbl:=hb.1;have d1:=Zmf a ha;have d2:=Zmf b hb;have q1:=Ziu ha a.length;have q2:=Ziu hb b.length;unfold ints at *;refine Zaa (tok:=0) (rs:=[.tmp 6]) Tryz.func62 rfl Tryz.ntmps62 Tryz.results62 Tryz.call62 (by rfl) (by simp) ?_;obtain⟨n,hn⟩:∃n,n=max a.length b.length:=⟨_,rfl⟩;have hmx:max (a.length:Int) (b.length:Int)=(n:Int):=by omega
 by_cases hbig:o=1∧sumT a a.length≠sumT b b.length
 ·obtain⟨ho,hd⟩:=hbig;have hc:cmpI a b o=lt1 (sumT a a.length) (sumT b b.length):=by unfold cmpI;rw [if_pos ⟨ho,hd⟩]
  rw [hc];have hs:=Zrw (sumT a a.length - sumT b b.length);rw [Zro hd] at hs;(focus (refine wklp w_t (w_5 d1 d2 d1 d2 hs) w_t (w_r 0) ?_;(repeat' first|exact w_t|apply w_l);all_goals intros))
 ·have hc:cmpI a b o=lexC a b n:=by unfold cmpI;rw [if_neg hbig,hn]
  rw [hc];have hd0:o=1→sumT a a.length=sumT b b.length:=λho=>Decidable.byContradiction λh=>hbig ⟨ho,h⟩;by_cases ho:o=1;all_goals
   first
   | (have hd:=hd0 ho
      (focus (refine wkap (w_1 hmx) (w_2 d1 d2) (w_r 0) ?_;(repeat' first|exact w_t|apply w_l);all_goals intros)))
   | ((focus (refine wkap (w_1 hmx) w_t (w_r 0) ?_;(repeat' first|exact w_t|apply w_l);all_goals intros)))
   refine Zal (ι:=Nat) (λk e m=>k≤n∧e 0=.sl 1 (a.map λn=>AV.v (.int .i64 n))∧e 1=.sl 1 (b.map λn=>AV.v (.int .i64 n))∧e 7=.v (.int .i64 ((k:Int) - 1))∧lexC a b k=lexC a b n) (λk=>k) n (by rfl) ?_ ?_
   ·rintro k e m ⟨hk,e0,e1,e9,hl⟩
    by_cases hk0:0 < k
    ·have hp:=Zhn hk0;rw [hp] at e9;have x1:=Zfb a (k - 1);have x2:=Zfb b (k - 1);have p1:=ha.2 (k - 1);have p2:=hb.2 (k - 1);by_cases hx:gI a (k - 1)=gI b (k - 1)
     ·(focus (refine wkap (w_3 e0 e1 e9) (w_2 x1 x2) (w_r 0) ?_;(repeat' first|exact w_t|apply w_l);all_goals intros));exact⟨k - 1,⟨by omega,by exact gW e0,by exact gW e1,by exact gW e9,by rw [Zm5 hk0 hx,hl]⟩,by omega⟩
     ·have hs:=Zrw (gI a (k - 1) - gI b (k - 1));rw [Zro hx] at hs;rw [←hl,Zm6 hk0 hx];(focus (refine wklp (w_3 e0 e1 e9) (w_5 x1 x2 x1 x2 hs) w_t (w_r 0) ?_;(repeat' first|exact w_t|apply w_l);all_goals intros))
    ·have hk':k=0:=by omega
     subst hk';rw [←hl,show lexC a b 0=0 from rfl];(focus (refine wklp (w_3 e0 e1 e9) w_t w_t (w_r 0) ?_;(repeat' first|exact w_t|apply w_l);all_goals intros))
   ·exact⟨Nat.le_refl _,by exact gC,by exact gC,by exact gW hmx,rfl⟩
def low (x:Int):Bool:=!decide (262144 < x)
def rightL (ls:List (List Int)):Bool:=ls.all λl=>Zcc l && l.all low
def gLs (ls:List (List Int)) (k:Nat):List Int:=ls.getD k []
end Go.Proofs.YtimmnimikmnljaaGreat
namespace Go.Proofs.YtimmnimikmnljaaGreat
open Go Go.RowKit Go.Pg
def Can (l:List Int):Prop:=(∀j,0≤gI l j)∧(l.length=0∨gI l (l.length - 1)≠0)
def LTm (a b:List Int):Prop:=∃k,gI a k < gI b k∧∀j,k < j→gI a j=gI b j
def ltM (a b:List Int):Prop:=lexC a b (max a.length b.length)=-1
instance:DecidableRel ltM:=λa b=>inferInstanceAs (Decidable (lexC a b (max a.length b.length)=-1))
theorem Zsn {a b:List Int}:∀n,lexC a b n=-1↔∃k,k < n∧gI a k < gI b k∧∀j,k < j→j < n→gI a j=gI b j
 | 0=>by
   constructor
   ·intro h;exact absurd h (by show ¬(0:Int)=-1;omega)
   ·rintro ⟨k,h,_⟩;omega
 | n+1=>by
   unfold lexC;by_cases h:gI a n=gI b n
   ·rw [if_pos h,Zsn n];constructor
    ·rintro ⟨k,h1,h2,h3⟩
     exact⟨k,by omega,h2,λj h4 h5=>by by_cases hj:j=n;subst hj;exact h;exact h3 j h4 (by omega)⟩
    ·rintro ⟨k,h1,h2,h3⟩
     have:k≠n:=by rintro rfl;omega
     exact⟨k,by omega,h2,λj h4 h5=>h3 j h4 (by omega)⟩
   ·rw [if_neg h];unfold lt1;constructor
    ·intro h1;by_cases h2:gI a n < gI b n
     ·exact⟨n,by omega,h2,λj h3 h4=>by omega⟩
     ·rw [if_neg h2] at h1;omega
    ·rintro ⟨k,h1,h2,h3⟩
     by_cases hk:k=n
     ·subst hk;rw [if_pos h2]
     ·exact absurd (h3 n (by omega) (by omega)) h
theorem Zf1 {a b:List Int}:ltM a b↔LTm a b:=by
 unfold ltM LTm;rw [Zsn];constructor
 ·rintro ⟨k,h1,h2,h3⟩
  refine⟨k,h2,λj h4=>?_⟩;by_cases hj:j < max a.length b.length
  ·exact h3 j h4 hj
  ·rw [Zbg (by omega),Zbg (by omega)]
 ·rintro ⟨k,h2,h3⟩
  refine⟨k,?_,h2,λj h4 _=>h3 j h4⟩;by_cases hk:k < max a.length b.length
  ·exact hk
  ·rw [Zbg (by omega),Zbg (by omega)] at h2;omega
theorem Zm4 {a b:List Int}:∀n,(∀j,j < n→gI a j=gI b j)→lexC a b n=0
 | 0,_=>rfl
 | n+1,h=>by unfold lexC;rw [if_pos (h n (by omega)),Zm4 n λj hj=>h j (by omega)]
theorem Ze0 {a b:List Int}:∀n,lexC a b n=0∧(∀j,j < n→gI a j=gI b j)∨lexC a b n=-1∨lexC a b n=1
 | 0=>.inl ⟨rfl,λj h=>by omega⟩
 | n+1=>by
   unfold lexC;by_cases h:gI a n=gI b n
   ·rw [if_pos h];rcases @Ze0 a b n with⟨h1,h2⟩ | h1
    ·exact .inl ⟨h1,λj hj=>by by_cases e:j=n;subst e;exact h;exact h2 j (by omega)⟩
    ·exact .inr h1
   ·rw [if_neg h];unfold lt1;split
    ·exact .inr (.inl rfl)
    ·exact .inr (.inr rfl)
theorem Zhk {a b:List Int}:∀n,lexC b a n=- lexC a b n
 | 0=>rfl
 | n+1=>by
   unfold lexC;by_cases h:gI a n=gI b n
   ·rw [if_pos h,if_pos h.symm,Zhk n]
   ·rw [if_neg h,if_neg (λe=>h e.symm)];unfold lt1;by_cases h1:gI a n < gI b n
    ·rw [if_pos h1,if_neg (by omega)];rfl
    ·rw [if_neg h1,if_pos (by omega)]
theorem Zly {a b:List Int} (ha:Can a) (hb:Can b) (h:∀j,gI a j=gI b j):a=b:=by
 have hl:a.length=b.length:=by
  have h1:=h (a.length - 1);have h2:=h (b.length - 1);rcases Nat.lt_trichotomy a.length b.length with hl | hl | hl
  ·rcases hb.2 with hb0 | hb0
   ·omega
   ·rw [←h2,Zbg (by omega)] at hb0;exact absurd rfl hb0
  ·exact hl
  ·rcases ha.2 with ha0 | ha0
   ·omega
   ·rw [h1,Zbg (by omega)] at ha0;exact absurd rfl ha0
 refine List.ext_getElem hl λj h1 h2=>?_;have:=h j
 rwa [Zfp h1,Zfp h2] at this
theorem ordM:Go.Pol.KO Can ltM where
 irr x h:=by obtain⟨k,h1,_⟩:=Zf1.1 h;omega
 tr x y z h g:=by
  obtain⟨k,h1,h2⟩:=Zf1.1 h;obtain⟨i,g1,g2⟩:=Zf1.1 g;rw [Zf1];rcases Nat.lt_trichotomy k i with h3 | h3 | h3
  ·exact⟨i,by rw [h2 i h3];exact g1,λj hj=>by rw [h2 j (by omega),g2 j hj]⟩
  ·subst h3;exact⟨k,by omega,λj hj=>by rw [h2 j hj,g2 j hj]⟩
  ·exact⟨k,by rw [←g2 k h3];exact h1,λj hj=>by rw [h2 j hj,g2 j (by omega)]⟩
 tri x y hx hy:=by
  rcases @Ze0 x y (max x.length y.length) with⟨_,h⟩ | h | h
  ·refine .inr (.inl (Zly hx hy λj=>?_));by_cases hj:j < max x.length y.length
   ·exact h j hj
   ·rw [Zbg (by omega),Zbg (by omega)]
  ·exact .inl h
  ·refine .inr (.inr ?_);unfold ltM;rw [Nat.max_comm,Zhk,h]
theorem Zde (F:Int→Int→Int) (h0:F 0 0=0) (a b:List Int) (j:Nat):gI (zipI F a b) j=F (gI a j) (gI b j):=by
 by_cases h:j < max a.length b.length
 ·rw [Zfp (by unfold zipI;simpa using h)];unfold zipI;simp only [List.getElem_map,List.getElem_range]
 ·rw [Zbg (by unfold zipI;simp only [List.length_map,List.length_range];omega),Zbg (by omega),Zbg (by omega),h0]
abbrev mulM (a b:List Int):List Int:=zipI (·+·) a b
theorem Zd1 (a b:List Int):(mulM a b).length=max a.length b.length:=by simp [mulM,zipI]
theorem mulK:Go.Pol.KM Can ltM mulM where
 comm x y:=by
  unfold mulM zipI;rw [Nat.max_comm];exact List.map_congr_left λi _=>Int.add_comm _ _
 dom x y hx hy:=by
  refine⟨λj=>by rw [Zde _ rfl];have:=hx.1 j;have:=hy.1 j;omega,?_⟩;rw [Zd1,Zde _ rfl];have a1:=hx.1 (max x.length y.length - 1);have b1:=hy.1 (max x.length y.length - 1);rcases Nat.le_total x.length y.length with h | h
  ·rw [Nat.max_eq_right h] at *;rcases hy.2 with h1 | h1
   ·exact .inl h1
   ·exact .inr (by omega)
  ·rw [Nat.max_eq_left h] at *;rcases hx.2 with h1 | h1
   ·exact .inl h1
   ·exact .inr (by omega)
 mono x y z _ _ _ h:=by
  obtain⟨k,h1,h2⟩:=Zf1.1 h;rw [Zf1];exact⟨k,by rw [Zde _ rfl,Zde _ rfl];omega,λj hj=>by rw [Zde _ rfl,Zde _ rfl,h2 j hj]⟩
def mvN (v:Nat→Rat) (m:List Int):Nat→Rat
 | 0=>1
 | n+1=>mvN v m n*v n ^ (gI m n).toNat
def mv (v:Nat→Rat) (m:List Int):Rat:=mvN v m m.length
end Go.Proofs.YtimmnimikmnljaaGreat
namespace Go.Pol
def evl {α:Type} (φ:α→Rat):List (Rat × α)→Rat
 | []=>0
 | t :: p=>t.1*φ t.2+evl φ p
section
variable {α:Type} {D:α→Prop} {lt:α→α→Prop} [DecidableRel lt]
end
section
variable {α:Type} {D:α→Prop} {lt:α→α→Prop}
def Zbe (a:Rat) (p:List (Rat × α)):List (Rat × α):=p.map λs=>(s.1*a,s.2)
theorem Zd8 {a:Rat} {p:List (Rat × α)} (hp:Srt D lt p) (h:a≠0):Srt D lt (Zbe a p):=by
 refine⟨λu hu=>?_,List.pairwise_map.2 hp.2⟩;obtain⟨s,hs,rfl⟩:=List.mem_map.1 hu;have:=hp.1 s hs;exact⟨by show s.1*a≠0;intro h0;rcases Rat.mul_eq_zero.1 h0 with h1 | h1;exact this.1 h1;exact h h1,this.2⟩
end
section
variable {α:Type} [DecidableEq α]
theorem Ztb (a:Rat) (p:List (Rat × α)) (x:α):cof (Zbe a p) x=cof p x*a:=by
 induction p with
 | nil=>show(0:Rat)=0*a;rw [Rat.zero_mul]
 | cons s p ih =>
   show(if s.2=x then s.1*a else 0)+cof (Zbe a p) x=((if s.2=x then s.1 else 0)+cof p x)*a;rw [ih];split<;>grind
end
section
variable {α:Type} {D:α→Prop} {lt:α→α→Prop} [DecidableEq α] [DecidableRel lt]
end
section
variable {α:Type} {lt:α→α→Prop} [DecidableRel lt]
end
section
variable {α:Type} {D:α→Prop} {lt:α→α→Prop} [DecidableRel lt]
def subP (lt:α→α→Prop) [DecidableRel lt] (p q:List (Rat × α)):List (Rat × α):=addP lt p (Zbe (-1) q)
theorem neg1:(-1:Rat)≠0:=by decide
theorem Znp (o:KO D lt) {p q:List (Rat × α)} (hp:Srt D lt p) (hq:Srt D lt q):Srt D lt (subP lt p q):=Zeo o hp (Zd8 hq neg1)
end
section
variable {α:Type} {D:α→Prop} {lt:α→α→Prop} [DecidableEq α] [DecidableRel lt]
theorem Zrk (o:KO D lt) {p q:List (Rat × α)} (hp:Srt D lt p) (hq:Srt D lt q) (x:α):cof (subP lt p q) x=cof p x - cof q x:=by
 unfold subP;rw [Zio o x hp.dom (Zd8 hq neg1).dom,Ztb]
 grind
end
section
variable {α:Type} {lt:α→α→Prop} [DecidableRel lt]
theorem Zhh {p q:List (Rat × α)} {t:Rat × α} (h:t∈addP lt p q):t∈p∨t∈q∨∃s∈p,∃u∈q,t=(s.1+u.1,s.2):=by
 fun_induction addP lt p q with
 | case1 q=>exact .inr (.inl h)
 | case2 s p=>exact .inl h
 | case3 s p u q h1 ih =>
   rcases List.mem_cons.1 h with rfl | h
   ·exact .inl (.head _)
   ·rcases ih h with h | h | ⟨a,ha,b,hb,e⟩
    ·exact .inl (.tail _ h)
    ·exact .inr (.inl h)
    ·exact .inr (.inr ⟨a,.tail _ ha,b,hb,e⟩)
 | case4 s p u q h1 h2 ih =>
   rcases List.mem_cons.1 h with rfl | h
   ·exact .inr (.inl (.head _))
   ·rcases ih h with h | h | ⟨a,ha,b,hb,e⟩
    ·exact .inl h
    ·exact .inr (.inl (.tail _ h))
    ·exact .inr (.inr ⟨a,ha,b,.tail _ hb,e⟩)
 | case5 s p u q h1 h2 h3 ih =>
   rcases ih h with h | h | ⟨a,ha,b,hb,e⟩
   ·exact .inl (.tail _ h)
   ·exact .inr (.inl (.tail _ h))
   ·exact .inr (.inr ⟨a,.tail _ ha,b,.tail _ hb,e⟩)
 | case6 s p u q h1 h2 h3 ih =>
   rcases List.mem_cons.1 h with rfl | h
   ·exact .inr (.inr ⟨s,.head _,u,.head _,rfl⟩)
   ·rcases ih h with h | h | ⟨a,ha,b,hb,e⟩
    ·exact .inl (.tail _ h)
    ·exact .inr (.inl (.tail _ h))
    ·exact .inr (.inr ⟨a,.tail _ ha,b,.tail _ hb,e⟩)
end
def BQ (D B:Nat) (q:Rat):Prop:=q.den ∣ D∧q.num.natAbs≤B*q.den
theorem Zpz {z:Int} {m:Nat} (hm:m≠0) {D B:Nat} (hd:m ∣ D*Nat.gcd z.natAbs m) (hb:z.natAbs≤B*m):BQ D B (mkRat z m):=by
 have h0:0 < Nat.gcd z.natAbs m:=Nat.gcd_pos_of_pos_right _ (Nat.pos_of_ne_zero hm);obtain⟨c,hc⟩:=Nat.gcd_dvd_right z.natAbs m;obtain⟨a,ha⟩:=Nat.gcd_dvd_left z.natAbs m;unfold BQ;rw [Rat.num_mkRat,Rat.den_mkRat,if_neg hm,Nat.gcd_comm m z.natAbs];generalize Nat.gcd z.natAbs m=g at *;have e1:m/g=c:=by rw [hc];exact Nat.mul_div_cancel_left _ h0
 have e2:(z/(g:Int)).natAbs=a:=by
  rcases Int.natAbs_eq z with h | h
  ·rw [h,ha,show((g*a:Nat):Int)=(g:Int)*(a:Int) from by simp,Int.mul_ediv_cancel_left _ (by omega)];simp
  ·rw [h,ha,show -((g*a:Nat):Int)=(g:Int)*(-(a:Int)) from by simp [Int.mul_neg],Int.mul_ediv_cancel_left _ (by omega)];simp
 rw [e1,if_neg hm,e2];constructor
 ·rw [hc,Nat.mul_comm D] at hd;exact Nat.dvd_of_mul_dvd_mul_left h0 hd
 ·rw [ha,hc,show B*(g*c)=g*(B*c) from by simp only [Nat.mul_left_comm]] at hb;exact Nat.le_of_mul_le_mul_left hb h0
theorem BQ.mono {D B E C:Nat} {q:Rat} (h:BQ D B q) (hd:D ∣ E) (hb:B≤C):BQ E C q:=⟨Nat.dvd_trans h.1 hd,Nat.le_trans h.2 (Nat.mul_le_mul_right _ hb)⟩
theorem BQ.mul {D B E C:Nat} {a b:Rat} (h:BQ D B a) (k:BQ E C b):BQ (D*E) (B*C) (a*b):=by
 rw [Rat.mul_def'];refine Zpz (Nat.mul_ne_zero a.den_nz b.den_nz) (Nat.dvd_trans (Nat.mul_dvd_mul h.1 k.1) (Nat.dvd_mul_right _ _)) ?_;rw [Int.natAbs_mul]
 calc _≤(B*a.den)*(C*b.den):=Nat.mul_le_mul h.2 k.2
  _=B*C*(a.den*b.den):=by simp only [Nat.mul_assoc,Nat.mul_left_comm]
theorem BQ.add {D B C:Nat} {a b:Rat} (h:BQ D B a) (k:BQ D C b):BQ D (B+C) (a+b):=by
 obtain⟨x,hx⟩:=h.1;obtain⟨y,hy⟩:=k.1;have e:a+b=mkRat (a.num*b.den+b.num*a.den) (a.den*b.den):=Rat.add_def' a b;rw [e];refine Zpz (Nat.mul_ne_zero a.den_nz b.den_nz) ?_ ?_
 ·
  rw [←Nat.gcd_mul_left];refine Nat.dvd_gcd ?_ (Nat.dvd_mul_left _ _)
  have e2:((D*(a.num*b.den+b.num*a.den).natAbs:Nat):Int)=((D:Int)*(a.num*b.den+b.num*a.den)).natAbs:=by
   rw [Int.natAbs_mul];simp
  have e3:D*(a.num*b.den+b.num*a.den).natAbs=((D:Int)*(a.num*b.den+b.num*a.den)).natAbs:=by omega
  rw [e3]
  have e4:(D:Int)*(a.num*b.den+b.num*a.den)=((a.den*b.den:Nat):Int)*(x*a.num+y*b.num):=by
   have h1:(D:Int)=a.den*x:=by rw [hx];simp
   have h2:(D:Int)=b.den*y:=by rw [hy];simp
   rw [Int.mul_add,Int.mul_add,show((a.den*b.den:Nat):Int)=(a.den:Int)*b.den from by simp];congr 1
   ·rw [h1];simp only [Int.mul_assoc,Int.mul_left_comm,Int.mul_comm]
   ·rw [h2];simp only [Int.mul_assoc,Int.mul_left_comm,Int.mul_comm]
  rw [e4,Int.natAbs_mul,Int.natAbs_natCast];exact Nat.dvd_mul_right _ _
 ·have h1:=h.2;have h2:=k.2
  calc _≤(a.num*b.den).natAbs+(b.num*a.den).natAbs:=by omega
   _=a.num.natAbs*b.den+b.num.natAbs*a.den:=by rw [Int.natAbs_mul,Int.natAbs_mul,Int.natAbs_natCast,Int.natAbs_natCast]
   _≤(B*a.den)*b.den+(C*b.den)*a.den:=Nat.add_le_add (Nat.mul_le_mul_right _ h1) (Nat.mul_le_mul_right _ h2)
   _=(B+C)*(a.den*b.den):=by rw [Nat.add_mul];simp only [Nat.mul_assoc,Nat.mul_comm b.den]
theorem BQ.neg {D B:Nat} {a:Rat} (h:BQ D B a):BQ D B (-a):=by
 refine⟨h.1,?_⟩;show(-a.num).natAbs≤B*a.den;rw [Int.natAbs_neg];exact h.2
theorem BQ.int (z:Int) {D B:Nat} (h:z.natAbs≤B):BQ D B (z:Rat):=⟨⟨D,(Nat.one_mul D).symm⟩,by show z.natAbs≤B*1;omega⟩
end Go.Pol
namespace Go.Proofs.YtimmnimikmnljaaGreat
open Go Go.RowKit Go.Pg
attribute [-bool_to_prop] Bool.and_eq_decide Bool.or_eq_decide Bool.decide_beq_decide decide_eq_decide
attribute [local go_sem] Tryz.underlying40 Tryz.underlying3 Tryz.underlying104 Tryz.underlying115 Tryz.underlying4 Tryz.underlying42 Tryz.underlying44 Tryz.underlying27 Tryz.underlying141 sz3 by3 z3 szL byL zL szB zB Zcp zNat Zcq zInt Zco zRat szShape zShape eqShape Tryz.underlying166
theorem intOf (n:Nat) (hn:n < 9223372036854775808):Pure Tryz.prog 129 [.v (.int .i64 (n:Int))] (intA false n):=by
 have l4:(toL n).length≤4:=Zah.2 (by omega);have hm:=Zh0 false n (by omega);rw [Zhz,Bool.false_and] at hm;refine Zaa (tok:=0) Tryz.func129 rfl Tryz.ntmps129 Tryz.results129 Tryz.call129 (by rfl) (by simp) ?_;(focus (refine wkvp w_t (w_2 (natOf n (by omega)) hm) ?_;(repeat' first|exact w_t|apply w_l);all_goals intros));simp (disch:=omega) only [go_sem]
theorem Zn0:Pure Tryz.prog 130 [] (lim (toL 1)):=by
 rw [toL_one];refine Zaa (tok:=0) Tryz.func130 rfl Tryz.ntmps130 Tryz.results130 Tryz.call130 (by rfl) (by simp) ?_;(focus (refine wkvp w_t w_t ?_;(repeat' first|exact w_t|apply w_l);all_goals intros));exact gC
theorem Zik (n:Nat):Pure Tryz.prog 124 [lim (toL n)] (intA false n):=by
 refine Zaa (tok:=0) Tryz.func124 rfl Tryz.ntmps124 Tryz.results124 Tryz.call124 (by rfl) (by simp) ?_;(focus (refine wkvp w_t w_t ?_;(repeat' first|exact w_t|apply w_l);all_goals intros));simp (disch:=omega) only [go_sem]
theorem Zpj (n:Nat) (hn:(toL n).length≤100000000):Pure Tryz.prog 86 [lim (toL n)] (.v (.bool (decide (n=1)))):=by
 by_cases h0:n=0
 ·subst h0;rw [Za4];refine Zaa (tok:=0) Tryz.func86 rfl Tryz.ntmps86 Tryz.results86 Tryz.call86 (by rfl) (by simp) ?_;(focus (refine wkvp w_t w_t ?_;(repeat' first|exact w_t|apply w_l);all_goals intros));simp (disch:=omega) only [go_sem,Bool.and_self]
 ·have hd:decide (n=1)=(((((toL (n/65536)).length+1:Nat):Int) == 1) && (((n%65536:Nat):Int) == 1)):=by
   have hp:=@Zbx (n/65536);rw [Bool.eq_iff_iff];simp only [decide_eq_true_eq,Bool.and_eq_true,beq_iff_eq];omega
  rw [Zep (by omega),hd];refine Zaa (tok:=0) Tryz.func86 rfl Tryz.ntmps86 Tryz.results86 Tryz.call86 (by rfl) (by simp) ?_;(focus (refine wkvp (w_1 @u16s_c) w_t ?_;(repeat' first|exact w_t|apply w_l);all_goals intros));simp (disch:=omega) only [go_sem]
theorem Zi3 (s:Bool) (n d:Nat) (h2:(toL d).length≤10000000) (h0:d≠0):Pure Tryz.prog 88 [ratA s n d] (.tup [intA s n,lim (toL d)]):=by
 have hb:Zl0 d≠0:=λe=>h0 (Zgm.1 e);refine Zaa (tok:=0) Tryz.func88 rfl Tryz.ntmps88 Tryz.results88 Tryz.call88 (by rfl) (by simp) ?_
 (repeat' (first|(with_reducible first|refine stp ?_|apply gx1|apply gx2|apply gx3|apply gx4|apply gx5|apply gx6|apply gx7|apply gy8|apply gz2|apply gz3|refine gw0 (Zsl d (by omega)) ?_ ?_|refine gw3 (Zsl d (by omega)) ?_ ?_ ?_)|(with_reducible refine Zbi ?_;intro _)|((with_reducible refine gE ?_);(try simp (disch:=omega) only [go_sem])<;>first|rfl|omega)|with_reducible refine Zaf (by decide) ?_|((with_reducible apply gy1);iterate 3 focus rfl)|((with_reducible apply gy2);iterate 3 focus rfl)|((with_reducible apply gy3);iterate 2 focus rfl)|((with_reducible apply gy4);iterate 1 focus rfl)|((with_reducible apply gy5);iterate 4 focus rfl)|((with_reducible apply gy5c);iterate 4 focus rfl)|((with_reducible apply gy6);iterate 4 focus rfl)|((with_reducible apply Zc0);iterate 3 focus rfl)|((with_reducible apply Zcx);iterate 1 focus rfl)|((with_reducible apply gy7);iterate 1 focus rfl)|((with_reducible apply gy9);(focus ((with_reducible refine gE ?_);(try simp (disch:=omega) only [go_sem])<;>rfl)))|((with_reducible apply gz1);(focus first|rfl|(simp (disch:=omega) only [go_sem];done)))|((with_reducible apply Za2 (Zce []) [] [2]);(focus kernel_rfl);(focus rfl);(focus kernel_rfl);(focus (simp only [List.length_cons,List.length_nil,Nat.reduceAdd];rfl)))))
 simp (disch:=omega) only [go_sem]
theorem Zhb (q:Rat) {k:Nat} (h:Sz q k) (hk:k≤10000000):Pure Tryz.prog 88 [ratQ q] (.tup [intZ q.num,lim (toL q.den)]) :=
 Zi3 _ _ _ (Nat.le_trans h.2 hk) q.den_nz
theorem Zgd (s:Bool) (n m:Nat) (hn:(toL n).length≤10000000) (hm:(toL m).length≤10000000) (h0:m≠0):Pure Tryz.prog 126 [intA s n,lim (toL m)] (ratQ (mkRat (zI s n) m)):=by
 have cn:=intNorm s n (by omega);have hz:=Zdm s n;rw [Zn1 _ _ h0];generalize zI s n=z at *;subst hz;have hmp:=Zbx.2 (Nat.pos_of_ne_zero h0);have g0:Nat.gcd z.natAbs m≠0:=Nat.ne_of_gt (Nat.gcd_pos_of_pos_right _ (by omega));have hg:(toL (Nat.gcd z.natAbs m)).length≤10000000:=Nat.le_trans (Zdv (Nat.le_of_dvd (by omega) (Nat.gcd_dvd_right _ _))) hm;have cg:=nGcd z.natAbs m (by omega) (by omega);have c1:=Zpj m (by omega);have c2:=Zpj (Nat.gcd z.natAbs m) (by omega);by_cases hz0:z.natAbs=0
 ·have hzz:z=0:=by omega
  subst hzz;have l0:(toL 0).length=0:=by rw [Za4];rfl
  have n0:Int.natAbs 0=0:=rfl;have hd:decide ((0:Int) < 0)=false:=rfl;have cn:Pure Tryz.prog 168 [intA s 0] (.agg [.v (.bool false),lim (toL 0)]):=cn;rw [n0] at hn ⊢;rw [Nat.gcd_zero_left,Nat.zero_div,Nat.div_self (by omega),hd];refine Zgg (r:=.agg [.v (.bool false),.v (.slice none 0 0),lim (toL 1)]) ?_ (.aggL (.cons (.refl _) (.cons ?_ (VkL.refl _))))
  ·refine Zaa (tok:=0) Tryz.func126 rfl Tryz.ntmps126 Tryz.results126 Tryz.call126 (by rfl) (by simp) ?_;(focus (refine wkvp (w_1 l0) (w_3 (Zoi m (by omega)) cn Zn0) ?_;(repeat' first|exact w_t|apply w_l);all_goals intros));simp (disch:=omega) only [go_sem]
  ·show Vk _ (.sl 1 (u16s (toL 0)));rw [Za4];exact .nil 1
 ·have hzp:=Zbx.2 (Nat.pos_of_ne_zero hz0);by_cases hm1:m=1
  ·subst hm1;rw [Nat.gcd_one_right,Nat.div_one,Nat.div_one];refine Zaa (tok:=0) Tryz.func126 rfl Tryz.ntmps126 Tryz.results126 Tryz.call126 (by rfl) (by simp) ?_;(focus (refine wkvp w_t (w_3 (Zoi 1 (by omega)) cn c1) ?_;(repeat' first|exact w_t|apply w_l);all_goals intros));simp (disch:=omega) only [go_sem]
  ·have d1:decide (m=1)=false:=decide_eq_false hm1;rw [d1] at c1;by_cases hg1:Nat.gcd z.natAbs m=1
   ·have d2:decide (Nat.gcd z.natAbs m=1)=true:=decide_eq_true hg1;rw [d2] at c2;rw [hg1,Nat.div_one,Nat.div_one];refine Zaa (tok:=0) Tryz.func126 rfl Tryz.ntmps126 Tryz.results126 Tryz.call126 (by rfl) (by simp) ?_;(focus (refine wkvp w_t (w_5 (Zoi m (by omega)) cn c1 cg c2) ?_;(repeat' first|exact w_t|apply w_l);all_goals intros));simp (disch:=omega) only [go_sem]
   ·have d2:decide (Nat.gcd z.natAbs m=1)=false:=decide_eq_false hg1;rw [d2] at c2;refine Zaa (tok:=0) Tryz.func126 rfl Tryz.ntmps126 Tryz.results126 Tryz.call126 (by rfl) (by simp) ?_;(focus (refine wkvd w_t (w_7 (Zoi m (by omega)) cn c1 cg c2 (Zsk z.natAbs (Nat.gcd z.natAbs m) (by omega) (by omega) g0) (Zsk m (Nat.gcd z.natAbs m) (by omega) (by omega) g0)) w_t ?_;(repeat' first|exact w_t|apply w_l);all_goals intros));simp (disch:=omega) only [go_sem]
theorem ratMake (z w:Int) (hz:(toL z.natAbs).length≤10000000) (hw:(toL w.natAbs).length≤10000000) (h0:w≠0):Pure Tryz.prog 122 [intZ z,intZ w] (.tup [ratQ (Rat.divInt z w),.v (.int .i64 0)]):=by
 have e:Rat.divInt z w=mkRat (zI (decide (z < 0) != decide (w < 0)) z.natAbs) w.natAbs:=by
  have ez:=Zcf z;unfold zI at ez ⊢;rcases (by omega:w < 0∨0 < w) with h | h
  ·rw [decide_eq_true h];have hw1:w=-((w.natAbs:Nat):Int):=by omega
   rw [show Rat.divInt z w=Rat.divInt z (-((w.natAbs:Nat):Int)) by rw [←hw1],Rat.divInt_neg',Rat.divInt_ofNat];congr 1;by_cases h1:z < 0
   ·simp only [decide_eq_true h1,bne_self_eq_false,Bool.false_eq_true,if_false];omega
   ·simp only [decide_eq_false h1,Bool.false_bne,if_true];omega
  ·rw [decide_eq_false (by omega:¬w < 0)];have hw1:w=((w.natAbs:Nat):Int):=by omega
   rw [show Rat.divInt z w=Rat.divInt z ((w.natAbs:Nat):Int) by rw [←hw1],Rat.divInt_ofNat];congr 1;by_cases h1:z < 0
   ·simp only [decide_eq_true h1,Bool.bne_false,if_true];omega
   ·simp only [decide_eq_false h1,bne_self_eq_false,Bool.false_eq_true,if_false];omega
 have c:=Zgd (decide (z < 0) != decide (w < 0)) z.natAbs w.natAbs hz hw (by omega);rw [←e] at c;have cs:=iSign w (by omega);have hs:w.sign≠0:=λh=>h0 (Int.sign_eq_zero_iff_zero.1 h);refine Zaa (tok:=0) Tryz.func122 rfl Tryz.ntmps122 Tryz.results122 Tryz.call122 (by rfl) (by simp) ?_;have hne (a b:Bool):(!(a == b))=(a != b):=rfl;(focus (refine wkvp (w_1 hne) (w_2 cs c) ?_;(repeat' first|exact w_t|apply w_l);all_goals intros));simp (disch:=omega) only [go_sem]
theorem Zi2 (q:Rat) {k:Nat} (h:Sz q k) (hk:k≤10000000):Pure Tryz.prog 42 [ratQ q] (.v (.int .i64 q.num.sign)):=by
 have h1:=h.1;refine Zaa (tok:=0) Tryz.func42 rfl Tryz.ntmps42 Tryz.results42 Tryz.call42 (by rfl) (by simp) ?_;(focus (refine wkvp w_t (w_2 (Zhb q h hk) (iSign q.num (by omega))) ?_;(repeat' first|exact w_t|apply w_l);all_goals intros));simp (disch:=omega) only [go_sem]
theorem Zrz (s t:Bool) (n m:Nat) (hn:(toL n).length≤100000000) (hm:(toL m).length≤100000000):Pure Tryz.prog 127 [.sl 2 [intA s n,intA t m]] (intZ (zI s n+zI t m)):=by
 have cz:=iAdd0 s n hn;have ca:=iAddA (zI s n) t m (by rw [Zdm];exact hn) hm;generalize zI s n=z at *;generalize zI t m=w at *;refine Zaa (tok:=0) Tryz.func127 rfl Tryz.ntmps127 Tryz.results127 Tryz.call127 (by rfl) (by simp) ?_;(focus (refine wkvp w_t w_t ?_;(repeat' first|exact w_t|apply w_l);all_goals intros));refine Zal (ι:=Nat) (λk e mm=>k≤2∧e 6=.sl 2 [intA s n,intA t m]∧e 7=.v (.int .i64 2)∧e 8=.v (.int .i64 (k:Int))∧∃g2 g,e 2=.pbox 2 g2 0∧mm 2=some (.box g2 42 [.v (.bool false),.v (.slice none 0 0)] false)∧e 3=.pbox 3 g 0∧mm 3=some (.box g 42 (sumC z w k) false)) (λk=>2 - k) 0 (by rfl) ?_ ?_
 ·rintro k e mm ⟨hk,e6,e7,e8,g2,g,e2,m2,e3,m3⟩
  match k,hk with
  | 0,_ =>
    simp only [sumC] at m3;(focus (refine wkvp (w_8 e6 e7 e8 e2 m2 e3 m3 @Int.natCast_zero) (w_1 cz) ?_;(repeat' first|exact w_t|apply w_l);all_goals intros));exact⟨1,⟨by omega,by exact gW e6,by exact gW e7,by exact gW e8,g2,g,by exact gW e2,by exact gW m2,by exact gW e3,by(simp (disch:=omega) only [go_sem,m3,sumC]<;>repeat' first|rfl|refine⟨?_,?_⟩)⟩,by omega⟩
  | 1,_ =>
    simp only [sumC] at m3;(focus (refine wkvp (w_8 e6 e7 e8 e2 m2 e3 m3 @Int.natCast_one) (w_1 ca) ?_;(repeat' first|exact w_t|apply w_l);all_goals intros));exact⟨2,⟨by omega,by exact gW e6,by exact gW e7,by exact gW e8,g2,g,by exact gW e2,by exact gW m2,by exact gW e3,by(simp (disch:=omega) only [go_sem,m3,sumC]<;>repeat' first|rfl|refine⟨?_,?_⟩)⟩,by omega⟩
  | 2,_ =>
    simp only [sumC] at m3;(focus (refine wkvp (w_7 e6 e7 e8 e2 m2 e3 m3) w_t ?_;(repeat' first|exact w_t|apply w_l);all_goals intros));simp (disch:=omega) only [go_sem,e2]
 ·exact⟨by omega,by exact gC,by exact gC,by exact gC,_,_,by exact gC,by exact gC,by exact gC,by(simp (disch:=omega) only [go_sem,sumC]<;>repeat' first|rfl|refine⟨?_,?_⟩)⟩
theorem ratSum (z w:Int) (hz:(toL z.natAbs).length≤100000000) (hw:(toL w.natAbs).length≤100000000):Pure Tryz.prog 127 [.sl 2 [intZ z,intZ w]] (intZ (z+w)):=by
 have:=Zrz (decide (z < 0)) (decide (w < 0)) z.natAbs w.natAbs hz hw
 rwa [Zcf,Zcf] at this
end Go.Proofs.YtimmnimikmnljaaGreat
