/- Contracts of the functions that the law reaches, and the rules by which they are walked. They say what a call hands back for every input within the bounds that each names; no other condition. -/
import Derived.Test.YtpkcophcldjboaaGreatDoorBf2
import Derived.Laws.RangeString
import Derived.Lib.OthersKept
import Derived.Laws.Strings
set_option linter.unusedSimpArgs false
set_option linter.unusedVariables false
set_option maxRecDepth 20000
set_option maxHeartbeats 16000000
namespace Go.Proofs.YtpkcophcldjboaaGreatDoor
open Go Go.RowKit Go.Pg Go.Proofs.Tryz
attribute [-bool_to_prop] Bool.and_eq_decide Bool.or_eq_decide Bool.decide_beq_decide decide_eq_decide
attribute [local go_sem] underlying50 underlying3 underlying128 underlying198 underlying160 underlying21 underlying5 sz3 by3 z3 szL byL zL
theorem natRight (a:List Nat) (n:Nat) (ha:a.length≤1000000000) (la:Lm a) (hn:n≤1048576):Pure prog 246 [lim a,.v (.int .i64 (n:Int))] (lim (toL (nv a/2 ^ n))):=by
 have hns:n=16*(n/16)+n%16:=by omega
 have q1:(n:Int).tdiv 16=((n/16:Nat):Int):=Zdp n 16;have q2:(n:Int).tmod 16=((n%16:Nat):Int):=Zfg n 16;have hs:n%16 < 16:=Nat.mod_lt _ (by omega);rw [hns,Zuj,Zxf la,←hns];generalize n/16=l at *;generalize n%16=s at *;by_cases hl:a.length≤l
 ·have hz:toL (nv (a.drop l)/2 ^ s)=[]:=by rw [List.drop_eq_nil_of_le hl];simp [nv,Zaw]
  rw [slN hz];refine Pure.wk (r:=.v (.slice none 0 0)) ?_ (.nil 1);refine Zaa (tok:=0) (rs:=[.tmp 4]) func246 rfl ntmps246 results246 call246 (by rfl) (by simp) ?_;(focus (refine wkvp (w_2 q1 q2) w_t ?_;(repeat' first|exact w_t|apply w_l);all_goals intros));simp (disch:=omega) only [go_sem]
 ·have hc:(a.length:Int) - (l:Int)=((a.length - l:Nat):Int):=by omega
  refine Zaa (tok:=0) (rs:=[.tmp 4]) func246 rfl ntmps246 results246 call246 (by rfl) (by simp) ?_;(focus (refine wkvp (w_3 q1 q2 hc) w_t ?_;(repeat' first|exact w_t|apply w_l);all_goals intros));refine Zae (ι:=Nat) (λk e m=>k≤a.length - l∧(e 0=lim a∧e 5=.v (.int .i64 (l:Int))∧e 6=.v (.int .i64 (s:Int))∧e 24=.v (.int .i64 (a.length - l:Nat))∧e 25=.v (.int .i64 (k:Int)))∧∃sv o,(e 7=.own 22 sv∧m 22=some (.row sv 128 1 (u16s o) 0))∧o.length=a.length - l∧Lm o∧nv (o.take k)=(nv (a.drop l)/2 ^ s)%65536 ^ k) (λk=>a.length - l - k) 0 (by rfl) ?_ ?_
  ·rintro k e m ⟨hk,⟨e0,e5,e6,e24,e25⟩,sv,o,⟨e7,em⟩,hol,hLo,hv⟩
   by_cases hlt:k < a.length - l
   ·have ga:=Zbv la (k+l);have gb:=Zbv la (k+l+1)
    have hd:((gN a (k+l)+65536*gN a (k+l+1))/2 ^ s)%65536=(nv (a.drop l)/65536 ^ k/2 ^ s)%65536:=by
     rw [Zxf (la.drop l),List.drop_drop,Zbw,Zbw a (l+k+1),shr_dig (by omega),Nat.add_comm l k]
    have hst:=shr_step hv hd;have w0:((gN a (k+l)+65536*gN a (k+l+1))/2 ^ s)%65536 < 65536:=Nat.mod_lt _ (by omega);have sh:=λx=>shr_32 (x:=x) (s:=s) (by omega);by_cases hmore:k+l+1 < a.length
    ·(repeat' (first|(with_reducible first|refine stp ?_|apply gx1|apply gx2|apply gx3|apply gx4|apply gx5|apply gx6|apply gx7)|(with_reducible refine Zcb ?_;intro _)|((with_reducible refine gE ?_);(try simp (disch:=omega) only [go_sem,e0,e5,e6,e24,e25,e7,em,hol,Za0,Zbq,Zbf,or16_32',sh])<;>first|rfl|omega)|with_reducible refine Zaj (by decide) ?_))
     exact⟨k+1,⟨by omega,by exact gV (And.intro e0 (And.intro e5 (And.intro e6 (And.intro e24 e25)))),sv,_,⟨by exact gW e7,by exact gC⟩,by simpa using hol,hLo.set _ w0,by rw [Zc3 (by omega)];exact hst⟩,by omega⟩
    ·have g0:gN a (k+l+1)=0:=Zfb (by omega);simp only [g0,Nat.mul_zero,Nat.add_zero] at hst w0;(focus (refine wkvp (w_12 e0 e5 e6 e24 e25 e7 em hol @Za0 @Zbq @Zbf sh) w_t ?_;(repeat' first|exact w_t|apply w_l);all_goals intros));exact⟨k+1,⟨by omega,by exact gV (And.intro e0 (And.intro e5 (And.intro e6 (And.intro e24 e25)))),sv,_,⟨by exact gW e7,by exact gC⟩,by simpa using hol,hLo.set _ w0,by rw [Zc3 (by omega)];exact hst⟩,by omega⟩
   ·rw [Zbo (by omega)] at hv;have h5:=Zhq (la.drop l);rw [List.length_drop] at h5;have hk2:k=a.length - l:=by omega
    rw [Nat.mod_eq_of_lt (Nat.lt_of_le_of_lt (Nat.div_le_self _ _) (by rw [hk2];exact h5))] at hv;(focus (refine wkax (w_8 e0 e5 e6 e24 e25 e7 em hol) w_t w_t (w_1 (Za1 o (by omega) hLo)) w_t w_t w_y (w_r 0) ?_;(repeat' first|exact w_t|apply w_l);all_goals intros));simp (disch:=omega) only [go_sem,hv]
  ·exact⟨Nat.zero_le _,by exact gC,_,List.replicate (a.length - l) 0,⟨by exact gC,by exact gC⟩,by simp,Lm.zeros _,by simp [nv,Nat.mod_one]⟩
theorem Zum (σ:Mem) (K:Nat) (sv:Value) (l:List Nat) (hs:l.length≤1000000000) (hl:Lm l) (hσ:σ K=some (.row sv 128 1 (u16s l) 0)) :
 ACall prog 209 [.own K sv] σ λr σ'=>r=.view K sv 1 0 (toL (nv l)).length∧σ'=σ:=by
 refine Zbu (tok:=0) (rs:=[.tmp 2]) func209 rfl ntmps209 results209 call209 (by rfl) (by simp) ?_;(focus (refine wkvp (w_1 hσ) w_t ?_;(repeat' first|exact w_t|apply w_l);all_goals intros));refine Zae (ι:=Nat) (λk e m=>k≤l.length∧e 0=.own K sv∧e 3=.v (.int .i64 (k:Int))∧m=σ∧∀j,k≤j→gN l j=0) (λk=>k) l.length (by rfl) ?_ ?_
 ·rintro k e m ⟨hk,e0,e3,rfl,hz⟩
  have gl:=Zbv hl (k - 1);have fin:(k=0∨0 < gN l (k - 1))→k=(toL (nv l)).length:=λh=>by
   rw [←Zks hl hk hz h,List.length_take,Nat.min_eq_left hk]
  by_cases h0:k=0
  ·subst h0;have f:=fin (.inl rfl);(focus (refine wkvp (w_3 e0 e3 hσ) w_t ?_;(repeat' first|exact w_t|apply w_l);all_goals intros));simp (disch:=omega) only [go_sem,←f]
  ·by_cases h1:gN l (k - 1)=0
   ·(focus (refine wkvp (w_3 e0 e3 hσ) w_t ?_;(repeat' first|exact w_t|apply w_l);all_goals intros));exact⟨k - 1,⟨by omega,by exact gW e0,by(simp (disch:=omega) only [go_sem,e3];congr 2;omega),rfl,λj hj=>by
     rcases Nat.lt_or_ge j k with h2 | h2
     ·rw [show j=k - 1 by omega];exact h1
     ·exact hz j h2⟩,by omega⟩
   ·have f:=fin (.inr (by omega));(focus (refine wkvp (w_3 e0 e3 hσ) w_t ?_;(repeat' first|exact w_t|apply w_l);all_goals intros));simp (disch:=omega) only [go_sem,←f,Nat.sub_zero]
 ·exact⟨Nat.le_refl _,by exact gC,by exact gC,rfl,λj hj=>Zfb hj⟩
theorem Zou (σ:Mem) (a:List Nat) (n:Nat) (ha:a.length≤400000000) (la:Lm a) (hn:n≤1048576) (h0:nv a≠0) :
 ACall prog 215 [lim a,.v (.int .i64 (n:Int))] σ λr σ'=>∃sv o,r=.view 44 sv 1 0 (toL (nv a*2 ^ n)).length∧σ'=upd σ 44 (some (.row sv 128 1 (u16s o) 0))∧o.length=(toL (nv a)).length+n/16+1∧Lm o∧nv o=nv a*2 ^ n:=by
 have hns:n=16*(n/16)+n%16:=by omega
 have q1:(n:Int).tdiv 16=((n/16:Nat):Int):=Zdp n 16;have q2:(n:Int).tmod 16=((n%16:Nat):Int):=Zfg n 16;have hs:n%16 < 16:=Nat.mod_lt _ (by omega)
 have hnv:nv a*2 ^ n=nv a*2 ^ (n%16)*65536 ^ (n/16):=by
  have:=Zui (a:=nv a) (l:=n/16) (s:=n%16)
  rwa [←hns] at this
 have h1:=Zar la;have h2:=(Zd6 h0).1;have va:=Zao (nv a);have ma:=Zap (nv a);have h16:n/16≤65536:=by omega
 clear hns;generalize hl:n/16=l at *;generalize hss:n%16=s at *;generalize hA:toL (nv a)=A at *;refine Zbu (tok:=0) (rs:=[.tmp 4]) func215 rfl ntmps215 results215 call215 (by rfl) (by simp) ?_;(focus (refine wkvp (w_5 q1 q2 hA @Za0 @Zbq) (w_1 (Za1 a (by omega) la)) ?_;(repeat' first|exact w_t|apply w_l);all_goals intros));rw [hA];have e1:((A.length+l:Nat):Int)+3=((A.length+l+3:Nat):Int):=by omega
 (focus (refine wkvp (w_4 hA @Za0 @Zbq e1) w_t ?_;(repeat' first|exact w_t|apply w_l);all_goals intros));refine Zae (ι:=Nat) (λk e m=>k≤A.length∧(e 5=.v (.int .i64 (l:Int))∧e 6=.v (.int .i64 (s:Int))∧e 45=lim A∧e 46=.v (.int .i64 A.length)∧e 47=.v (.int .i64 (k:Int)))∧∃sv o,(e 7=.own 44 sv∧m=upd σ 44 (some (.row sv 128 1 (u16s o) 0)))∧o.length=A.length+l+1∧Lm o∧gN o (k+l) < 2 ^ s∧(∀j,k+l < j→gN o j=0)∧nv o=nv (A.take k)*2 ^ s*65536 ^ l) (λk=>A.length - k) 0 (by rfl) ?_ ?_
 ·rintro k e m ⟨hk,⟨e5,e6,e45,e46,e47⟩,sv,o,⟨e7,rfl⟩,hol,hLo,hg,hz,hv⟩
  by_cases hlt:k < A.length
  ·have gx:=Zbv ma k
   have p16:(2:Nat) ^ s≤32768:=by
    have:(2:Nat) ^ s≤2 ^ 15:=Nat.pow_le_pow_right (by omega) (by omega);omega
   have bx:gN A k*2 ^ s≤65535*32768:=Nat.mul_le_mul (by omega) p16;have sh:=shl_32 (x:=gN A k) (s:=s) (by omega) (by omega);have lo:=low_mul (x:=gN A k) (s:=s) (by omega);have hlo:(gN A k*2 ^ s)%65536 < 65536:=Nat.mod_lt _ (by omega);rw [lo] at hlo;have hor:=or_16 (b:=gN o (k+l)) (by omega) hg hlo;rw [←lo] at hor
   have hhi:gN A k*2 ^ s/65536 < 2 ^ s:=by
    rw [Nat.div_lt_iff_lt_mul (by omega),Nat.mul_comm];exact Nat.mul_lt_mul_of_pos_left gx (Nat.two_pow_pos s)
   have hsum:gN o (k+l)+(gN A k*2 ^ s)%65536 < 65536:=by
    rw [lo];have h5:(gN A k%2 ^ (16 - s)+1)*2 ^ s≤2 ^ (16 - s)*2 ^ s:=Nat.mul_le_mul_right _ (Nat.mod_lt _ (Nat.two_pow_pos _));rw [←Nat.pow_add,Nat.sub_add_cancel (by omega),Nat.add_mul,Nat.one_mul] at h5;omega
   have hcut:gN A k*2 ^ s/65536%65536=gN A k*2 ^ s/65536:=Nat.mod_eq_of_lt (by omega);(focus (refine wkvp (w_14 e5 e6 e45 e46 e47 e7 hol @Za0 @Zbq @Zbf sh hor hcut @l_set) w_t ?_;(repeat' first|exact w_t|apply w_l);all_goals intros));refine⟨k+1,⟨by omega,by exact gV (And.intro e5 (And.intro e6 (And.intro e45 (And.intro e46 e47)))),sv,_,⟨by exact gW e7,by(simp (disch:=omega) only [go_sem,Zhy]<;>repeat' first|rfl|refine⟨?_,?_⟩)⟩,by simpa using hol,(hLo.set _ hsum).set _ (by omega),?_,λj hj=>?_,?_⟩,by omega⟩
   ·rw [Zfy (by simp;omega),if_pos (by omega)];exact hhi
   ·rw [Zfy (by simp;omega),if_neg (by omega),Zfy (by omega),if_neg (by omega)];exact hz j (by omega)
   ·have h3:=Zos (o:=o) (j:=k+l) (by omega) (gN o (k+l)+(gN A k*2 ^ s)%65536);have h4:=Zos (o:=o.set (k+l) (gN o (k+l)+(gN A k*2 ^ s)%65536)) (j:=k+l+1) (by simp;omega) (gN A k*2 ^ s/65536);rw [Zfy (by omega),if_neg (by omega),hz (k+l+1) (by omega),Nat.mul_zero,Nat.add_zero] at h4;rw [h4,Zav,Nat.add_mul,Nat.add_mul,←hv]
    have h5:65536 ^ (k+l)*(gN A k*2 ^ s%65536)+65536 ^ (k+l+1)*(gN A k*2 ^ s/65536)=65536 ^ k*gN A k*2 ^ s*65536 ^ l:=by
     rw [Nat.pow_succ,Nat.mul_assoc (65536 ^ (k+l)),←Nat.mul_add,Nat.mod_add_div,Nat.pow_add];simp only [Nat.mul_assoc,Nat.mul_left_comm,Nat.mul_comm]
    rw [Nat.mul_add] at h3;omega
  ·have hkA:k=A.length:=by omega
   subst hkA;rw [Zbo (Nat.le_refl _),va,←hnv] at hv;have ct:=Zum (upd σ 44 (some (.row sv 128 1 (u16s o) 0))) 44 sv o (by omega) hLo (by simp only [Zam,if_true]);rw [hv] at ct
   (repeat' (first|(with_reducible first|refine stp ?_|apply gx1|apply gx2|apply gx3|apply gx4|apply gx5|apply gx6|apply gx7|refine Zgw (ct) ?_)|(with_reducible refine Zcb ?_;intro _)|((with_reducible refine gE ?_);(try simp (disch:=omega) only [go_sem,e5,e6,e45,e46,e47,e7])<;>first|rfl|omega)|with_reducible refine Zaj (by decide) ?_))
   simp (disch:=omega) only [go_sem];exact⟨sv,o,rfl,rfl,hol,hLo,hv⟩
 ·refine⟨Nat.zero_le _,by exact gC,_,List.replicate (A.length+l+1) 0,⟨by exact gC,by exact gC⟩,by simp,Lm.zeros _,?_,λj _=>Zhh _ _,by simp [nv,Zmz]⟩;rw [Zhh];exact Nat.two_pow_pos s
theorem natShl (a:List Nat) (n:Nat) (ha:a.length≤400000000) (la:Lm a) (hn:n≤1048576):Pure prog 215 [lim a,.v (.int .i64 (n:Int))] (lim (toL (nv a*2 ^ n))):=by
 by_cases h0:nv a=0
 ·have h2:=Zbl.2 h0;rw [slN (show toL (nv a*2 ^ n)=[] by rw [h0,Nat.zero_mul,Zaw])];refine Pure.wk (r:=.v (.slice none 0 0)) ?_ (.nil 1);refine Zaa (tok:=0) (rs:=[.tmp 4]) func215 rfl ntmps215 results215 call215 (by rfl) (by simp) ?_;(focus (refine wkvp (w_1 h2) (w_1 (Za1 a (by omega) la)) ?_;(repeat' first|exact w_t|apply w_l);all_goals intros));simp (disch:=omega) only [go_sem]
 ·refine Zmv (Zou Zag a n ha la hn h0) λr σ' ⟨sv,o,hr,hσ,hol,hLo,hv⟩=>?_;subst hr;subst hσ;have hlen:=Zar hLo;rw [hv] at hlen;refine⟨by simp (disch:=omega) only [go_sem],?_⟩;simp (disch:=omega) only [go_sem,Nat.zero_add];obtain⟨k,h1,h2⟩:=Zmd hLo;rw [hv] at h2;have h3:k=(toL (nv a*2 ^ n)).length:=by rw [←h2,List.length_take];omega
  rw [←h3,h2]
theorem natShr (a:List Nat) (n:Nat) (ha:a.length≤400000000) (la:Lm a) (h0:0 < n) (hn:n≤1048576):Pure prog 215 [lim a,.v (.int .i64 (-(n:Int)))] (lim (toL (nv a/2 ^ n))):=by
 by_cases hz:nv a=0
 ·have h2:=Zbl.2 hz;rw [slN (show toL (nv a/2 ^ n)=[] by rw [hz,Nat.zero_div,Zaw])];refine Pure.wk (r:=.v (.slice none 0 0)) ?_ (.nil 1);refine Zaa (tok:=0) (rs:=[.tmp 4]) func215 rfl ntmps215 results215 call215 (by rfl) (by simp) ?_;(focus (refine wkvp (w_1 h2) (w_1 (Za1 a (by omega) la)) ?_;(repeat' first|exact w_t|apply w_l);all_goals intros));simp (disch:=omega) only [go_sem]
 ·have h2:=(Zd6 hz).1;have h1:=Zar la;have hr:=natRight (toL (nv a)) n (by omega) (Zap _) hn;rw [Zao] at hr;have w:(0:Int) - -(n:Int)=(n:Int):=by omega
  refine Zaa (tok:=0) (rs:=[.tmp 4]) func215 rfl ntmps215 results215 call215 (by rfl) (by simp) ?_;(focus (refine wkvp (w_1 w) (w_2 (Za1 a (by omega) la) hr) ?_;(repeat' first|exact w_t|apply w_l);all_goals intros));simp (disch:=omega) only [go_sem]
theorem Zqr (σ:Mem) (K:Nat) (sv:Value) (pre w post v:List Nat) (d:Nat) (hσ:σ K=some (.row sv 128 1 (u16s (pre++(w++post))) 0)) (hwv:w.length=v.length+1) (hsz:(pre++(w++post)).length≤1000000000) (lw:Lm w) (lv:Lm v) (hd:d < 65536) :
 ACall prog 248 [.view K sv 1 pre.length w.length,lim v,.v (.int .u32 (d:Int))] σ λr σ'=>∃(w':List Nat) (b:Nat),r=.v (.bool (decide (0 < (b:Int))))∧σ'=upd σ K (some (.row sv 128 1 (u16s (pre++(w'++post))) 0))∧w'.length=w.length∧Lm w'∧b≤1∧nv w'+d*nv v=nv w+65536 ^ w.length*b:=by
 have hsz2:pre.length+(w.length+post.length)≤1000000000:=by simpa using hsz
 refine Zbu (tok:=0) (rs:=[.tmp 6]) func248 rfl ntmps248 results248 call248 (by rfl) (by simp) ?_;(focus (refine wkvp w_t w_t ?_;(repeat' first|exact w_t|apply w_l);all_goals intros));refine Zae (ι:=Nat) (λk e m=>k≤w.length∧(e 0=.view K sv 1 pre.length w.length∧e 1=lim v∧e 2=.v (.int .u32 (d:Int))∧e 12=.v (.int .i64 w.length)∧e 13=.v (.int .i64 (k:Int)))∧∃w' c r,(e 7=.v (.int .u32 (c:Nat))∧e 8=.v (.int .i32 (r:Nat))∧m=upd σ K (some (.row sv 128 1 (u16s (pre++(w'++post))) 0)))∧w'.length=w.length∧Lm w'∧c < 65536∧(v.length < k→c=0)∧r≤1∧(∀j,k≤j→gN w' j=gN w j)∧nv (w'.take k)+d*nv (v.take k)=nv (w.take k)+65536 ^ k*(c+r)) (λk=>w.length - k) 0 (by rfl) ?_ ?_
 ·rintro k e m ⟨hk,⟨e0,e1,e2,e12,e13⟩,w',c,r,⟨e7,e8,rfl⟩,hwl,hLw,hc,hcz,hr,hsame,hv⟩
  by_cases hlt:k < w.length
  ·have gw:=Zbv lw k;have gv:=Zbv lv k;have hgw:=hsame k (Nat.le_refl _);have mid:=gN_mid (pre:=pre) (post:=post) (show k < w'.length by omega);have smid:=λx=>Zv9 (pre:=pre) (post:=post) (show k < w'.length by omega) x;have hln:(pre++(w'++post)).length=pre.length+(w'.length+post.length):=by simp
   have bd:=Zoy hd gv;have step:∀(x r' c1:Nat),c1=c+d*gN v k→x+c1%65536+r=gN w k+65536*r'→x < 65536→r'≤1 →
    (w'.set k x).length=w.length∧Lm (w'.set k x)∧c1/65536 < 65536∧(v.length < k+1→c1/65536=0)∧r'≤1∧(∀j,k+1≤j→gN (w'.set k x) j=gN w j)∧nv ((w'.set k x).take (k+1))+d*nv (v.take (k+1))=nv (w.take (k+1))+65536 ^ (k+1)*(c1/65536+r'):=by
    intro x r' c1 h1 h2 h3 h4;have h5:=Zp0 hv h1 h2;refine⟨by simpa using hwl,hLw.set k h3,by omega,λh6=>?_,h4,λj hj=>?_,?_⟩
    ·have:gN v k=0:=Zfb (by omega);rw [this,Nat.mul_zero] at h1;omega
    ·rw [Zfy (by omega),if_neg (by omega)];exact hsame j (by omega)
    ·rw [Zc3 (by omega),Zav,Zav,Nat.pow_succ];exact h5
   by_cases hkv:k < v.length
   ·generalize hxy:d*gN v k=xy at *;by_cases hneg:gN w k < (c+xy)%65536+r
    ·have hs:=step (gN w k+65536 - (c+xy)%65536 - r) 1 (c+xy) rfl (by omega) (by omega) (by omega);have wv:(gN w k:Int) - ((c+xy)%65536:Nat) - r+65536=((gN w k+65536 - (c+xy)%65536 - r:Nat):Int):=by omega
     have wm:(gN w k+65536 - (c+xy)%65536 - r)%65536=gN w k+65536 - (c+xy)%65536 - r:=Nat.mod_eq_of_lt (by omega);(focus (refine wkvp (w_18 e0 e1 e2 e12 e13 e7 e8 hln hwl mid smid hgw @Za0 @Zeu @Zbf hxy wv wm) w_t ?_;(repeat' first|exact w_t|apply w_l);all_goals intros));exact⟨k+1,⟨by omega,by exact gV (And.intro e0 (And.intro e1 (And.intro e2 (And.intro e12 e13)))),_,_,1,⟨by exact gC,by exact gC,by(simp (disch:=omega) only [go_sem,Zhy]<;>repeat' first|rfl|refine⟨?_,?_⟩)⟩,hs⟩,by omega⟩
    ·have hs:=step (gN w k - (c+xy)%65536 - r) 0 (c+xy) rfl (by omega) (by omega) (by omega);have wv:(gN w k:Int) - ((c+xy)%65536:Nat) - r=((gN w k - (c+xy)%65536 - r:Nat):Int):=by omega
     have wm:(gN w k - (c+xy)%65536 - r)%65536=gN w k - (c+xy)%65536 - r:=Nat.mod_eq_of_lt (by omega);(focus (refine wkvp (w_18 e0 e1 e2 e12 e13 e7 e8 hln hwl mid smid hgw @Za0 @Zeu @Zbf hxy wv wm) w_t ?_;(repeat' first|exact w_t|apply w_l);all_goals intros));exact⟨k+1,⟨by omega,by exact gV (And.intro e0 (And.intro e1 (And.intro e2 (And.intro e12 e13)))),_,_,0,⟨by exact gC,by exact gC,by(simp (disch:=omega) only [go_sem,Zhy]<;>repeat' first|rfl|refine⟨?_,?_⟩)⟩,hs⟩,by omega⟩
   ·have g0:gN v k=0:=Zfb (by omega);have hcm:c%65536=c:=Nat.mod_eq_of_lt hc;simp only [g0,Nat.mul_zero,Nat.add_zero] at step;by_cases hneg:gN w k < c+r
    ·have hs:=step (gN w k+65536 - c - r) 1 c rfl (by omega) (by omega) (by omega);have wv:(gN w k:Int) - (c:Nat) - r+65536=((gN w k+65536 - c - r:Nat):Int):=by omega
     have wm:(gN w k+65536 - c - r)%65536=gN w k+65536 - c - r:=Nat.mod_eq_of_lt (by omega);(focus (refine wkvp (w_16 e0 e1 e2 e12 e13 e7 e8 hln hwl mid smid hgw @Zbf hcm wv wm) w_t ?_;(repeat' first|exact w_t|apply w_l);all_goals intros));exact⟨k+1,⟨by omega,by exact gV (And.intro e0 (And.intro e1 (And.intro e2 (And.intro e12 e13)))),_,_,1,⟨by exact gC,by exact gC,by(simp (disch:=omega) only [go_sem,Zhy]<;>repeat' first|rfl|refine⟨?_,?_⟩)⟩,hs⟩,by omega⟩
    ·have hs:=step (gN w k - c - r) 0 c rfl (by omega) (by omega) (by omega);have wv:(gN w k:Int) - (c:Nat) - r=((gN w k - c - r:Nat):Int):=by omega
     have wm:(gN w k - c - r)%65536=gN w k - c - r:=Nat.mod_eq_of_lt (by omega);(focus (refine wkvp (w_16 e0 e1 e2 e12 e13 e7 e8 hln hwl mid smid hgw @Zbf hcm wv wm) w_t ?_;(repeat' first|exact w_t|apply w_l);all_goals intros));exact⟨k+1,⟨by omega,by exact gV (And.intro e0 (And.intro e1 (And.intro e2 (And.intro e12 e13)))),_,_,0,⟨by exact gC,by exact gC,by(simp (disch:=omega) only [go_sem,Zhy]<;>repeat' first|rfl|refine⟨?_,?_⟩)⟩,hs⟩,by omega⟩
  ·have hkw:k=w.length:=by omega
   subst hkw;have hc0:=hcz (by omega);subst hc0;rw [Zbo (by omega),Zbo (by omega),Zbo (Nat.le_refl _),Nat.zero_add] at hv;(focus (refine wkvp (w_7 e0 e1 e2 e12 e13 e7 e8) w_t ?_;(repeat' first|exact w_t|apply w_l);all_goals intros));simp (disch:=omega) only [go_sem];refine⟨w',r,?_,?_,hwl,hLw,hr,hv⟩<;>rfl
 ·exact⟨Nat.zero_le _,by exact gC,w,0,0,⟨by exact gC,by exact gC,by rw [Zrr hσ]⟩,rfl,lw,by omega,λ_=>rfl,by omega,λ_ _=>rfl,by simp [nv]⟩
theorem Zun (σ:Mem) (K:Nat) (sv:Value) (pre w post v:List Nat) (hσ:σ K=some (.row sv 128 1 (u16s (pre++(w++post))) 0)) (hwv:v.length≤w.length) (hsz:(pre++(w++post)).length≤1000000000) (lw:Lm w) (lv:Lm v) :
 ACall prog 249 [.view K sv 1 pre.length w.length,lim v] σ λr σ'=>∃(w':List Nat) (c:Nat),r=.tup []∧σ'=upd σ K (some (.row sv 128 1 (u16s (pre++(w'++post))) 0))∧w'.length=w.length∧Lm w'∧c≤1∧nv w'+65536 ^ w.length*c=nv w+nv v:=by
 have hsz2:pre.length+(w.length+post.length)≤1000000000:=by simpa using hsz
 refine Zbu (tok:=0) (rs:=[]) func249 rfl ntmps249 results249 call249 (by rfl) (by simp) ?_;(focus (refine wkvp w_t w_t ?_;(repeat' first|exact w_t|apply w_l);all_goals intros));refine Zae (ι:=Nat) (λk e m=>k≤w.length∧(e 0=.view K sv 1 pre.length w.length∧e 1=lim v∧e 7=.v (.int .i64 w.length)∧e 8=.v (.int .i64 (k:Int)))∧∃w' c,(e 4=.v (.int .u32 (c:Nat))∧m=upd σ K (some (.row sv 128 1 (u16s (pre++(w'++post))) 0)))∧w'.length=w.length∧Lm w'∧c≤1∧(∀j,k≤j→gN w' j=gN w j)∧nv (w'.take k)+65536 ^ k*c=nv (w.take k)+nv (v.take k)) (λk=>w.length - k) 0 (by rfl) ?_ ?_
 ·rintro k e m ⟨hk,⟨e0,e1,e7,e8⟩,w',c,⟨e4,rfl⟩,hwl,hLw,hc,hsame,hv⟩
  by_cases hlt:k < w.length
  ·have gw:=Zbv lw k;have gv:=Zbv lv k;have hgw:=hsame k (Nat.le_refl _);have mid:=gN_mid (pre:=pre) (post:=post) (show k < w'.length by omega);have smid:=λx=>Zv9 (pre:=pre) (post:=post) (show k < w'.length by omega) x;have hln:(pre++(w'++post)).length=pre.length+(w'.length+post.length):=by simp
   have hs:=Zts (x:=gN w k) (y:=gN v k) hv;have w1:(c+gN w k+gN v k)/65536≤1:=by omega
   have w2:(c+gN w k+gN v k)%65536 < 65536:=by omega
   have hsm:∀x j,k+1≤j→gN (w'.set k x) j=gN w j:=λx j hj=>by
    rw [Zfy (by omega),if_neg (by omega)];exact hsame j (by omega)
   rw [←Zc3 (o:=w') (by omega),←Nat.pow_succ,←Zav,←Zav] at hs;by_cases hkv:k < v.length
   ·(focus (refine wkvp (w_12 e0 e1 e7 e8 e4 hln hwl mid smid hgw @Za0 @Zbf) w_t ?_;(repeat' first|exact w_t|apply w_l);all_goals intros));exact⟨k+1,⟨by omega,by exact gV (And.intro e0 (And.intro e1 (And.intro e7 e8))),_,_,⟨by exact gC,by(simp (disch:=omega) only [go_sem,Zhy]<;>repeat' first|rfl|refine⟨?_,?_⟩)⟩,by simpa using hwl,hLw.set k w2,w1,hsm _,hs⟩,by omega⟩
   ·have g0:gN v k=0:=Zfb (by omega);simp only [g0,Nat.add_zero] at hs w1 w2;(focus (refine wkvp (w_12 e0 e1 e7 e8 e4 hln hwl mid smid hgw @Za0 @Zbf) w_t ?_;(repeat' first|exact w_t|apply w_l);all_goals intros));exact⟨k+1,⟨by omega,by exact gV (And.intro e0 (And.intro e1 (And.intro e7 e8))),_,_,⟨by exact gC,by(simp (disch:=omega) only [go_sem,Zhy]<;>repeat' first|rfl|refine⟨?_,?_⟩)⟩,by simpa using hwl,hLw.set k w2,w1,hsm _,hs⟩,by omega⟩
  ·have hkw:k=w.length:=by omega
   subst hkw;rw [Zbo (by omega),Zbo (Nat.le_refl _),Zbo hwv] at hv;(focus (refine wkvp (w_5 e0 e1 e7 e8 e4) w_t ?_;(repeat' first|exact w_t|apply w_l);all_goals intros));simp (disch:=omega) only [go_sem];refine⟨w',c,?_,hwl,hLw,hc,hv⟩<;>rfl
 ·exact⟨Nat.zero_le _,by exact gC,w,0,⟨by exact gC,by rw [Zrr hσ]⟩,rfl,lw,by omega,λ_ _=>rfl,by simp [nv]⟩
theorem Zqq (σ:Mem) (sv:Value) (g2 g3 g5 g7 g9 g10:Nat) (U post v:List Nat) (d r j:Nat) (h2:σ 2=some (.box g2 50 [.view 44 sv 1 0 U.length] false)) (h3:σ 3=some (.box g3 50 [lim v] false)) (h5:σ 5=some (.box g5 3 [.v (.int .i64 v.length)] false))
 (h7:σ 7=some (.box g7 3 [.v (.int .i64 (j:Int))] false)) (h9:σ 9=some (.box g9 160 [.v (.int .u64 (d:Int))] false)) (h10:σ 10=some (.box g10 160 [.v (.int .u64 (r:Int))] false)) (h44:σ 44=some (.row sv 128 1 (u16s (U++post)) 0))
 (hn:2≤v.length) (hj:j+v.length < U.length) (hsz:U.length+post.length≤1000000000) (lv:Lm v) (lU:Lm U) (hr:r < 65536) :
 ACall prog 247 [.pbox 9 g9 0,.pbox 3 g3 0,.pbox 5 g5 0,.pbox 10 g10 0,.pbox 2 g2 0,.pbox 7 g7 0] σ λx σ'=>x=.v (.bool (decide (65536≤d) || decide (r*65536+gN U (j+v.length - 2) < d*gN v (v.length - 2))))∧σ'=σ:=by
 refine Zbu (tok:=0) (rs:=[.tmp 6]) func247 rfl ntmps247 results247 call247 (by rfl) (by simp) ?_;by_cases hd:65536≤d
 ·(focus (refine wkad (w_7 h2 h3 h5 h7 h9 h10 h44) w_t w_t ?_;(repeat' first|exact w_t|apply w_l);all_goals intros));simp (disch:=omega) only [go_sem,decide_eq_true hd]
 ·have gv:=Zbv lv (v.length - 2);have gu:=Zbv lU (j+v.length - 2);have bd:=Zoy (x:=d) (by omega) gv;have e1:(v.length:Int) - 2=((v.length - 2:Nat):Int):=by omega
  have e2:((j+v.length:Nat):Int) - 2=((j+v.length - 2:Nat):Int):=by omega
  have hg:gN (U++post) (j+v.length - 2)=gN U (j+v.length - 2):=Zra (by omega);have hl:(U++post).length=U.length+post.length:=List.length_append;generalize hxy:d*gN v (v.length - 2)=xy at *;by_cases ht:r*65536+gN U (j+v.length - 2) < xy
  ·(focus (refine wkad (w_15 h2 h3 h5 h7 h9 h10 h44 e1 e2 hg hl @Za0 @Zeu hxy @Nat.zero_add) w_t w_t ?_;(repeat' first|exact w_t|apply w_l);all_goals intros));simp (disch:=omega) only [go_sem,decide_eq_true ht]
  ·(focus (refine wkad (w_15 h2 h3 h5 h7 h9 h10 h44 e1 e2 hg hl @Za0 @Zeu hxy @Nat.zero_add) w_t w_t ?_;(repeat' first|exact w_t|apply w_l);all_goals intros));simp (disch:=omega) only [go_sem,decide_eq_false hd,decide_eq_false ht]
attribute [local go_sem] szQ zQ
theorem Zde {P:Program} {t d f:Nat} {args:List AV} {K:St→Prop} {e:Nat→AV} {m:Mem} {R:AV→Mem→Prop} (c:ACall P f args m R) (h:∀r σ',R r σ'→K ⟨upd e d r,σ'⟩):aRes P t (some d) (.call f args) K ⟨e,m⟩:=c.mono h
theorem Zot {σ:Mem} {K:Nat} {sv:Value} {pre w post v:List Nat} {d i len:Nat} (hi:pre.length=i) (hw:w.length=len) (hσ:σ K=some (.row sv 128 1 (u16s (pre++(w++post))) 0)) (hwv:len=v.length+1) (hsz:(pre++(w++post)).length≤1000000000) (lw:Lm w) (lv:Lm v) (hd:d < 65536) :
 ACall prog 248 [.view K sv 1 i len,lim v,.v (.int .u32 (d:Int))] σ λr σ'=>∃(w':List Nat) (b:Nat),r=.v (.bool (decide (0 < (b:Int))))∧σ'=upd σ K (some (.row sv 128 1 (u16s (pre++(w'++post))) 0))∧w'.length=len∧Lm w'∧b≤1∧nv w'+d*nv v=nv w+65536 ^ len*b:=by
 subst hi;subst hw;exact Zqr σ K sv pre w post v d hσ hwv hsz lw lv hd
theorem Zqs {σ:Mem} {K:Nat} {sv:Value} {pre w post v:List Nat} {i len:Nat} (hi:pre.length=i) (hw:w.length=len) (hσ:σ K=some (.row sv 128 1 (u16s (pre++(w++post))) 0)) (hwv:v.length≤len) (hsz:(pre++(w++post)).length≤1000000000) (lw:Lm w) (lv:Lm v) :
 ACall prog 249 [.view K sv 1 i len,lim v] σ λr σ'=>∃(w':List Nat) (c:Nat),r=.tup []∧σ'=upd σ K (some (.row sv 128 1 (u16s (pre++(w'++post))) 0))∧w'.length=len∧Lm w'∧c≤1∧nv w'+65536 ^ len*c=nv w+nv v:=by
 subst hi;subst hw;exact Zun σ K sv pre w post v hσ hwv hsz lw lv
structure LongInv (U v q U':List Nat) (k:Nat):Prop where
 ql:q.length=U.length - v.length
 qL:Lm q
 qz:∀j,j < k→gN q j=0
 ul:U'.length=U.length
 uL:Lm U'
 eq:nv U'+nv v*nv (q.drop k)*65536 ^ k=nv U
 lt:nv (U'.drop k) < nv v
theorem LongInv.step {U v q U' w'':List Nat} {j n:Nat} (h:LongInv U v q U' (j+1)) (hn:v.length=n) (lv:Lm v) (hj:j+n < U.length) (hw:w''.length=n+1) (hwL:Lm w'')
 (hwv:nv w''=nv ((U'.drop j).take (n+1))%nv v) (hd:nv ((U'.drop j).take (n+1))/nv v < 65536) :
 LongInv U v (q.set j (nv ((U'.drop j).take (n+1))/nv v)) (U'.take j++(w''++U'.drop (j+n+1))) j:=by
 have hV:0 < nv v:=Nat.lt_of_le_of_lt (Nat.zero_le _) h.lt;have hz:=drop_zero lv hn h.lt;rw [List.drop_drop,show j+1+n=j+n+1 by omega] at hz;have hql:=h.ql;have hul:=h.ul;have hlj:(U'.take j).length=j:=by rw [List.length_take];omega
 have hj1:nv (U'.drop j)=nv ((U'.drop j).take (n+1)):=by
  have:=Zbs (U'.drop j) (n+1);rw [List.drop_drop,show j+(n+1)=j+n+1 by omega,hz] at this;omega
 have hw2:nv (w''++U'.drop (j+n+1))=nv w'':=by rw [Zd4,hz];omega
 have hdr:nv ((U'.take j++(w''++U'.drop (j+n+1))).drop j)=nv w'':=by
  rw [List.drop_append_of_le_length (by omega),List.drop_eq_nil_of_le (by omega),List.nil_append,hw2]
 refine⟨by simpa using hql,h.qL.set j hd,λi hi=>?_,by simp;omega,(h.uL.take j).append (hwL.append (h.uL.drop _)),?_,by rw [hdr,hwv];exact Nat.mod_lt _ hV⟩
 ·rw [Zfy (by omega),if_neg (by omega)];exact h.qz i (by omega)
 ·have h1:=h.eq;have h2:=Zbs U' j;have h3:=Nat.div_add_mod (nv ((U'.drop j).take (n+1))) (nv v);rw [Zd4,hlj,hw2,hwv,Zbw (q.set j _),Zfy (by omega),if_pos rfl,List.drop_set_of_lt (by omega)];rw [←h1,h2,hj1,Nat.mul_add,Nat.add_mul,Nat.pow_succ];generalize nv ((U'.drop j).take (n+1))=W at *;generalize nv (q.drop (j+1))=Q at *
  have e1:nv v*(W/nv v)*65536 ^ j+65536 ^ j*(W%nv v)=65536 ^ j*W:=by
   rw [Nat.mul_comm (nv v*(W/nv v)),←Nat.mul_add,h3]
  have e2:nv v*(65536*Q)*65536 ^ j=nv v*Q*(65536 ^ j*65536):=by
   simp only [Nat.mul_assoc,Nat.mul_left_comm,Nat.mul_comm]
  omega
theorem natLong (σ:Mem) (sv:Value) (U post v:List Nat) (n:Nat) (hvn:v.length=n) (h44:σ 44=some (.row sv 128 1 (u16s (U++post)) 0)) (hn:2≤n) (hlen:n < U.length) (hsz:U.length+post.length≤1000000000) (lU:Lm U) (lp:Lm post) (lv:Lm v)
 (hvt:0 < gN v (n - 1)) (hlt:nv (U.drop (U.length - n)) < nv v) :
 ACall prog 216 [.view 44 sv 1 0 U.length,lim v] σ λr σ'=>∃U':List Nat,r=lim (toL (nv U/nv v))∧σ' 44=some (.row sv 128 1 (u16s (U'++post)) 0)∧U'.length=U.length∧Lm U'∧nv U'=nv U%nv v:=by
 have hc:(U.length:Int) - (n:Int)=((U.length - n:Nat):Int):=by omega
 refine Zbu (tok:=0) (rs:=[.tmp 4]) func216 rfl ntmps216 results216 call216 (by rfl) (by simp) ?_;(focus (refine wkvp (w_2 hvn hc) w_t ?_;(repeat' first|exact w_t|apply w_l);all_goals intros));refine Zae (ι:=Nat) (λk e m=>k≤U.length - n∧∃g2 g3 g5 g7 svo q U',(e 2=.pbox 2 g2 0∧e 3=.pbox 3 g3 0∧e 5=.pbox 5 g5 0∧e 6=.own 18 svo∧e 7=.pbox 7 g7 0)∧m 2=some (.box g2 50 [.view 44 sv 1 0 U.length] false)∧m 3=some (.box g3 50 [lim v] false)∧m 5=some (.box g5 3 [.v (.int .i64 n)] false)∧m 7=some (.box g7 3 [.v (.int .i64 ((k:Int) - 1))] false) ∧
  m 18=some (.row svo 128 1 (u16s q) 0)∧m 44=some (.row sv 128 1 (u16s (U'++post)) 0)∧LongInv U v q U' k) (λk=>k) (U.length - n) (by rfl) ?_ ?_
 ·rintro k e m ⟨hk,g2,g3,g5,g7,svo,q,U',⟨e2,e3,e5,e6,e7⟩,m2,m3,m5,m7,m18,m44,inv⟩
  have hql:=inv.ql;rw [hvn] at hql;have hul:=inv.ul;rcases Nat.eq_zero_or_pos k with h0 | h0
  ·subst h0;have h1:=inv.eq;have h2:=inv.lt;rw [List.drop_zero] at h1 h2;rw [Nat.pow_zero,Nat.mul_one] at h1;have hq:nv U/nv v=nv q:=by rw [←h1,Nat.add_comm,Nat.mul_add_div (by omega),Nat.div_eq_of_lt h2,Nat.add_zero]
   have hr:nv U'=nv U%nv v:=by rw [←h1,Nat.add_comm,Nat.mul_add_mod,Nat.mod_eq_of_lt h2]
   (repeat' (first|(with_reducible first|refine stp ?_|apply gx1|apply gx2|apply gx3|apply gx4|apply gx5|apply gx6|apply gx7|apply gw1 (Za1 q (by omega) inv.qL))|(with_reducible refine Zcb ?_;intro _)|((with_reducible refine gE ?_);(try simp (disch:=omega) only [go_sem,e2,e3,e5,e6,e7,m2,m3,m5,m7,m18,m44])<;>first|rfl|omega)|with_reducible refine Zaj (by decide) ?_))
   simp (disch:=omega) only [go_sem,hq];refine⟨U',?_,hul,inv.uL,hr⟩;simp (disch:=omega) only [go_sem,m44]
  ·obtain⟨j,rfl⟩:∃j,k=j+1:=⟨k - 1,by omega⟩;have ej:((j+1:Nat):Int) - 1=(j:Int):=by omega
   rw [ej] at m7;have g0:=Zbv inv.uL (j+n);have g1:=Zbv inv.uL (j+n - 1);have g2':=Zbv inv.uL (j+n - 2);have gv1:=Zbv lv (n - 1);have gv2:=Zbv lv (n - 2);have hl:(U'++post).length=U'.length+post.length:=List.length_append;have x0:gN (U'++post) (j+n)=gN U' (j+n):=Zra (by omega);have x1:gN (U'++post) (j+n - 1)=gN U' (j+n - 1):=Zra (by omega);have ex1:((j+n:Nat):Int) - 1=((j+n - 1:Nat):Int):=by omega
   have ex2:(n:Int) - 1=((n - 1:Nat):Int):=by omega
   have hwl:((U'.drop j).take (n+1)).length=n+1:=by rw [List.length_take,List.length_drop];omega
   have hwL:Lm ((U'.drop j).take (n+1)):=(inv.uL.drop j).take _;have wg:∀i,i≤n→gN ((U'.drop j).take (n+1)) i=gN U' (j+i):=λi hi=>by rw [gN_take (by omega),Zyi]
   have hW:=nv_top3 hwl hn;rw [wg n (Nat.le_refl _),wg (n - 1) (by omega),wg (n - 2) (by omega),show j+(n - 1)=j+n - 1 by omega,show j+(n - 2)=j+n - 2 by omega] at hW;have hwl2:=Zhf hwL (n - 2);have hVt:=nv_top2 hvn hn;have hvl2:=Zhf lv (n - 2);have hV:0 < nv v:=Nat.lt_of_le_of_lt (Nat.zero_le _) inv.lt
   have htop:gN U' (j+n)≤gN v (n - 1):=by
    have:=top_le (inv.uL.drop (j+1)) lv hvn hn inv.lt
    rwa [Zyi,show j+1+(n - 1)=j+n by omega] at this
   have hWV:nv ((U'.drop j).take (n+1))/nv v < 65536:=by
    rw [Nat.div_lt_iff_lt_mul hV];have h1:=Zbs (U'.drop j) (n+1);have h2:=Zbw U' j;have h3:=inv.lt;have h4:=Zbv inv.uL j;omega
   obtain⟨high,hhigh⟩:∃h,gN U' (j+n)*65536+gN U' (j+n - 1)=h:=⟨_,rfl⟩;rw [hhigh] at hW;have hinit:=kn_init (Nat.pow_pos (by omega)) hVt hW hwl2 g2' hvt (Nat.div_mul_le_self (nv ((U'.drop j).take (n+1))) (nv v));have hhd:=Nat.div_add_mod high (gN v (n - 1));have hhr:=Nat.mod_lt high hvt;have hhq:=Nat.div_le_self high (gN v (n - 1));rw [Nat.mul_comm] at hhd;have hv1i:(gN v (n - 1):Int)≠0:=by omega
   have hq1:(high:Int)/(gN v (n - 1):Int)≤4294967296:=by
    have:((high/gN v (n - 1):Nat):Int)≤4294967296:=by omega
    exact this
   have wq:IntKind.u64.wrap ((high/gN v (n - 1):Nat):Int)=((high/gN v (n - 1):Nat):Int):=Zf4 (Int.natCast_nonneg _) (by omega)
   (repeat' (first|(with_reducible first|refine stp ?_|apply gx1|apply gx2|apply gx3|apply gx4|apply gx5|apply gx6|apply gx7|apply gy8|apply gz2|apply gz3)|(with_reducible refine Zcb ?_;intro _)|((with_reducible refine gE ?_);(try simp (disch:=omega) only [go_sem,e2,e3,e5,e6,e7,m2,m3,m5,m7,m18,m44,hl,hul,hvn,x0,x1,ex1,ex2,hhigh,hv1i,Za0,Zdp,Zfg,Nat.zero_add,wq])<;>first|rfl|omega)|with_reducible refine Zaj (by decide) ?_|((with_reducible apply gy1);iterate 3 focus rfl)|((with_reducible apply gy2);iterate 3 focus rfl)|((with_reducible apply gy3);iterate 2 focus rfl)|((with_reducible apply gy4);iterate 1 focus rfl)|((with_reducible apply gy5);iterate 4 focus rfl)|((with_reducible apply gy5c);iterate 4 focus rfl)|((with_reducible apply gy6);iterate 4 focus rfl)|((with_reducible apply Zhr);iterate 3 focus rfl)|((with_reducible apply Zho);iterate 1 focus rfl)|((with_reducible apply gy7);iterate 1 focus rfl)|((with_reducible apply gy9);(focus ((with_reducible refine gE ?_);(try simp (disch:=omega) only [go_sem,e2,e3,e5,e6,e7,m2,m3,m5,m7,m18,m44,hl,hul,hvn,x0,x1,ex1,ex2,hhigh,hv1i,Za0,Zdp,Zfg,Nat.zero_add,wq])<;>rfl)))|((with_reducible apply gz1);(focus first|rfl|(simp (disch:=omega) only [go_sem,e2,e3,e5,e6,e7,m2,m3,m5,m7,m18,m44,hl,hul,hvn,x0,x1,ex1,ex2,hhigh,hv1i,Za0,Zdp,Zfg,Nat.zero_add,wq];done)))|((with_reducible apply Zcf (Zd3 []) [] [9,10]);(focus kernel_rfl);(focus rfl);(focus kernel_rfl);(focus (simp only [List.length_cons,List.length_nil,Nat.reduceAdd];rfl)))))
   rename_i g9 g10;have hlj:(U'.take j).length=j:=by rw [List.length_take];omega
   have hsplit:U'++post=U'.take j++((U'.drop j).take (n+1)++(U'.drop (j+n+1)++post)):=by
    have e1:U'=U'.take j++((U'.drop j).take (n+1)++U'.drop (j+n+1)):=by
     rw [show j+n+1=j+(n+1) by omega,←List.drop_drop,List.take_append_drop,List.take_append_drop]
    rw [←List.append_assoc ((U'.drop j).take (n+1)),←List.append_assoc,←e1]
   have esub:j+n+1 - j=n+1:=by omega
   obtain⟨W,hWd⟩:∃W,nv ((U'.drop j).take (n+1))=W:=⟨_,rfl⟩;have hstep:=fun(w'':List Nat) hw hwL2 hwv=>inv.step (w'':=w'') hvn lv (by omega) hw hwL2 hwv hWV;rw [hWd] at hinit hWV hW hstep
   have hzz:∀d r,high=d*gN v (n - 1)+r→65536≤r→d < 65536∧d*gN v (n - 2)≤r*65536+gN U' (j+n - 2):=by
    intro d r h1 h2
    have hd:d < 65536:=by
     rcases Nat.lt_or_ge d 65536 with h3 | h3
     ·exact h3
     ·exfalso;have h4:65536*gN v (n - 1)≤d*gN v (n - 1):=Nat.mul_le_mul_right _ h3;omega
    have:=Zoy hd gv2;omega
   refine Zae (ι:=Nat) (λd e' m'=>(e' 2=.pbox 2 g2 0∧e' 3=.pbox 3 g3 0∧e' 5=.pbox 5 g5 0∧e' 6=.own 18 svo∧e' 7=.pbox 7 g7 0∧e' 9=.pbox 9 g9 0∧e' 10=.pbox 10 g10 0∧e' 11=.fn 247 [.pbox 9 g9 0,.pbox 3 g3 0,.pbox 5 g5 0,.pbox 10 g10 0,.pbox 2 g2 0,.pbox 7 g7 0]) ∧
    m' 2=some (.box g2 50 [.view 44 sv 1 0 U.length] false)∧m' 3=some (.box g3 50 [lim v] false)∧m' 5=some (.box g5 3 [.v (.int .i64 n)] false)∧m' 7=some (.box g7 3 [.v (.int .i64 (j:Int))] false)∧m' 18=some (.row svo 128 1 (u16s q) 0)∧m' 44=some (.row sv 128 1 (u16s (U'++post)) 0) ∧
    m' 9=some (.box g9 160 [.v (.int .u64 (d:Int))] false)∧∃r:Nat,m' 10=some (.box g10 160 [.v (.int .u64 (r:Int))] false)∧high=d*gN v (n - 1)+r∧W/nv v≤d∧d≤high∧r < 131072) (λd=>d) (high/gN v (n - 1)) (by rfl) ?_ ?_
   ·rintro d e m ⟨⟨e2,e3,e5,e6,e7,e9,e10,e11⟩,m2,m3,m5,m7,m18,m44,m9,r,m10,hhi,hqd,hdh,hr2⟩
    have ct:=λhr=>Zqq m sv g2 g3 g5 g7 g9 g10 U' post v d r j (by rw [hul];exact m2) m3 (by rw [hvn];exact m5) m7 m9 m10 m44 (by omega) (by omega) (by omega) lv inv.uL hr;rw [hvn] at ct;by_cases hgo:r < 65536∧(65536≤d∨r*65536+gN U' (j+n - 2) < d*gN v (n - 2))
    ·obtain⟨hr,ht⟩:=hgo;have hb:(decide (65536≤d) || decide (r*65536+gN U' (j+n - 2) < d*gN v (n - 2)))=true:=by simpa using ht
     have hd1:1≤d:=by
      rcases Nat.eq_zero_or_pos d with h | h
      ·subst h;omega
      ·exact h
     have ed:(d:Int) - 1=((d - 1:Nat):Int):=by omega
     have hq2:W/nv v≤d - 1:=by
      rcases ht with h | h
      ·omega
      ·have h1:=kn_step hVt hW hwl2 hhi h;rw [←Nat.div_lt_iff_lt_mul hV] at h1;omega
     have hh2:high=(d - 1)*gN v (n - 1)+(r+gN v (n - 1)):=by
      obtain⟨d',rfl⟩:∃d',d=d'+1:=⟨d - 1,by omega⟩;rw [Nat.add_sub_cancel,hhi,Nat.add_mul,Nat.one_mul];omega
     (repeat' (first|(with_reducible first|refine stp ?_|apply gx1|apply gx2|apply gx3|apply gx4|apply gx5|apply gx6|apply gx7|apply gy8|apply gz2|apply gz3|refine Zgw (ct hr) ?_)|(with_reducible refine Zcb ?_;intro _)|((with_reducible refine gE ?_);(try simp (disch:=omega) only [go_sem,e2,e3,e5,e6,e7,e9,e10,e11,m2,m3,m5,m7,m18,m44,m9,m10,hb,ed,ex2,hvn,Za0])<;>first|rfl|omega)|with_reducible refine Zaj (by decide) ?_|((with_reducible apply gy1);iterate 3 focus rfl)|((with_reducible apply gy2);iterate 3 focus rfl)|((with_reducible apply gy3);iterate 2 focus rfl)|((with_reducible apply gy4);iterate 1 focus rfl)|((with_reducible apply gy5);iterate 4 focus rfl)|((with_reducible apply gy5c);iterate 4 focus rfl)|((with_reducible apply gy6);iterate 4 focus rfl)|((with_reducible apply Zhr);iterate 3 focus rfl)|((with_reducible apply Zho);iterate 1 focus rfl)|((with_reducible apply gy7);iterate 1 focus rfl)|((with_reducible apply gy9);(focus ((with_reducible refine gE ?_);(try simp (disch:=omega) only [go_sem,e2,e3,e5,e6,e7,e9,e10,e11,m2,m3,m5,m7,m18,m44,m9,m10,hb,ed,ex2,hvn,Za0])<;>rfl)))|((with_reducible apply gz1);(focus first|rfl|(simp (disch:=omega) only [go_sem,e2,e3,e5,e6,e7,e9,e10,e11,m2,m3,m5,m7,m18,m44,m9,m10,hb,ed,ex2,hvn,Za0];done)))|((with_reducible apply Zcf (Zd3 []) [8] []);(focus kernel_rfl);(focus rfl);(focus kernel_rfl);(focus (simp only [List.length_cons,List.length_nil,Nat.reduceAdd];rfl)))))
     exact⟨d - 1,⟨⟨by exact gW e2,by exact gW e3,by exact gW e5,by exact gW e6,by exact gW e7,by exact gW e9,by exact gW e10,by exact gW e11⟩,by exact gW m2,by exact gW m3,by exact gW m5,by exact gW m7,by exact gW m18,by exact gW m44,by exact gC,_,by exact gC,hh2,hq2,by omega,by omega⟩,by omega⟩
    ·obtain⟨hd,hdv⟩:d < 65536∧d*gN v (n - 2)≤r*65536+gN U' (j+n - 2):=by
      rcases Nat.lt_or_ge r 65536 with h | h
      ·have h2:¬(65536≤d∨r*65536+gN U' (j+n - 2) < d*gN v (n - 2)):=λh2=>hgo ⟨h,h2⟩;omega
      ·exact hzz d r hhi h
     have hb:(decide (65536≤d) || decide (r*65536+gN U' (j+n - 2) < d*gN v (n - 2)))=false:=by
      rw [Bool.or_eq_false_iff,decide_eq_false_iff_not,decide_eq_false_iff_not];omega
     have hnear:=kn_near hV hqd (kn_exit hVt hvl2 hW hhi hvt hd hdv);have csub:=Zot (K:=44) (sv:=sv) (σ:=m) (post:=U'.drop (j+n+1)++post) (v:=v) (d:=d) hlj hwl (by rw [←hsplit];exact m44) (by omega) (by rw [←hsplit];omega) hwL lv hd;rcases Nat.lt_or_ge r 65536 with hr | hr
     all_goals
      (repeat' (first|(with_reducible first|refine stp ?_|apply gx1|apply gx2|apply gx3|apply gx4|apply gx5|apply gx6|apply gx7|apply gy8|apply gz2|apply gz3|refine Zgw (ct hr) ?_)|(with_reducible refine Zcb ?_;intro _)|((with_reducible refine gE ?_);(try simp (disch:=omega) only [go_sem,e2,e3,e5,e6,e7,e9,e10,e11,m2,m3,m5,m7,m18,m44,m9,m10,hb,ex2,hvn,Za0,Zbq,esub,Nat.zero_add])<;>first|rfl|omega)|with_reducible refine Zaj (by decide) ?_|((with_reducible apply gy1);iterate 3 focus rfl)|((with_reducible apply gy2);iterate 3 focus rfl)|((with_reducible apply gy3);iterate 2 focus rfl)|((with_reducible apply gy4);iterate 1 focus rfl)|((with_reducible apply gy5);iterate 4 focus rfl)|((with_reducible apply gy5c);iterate 4 focus rfl)|((with_reducible apply gy6);iterate 4 focus rfl)|((with_reducible apply Zhr);iterate 3 focus rfl)|((with_reducible apply Zho);iterate 1 focus rfl)|((with_reducible apply gy7);iterate 1 focus rfl)|((with_reducible apply gy9);(focus ((with_reducible refine gE ?_);(try simp (disch:=omega) only [go_sem,e2,e3,e5,e6,e7,e9,e10,e11,m2,m3,m5,m7,m18,m44,m9,m10,hb,ex2,hvn,Za0,Zbq,esub,Nat.zero_add])<;>rfl)))|((with_reducible apply gz1);(focus first|rfl|(simp (disch:=omega) only [go_sem,e2,e3,e5,e6,e7,e9,e10,e11,m2,m3,m5,m7,m18,m44,m9,m10,hb,ex2,hvn,Za0,Zbq,esub,Nat.zero_add];done)))|((with_reducible apply Zcf (Zd3 []) [10] []);(focus kernel_rfl);(focus rfl);(focus kernel_rfl);(focus (simp only [List.length_cons,List.length_nil,Nat.reduceAdd];rfl)))))
      refine Zde csub ?_
      rintro _ _ ⟨w',b,rfl,rfl,hwl',hwL',hb1,heq⟩
      rw [hWd] at heq;have hw'p:nv w' < 65536 ^ (n+1):=by have:=Zhq hwL';rwa [hwl'] at this
      have hcase:=subDone hV hw'p hb1 heq hnear;have ej2:(j:Int) - 1=(j:Int) - 1:=rfl;rcases hcase with⟨rfl,hdq,hwm⟩ | ⟨rfl,hdq⟩
      ·have inv':=hstep w' hwl' hwL' hwm;rw [←hdq] at inv';have hdm:d%65536=d:=Nat.mod_eq_of_lt hd
       (repeat' (first|(with_reducible first|refine stp ?_|apply gx1|apply gx2|apply gx3|apply gx4|apply gx5|apply gx6|apply gx7|apply gy8|apply gz2|apply gz3)|(with_reducible refine Zcb ?_;intro _)|((with_reducible refine gE ?_);(try simp (disch:=omega) only [go_sem,e2,e3,e5,e6,e7,e9,e10,e11,m2,m3,m5,m7,m18,m44,m9,m10,hql,Zbf,hdm,Int.natCast_zero,Int.lt_irrefl])<;>first|rfl|omega)|with_reducible refine Zaj (by decide) ?_|((with_reducible apply gy1);iterate 3 focus rfl)|((with_reducible apply gy2);iterate 3 focus rfl)|((with_reducible apply gy3);iterate 2 focus rfl)|((with_reducible apply gy4);iterate 1 focus rfl)|((with_reducible apply gy5);iterate 4 focus rfl)|((with_reducible apply gy5c);iterate 4 focus rfl)|((with_reducible apply gy6);iterate 4 focus rfl)|((with_reducible apply Zhr);iterate 3 focus rfl)|((with_reducible apply Zho);iterate 1 focus rfl)|((with_reducible apply gy7);iterate 1 focus rfl)|((with_reducible apply gy9);(focus ((with_reducible refine gE ?_);(try simp (disch:=omega) only [go_sem,e2,e3,e5,e6,e7,e9,e10,e11,m2,m3,m5,m7,m18,m44,m9,m10,hql,Zbf,hdm,Int.natCast_zero,Int.lt_irrefl])<;>rfl)))|((with_reducible apply gz1);(focus first|rfl|(simp (disch:=omega) only [go_sem,e2,e3,e5,e6,e7,e9,e10,e11,m2,m3,m5,m7,m18,m44,m9,m10,hql,Zbf,hdm,Int.natCast_zero,Int.lt_irrefl];done)))|((with_reducible apply Zcf (Zd3 []) [10] []);(focus kernel_rfl);(focus rfl);(focus kernel_rfl);(focus (simp only [List.length_cons,List.length_nil,Nat.reduceAdd];rfl)))))
       exact⟨j,⟨by omega,g2,g3,g5,_,svo,q.set j d,U'.take j++(w'++U'.drop (j+n+1)),⟨by exact gW e2,by exact gW e3,by exact gW e5,by exact gW e6,by exact gC⟩,by exact gW m2,by exact gW m3,by exact gW m5,by exact gC,by exact gC,by(simp (disch:=omega) only [go_sem,List.append_assoc]<;>repeat' first|rfl|refine⟨?_,?_⟩),inv'⟩,by omega⟩
      ·have crest:=fun(σ:Mem) h=>Zqs (σ:=σ) (K:=44) (sv:=sv) (post:=U'.drop (j+n+1)++post) (v:=v) hlj hwl' h (by omega) (by rw [hsplit] at hl;simp only [List.length_append] at hl ⊢;omega) hwL' lv;have hd1:1≤d:=by rw [hdq];exact Nat.le_add_left 1 _
       have ed:(d:Int) - 1=((d - 1:Nat):Int):=by omega
       have one:(0:Int) < ((1:Nat):Int):=by omega
       (repeat' (first|(with_reducible first|refine stp ?_|apply gx1|apply gx2|apply gx3|apply gx4|apply gx5|apply gx6|apply gx7|apply gy8|apply gz2|apply gz3)|(with_reducible refine Zcb ?_;intro _)|((with_reducible refine gE ?_);(try simp (disch:=omega) only [go_sem,e2,e3,e5,e6,e7,e9,e10,e11,m2,m3,m5,m7,m18,m44,m9,m10,ed,one,Za0,Zbq,esub,Nat.zero_add])<;>first|rfl|omega)|with_reducible refine Zaj (by decide) ?_|((with_reducible apply gy1);iterate 3 focus rfl)|((with_reducible apply gy2);iterate 3 focus rfl)|((with_reducible apply gy3);iterate 2 focus rfl)|((with_reducible apply gy4);iterate 1 focus rfl)|((with_reducible apply gy5);iterate 4 focus rfl)|((with_reducible apply gy5c);iterate 4 focus rfl)|((with_reducible apply gy6);iterate 4 focus rfl)|((with_reducible apply Zhr);iterate 3 focus rfl)|((with_reducible apply Zho);iterate 1 focus rfl)|((with_reducible apply gy7);iterate 1 focus rfl)|((with_reducible apply gy9);(focus ((with_reducible refine gE ?_);(try simp (disch:=omega) only [go_sem,e2,e3,e5,e6,e7,e9,e10,e11,m2,m3,m5,m7,m18,m44,m9,m10,ed,one,Za0,Zbq,esub,Nat.zero_add])<;>rfl)))|((with_reducible apply gz1);(focus first|rfl|(simp (disch:=omega) only [go_sem,e2,e3,e5,e6,e7,e9,e10,e11,m2,m3,m5,m7,m18,m44,m9,m10,ed,one,Za0,Zbq,esub,Nat.zero_add];done)))|((with_reducible apply Zcf (Zd3 []) [8] []);(focus kernel_rfl);(focus rfl);(focus kernel_rfl);(focus (simp only [List.length_cons,List.length_nil,Nat.reduceAdd];rfl)))))
       refine Zde (crest _ (by exact gC)) ?_
       rintro _ _ ⟨w'',c,rfl,rfl,hwl'',hwL'',hc1,heq2⟩
       have hw''p:nv w'' < 65536 ^ (n+1):=by have:=Zhq hwL'';rwa [hwl''] at this
       have hVp:nv v≤65536 ^ (n+1):=by
        have h1:=Zhq lv;rw [hvn] at h1;have h2:65536 ^ n≤65536 ^ (n+1):=Nat.pow_le_pow_right (by omega) (by omega);omega
       have hwm:=resDone hV hVp hw''p hc1 (by rw [←hdq];exact heq) heq2;have inv':=hstep w'' hwl'' hwL'' hwm;have hdq2:d - 1=W/nv v:=by rw [hdq,Nat.add_sub_cancel]
       rw [←hdq2] at inv';have hdm:(d - 1)%65536=d - 1:=Nat.mod_eq_of_lt (by omega);(focus (refine wkad (w_19 e2 e3 e5 e6 e7 e9 e10 e11 m2 m3 m5 m7 m18 m44 m9 m10 hql @Zbf hdm) w_t w_t ?_;(repeat' first|exact w_t|apply w_l);all_goals intros));exact⟨j,⟨by omega,g2,g3,g5,_,svo,q.set j (d - 1),U'.take j++(w''++U'.drop (j+n+1)),⟨by exact gW e2,by exact gW e3,by exact gW e5,by exact gW e6,by exact gC⟩,by exact gW m2,by exact gW m3,by exact gW m5,by exact gC,by exact gC,by(simp (disch:=omega) only [go_sem,List.append_assoc]<;>repeat' first|rfl|refine⟨?_,?_⟩),inv'⟩,by omega⟩
   ·exact⟨⟨by exact gW e2,by exact gW e3,by exact gW e5,by exact gW e6,by exact gW e7,by exact gC,by exact gC,by exact gC⟩,by exact gW m2,by exact gW m3,by exact gW m5,by exact gW m7,by exact gW m18,by exact gW m44,by exact gC,_,by exact gC,by omega,hinit,by omega,by omega⟩
 ·refine⟨Nat.le_refl _,_,_,_,_,_,List.replicate (U.length - n) 0,U,⟨by exact gC,by exact gC,by exact gC,by exact gC,by exact gC⟩,by exact gC,by exact gC,by exact gC,by exact gC,by exact gC,by exact gW h44,⟨by rw [hvn];simp,Lm.zeros _,λ_ _=>Zhh _ _,rfl,lU,?_,hlt⟩⟩;rw [List.drop_eq_nil_of_le (by simp)];simp [nv]
theorem Zx0 (i:Nat):i < 2 ^ len8 i:=by
 unfold len8;split
 ·rename_i h;subst h;decide
 ·exact Nat.lt_log2_self
theorem len16_lt (x:Nat):x < 2 ^ Ze3 x:=by
 unfold Ze3;split
 ·have:=Zx0 (x/256);rw [Nat.pow_add];have e:(2:Nat) ^ 8=256:=rfl;omega
 ·exact Zx0 x
theorem Zrs (a:List Nat):u16s a++[.v (.int .u16 0),.v (.int .u16 0)]=u16s (a++[0,0]):=by simp [u16s]
theorem Wk.three {a a' b b' c:AV} (h1:Wk a a') (h2:Wk b b'):Wk (.tup [a,b,c]) (.tup [a',b',c]):=by
 refine .tup _ _ rfl λj x y h3 h4=>?_
 match j with
 | 0=>simp at h3 h4;subst h3;subst h4;exact h1
 | 1=>simp at h3 h4;subst h3;subst h4;exact h2
 | 2=>simp at h3 h4;subst h3;subst h4;exact .refl _
 | j+3=>simp at h3
theorem Zp4 {b s n:Nat} (h0:b≠0) (hn:(toL b).length=n) (hs:s=16 - Ze3 (gN (toL b) (n - 1))):(toL (b*2 ^ s)).length=n:=by
 have h1:=(Zd6 h0).1;have ht:=Zbv (Zap b) (n - 1);have hbd:=Zil ht;have hlt:=len16_lt (gN (toL b) (n - 1));have hp:=Nat.two_pow_pos s;have h3:(toL b).length≤(toL (b*2 ^ s)).length:=Za4 (Nat.le_mul_of_pos_right _ hp)
 have h4:(toL (b*2 ^ s)).length≤n:=by
  rw [Zaf];have h5:=Zbs (toL b) (n - 1);rw [Zao,Zbw,show n - 1+1=n by omega,List.drop_eq_nil_of_le (by omega)] at h5;simp only [nv,Nat.mul_zero,Nat.add_zero] at h5;have h6:=Zhf (Zap b) (n - 1);generalize gN (toL b) (n - 1)=t at *
  have h7:b < 65536 ^ (n - 1)*2 ^ Ze3 t:=by
   have h10:65536 ^ (n - 1)*(t+1)≤65536 ^ (n - 1)*2 ^ Ze3 t:=Nat.mul_le_mul_left _ hlt;rw [Nat.mul_add,Nat.mul_one] at h10;omega
  have h8:b*2 ^ s < 65536 ^ (n - 1)*2 ^ Ze3 t*2 ^ s:=Nat.mul_lt_mul_of_pos_right h7 hp
  have h9:2 ^ Ze3 t*2 ^ s=65536:=by
   rw [←Nat.pow_add,hs,show Ze3 t+(16 - Ze3 t)=16 by omega]
  rw [Nat.mul_assoc,h9,←Nat.pow_succ,Nat.succ_eq_add_one,show n - 1+1=n by omega] at h8;exact h8
 omega
theorem Zov (a b:List Nat) (ha:a.length≤200000000) (hb:b.length≤200000000) (la:Lm a) (lb:Lm b) (h0:nv b≠0):Pure prog 158 [lim a,lim b] (.tup [lim (toL (nv a/nv b)),lim (toL (nv a%nv b)),.v (.int .i64 0)]):=by
 have h1:=Zar la;have h2:=Zar lb;have va:=Zao (nv a);have vb:=Zao (nv b);have ma:=Zap (nv a);have mb:=Zap (nv b);obtain⟨hb1,hb2⟩:=Zd6 h0;have cc:=Zsp (toL (nv a)) (toL (nv b)) (by omega) (by omega) ma mb;rw [va,vb] at cc;by_cases hlt:nv a < nv b
 ·rw [show toL (nv a/nv b)=[] by rw [Nat.div_eq_of_lt hlt,Zaw],Nat.mod_eq_of_lt hlt];refine Pure.wk ?_ (Wk.three (.nil 1) (.refl _));have hcm:cmpN (nv a) (nv b)=-1:=if_pos hlt;have cn:=Zm1 (toL (nv a)) (by omega) ma;rw [va] at cn;refine Zaa (tok:=0) (rs:=[.tmp 4,.tmp 5,.tmp 6]) func158 rfl ntmps158 results158 call158 (by rfl) (by simp) ?_;(focus (refine wkvp (w_1 hcm) (w_4 (Za1 a (by omega) la) (Za1 b (by omega) lb) cc cn) ?_;(repeat' first|exact w_t|apply w_l);all_goals intros));simp (disch:=omega) only [go_sem]
 ·have hcm:0≤cmpN (nv a) (nv b):=by unfold cmpN;rw [if_neg hlt];split<;>omega
  by_cases hone:(toL (nv b)).length=1
  ·have e0:nv b=gN (toL (nv b)) 0:=by
    have:=Zbs (toL (nv b)) 0;rw [Zbw,List.drop_eq_nil_of_le (by omega),vb] at this
    simpa [nv] using this
   have gb:=Zbv mb 0;have cb:=Zow (toL (nv a)) (gN (toL (nv b)) 0) (by omega) ma (by omega) gb;rw [va,←e0] at cb;have hr:=Nat.mod_lt (nv a) (Nat.pos_of_ne_zero h0);have co:=natOf (nv a%nv b) (by omega);refine Zaa (tok:=0) (rs:=[.tmp 4,.tmp 5,.tmp 6]) func158 rfl ntmps158 results158 call158 (by rfl) (by simp) ?_;have wr:IntKind.u64.wrap ((nv a%nv b:Nat):Int)=((nv a%nv b:Nat):Int):=Zf4 (Int.natCast_nonneg _) (by omega);(focus (refine wkvp (w_3 hone (Eq.symm e0) wr) (w_5 (Za1 a (by omega) la) (Za1 b (by omega) lb) cc cb co) ?_;(repeat' first|exact w_t|apply w_l);all_goals intros))
   simp (disch:=omega) only [go_sem]
  ·
   obtain⟨n,hn⟩:∃n,(toL (nv b)).length=n:=⟨_,rfl⟩;rw [hn] at hb1 hb2 hone h2;have ht:=Zbv mb (n - 1);have hbd:=Zil ht;obtain⟨s,hs⟩:∃s,16 - Ze3 (gN (toL (nv b)) (n - 1))=s:=⟨_,rfl⟩;have hs15:s≤15:=by omega
   have hvl:=Zp4 h0 hn hs.symm;have ha0:nv a≠0:=by omega
   have hab:n≤(toL (nv a)).length:=by rw [←hn];exact Za4 (by omega)
   have clz:=bitsLz16 (gN (toL (nv b)) (n - 1)) ht;rw [hs] at clz;have en:(n:Int) - 1=((n - 1:Nat):Int):=by omega
   have hp:=Nat.two_pow_pos s;obtain⟨A,hA⟩:∃A,toL (nv a)=A:=⟨_,rfl⟩;rw [hA] at va ma h1 hab cc;have hVlen:A.length≤(toL (nv a*2 ^ s)).length:=by rw [←hA];exact Za4 (Nat.le_mul_of_pos_right _ hp)
   have hV2:nv a*2 ^ s < 65536 ^ (A.length+1):=by
    have h3:=Zhq ma;rw [va] at h3;have h4:(2:Nat) ^ s≤2 ^ 16:=Nat.pow_le_pow_right (by omega) (by omega);rw [Nat.pow_succ];exact Nat.lt_of_lt_of_le (Nat.mul_lt_mul_of_pos_right h3 hp) (Nat.mul_le_mul_left _ h4)
   have hVlen2:(toL (nv a*2 ^ s)).length≤A.length+1:=Zaf.2 hV2
   have hdl:nv a*2 ^ s/65536 ^ (A.length+1 - n) < nv b*2 ^ s:=by
    rw [Nat.div_lt_iff_lt_mul (Nat.pow_pos (by omega))];have h3:=Zhq ma;rw [va] at h3
    have h5:65536 ^ (n - 1)≤nv b:=by
     rcases Nat.lt_or_ge (nv b) (65536 ^ (n - 1)) with h | h
     ·have:=Zaf.2 h;omega
     ·exact h
    have h6:65536 ^ A.length=65536 ^ (n - 1)*65536 ^ (A.length+1 - n):=by rw [←Nat.pow_add];congr 1;omega
    have h7:65536 ^ (n - 1)*65536 ^ (A.length+1 - n)≤nv b*65536 ^ (A.length+1 - n):=Nat.mul_le_mul_right _ h5;have h8:nv a < nv b*65536 ^ (A.length+1 - n):=by omega
    have h9:=Nat.mul_lt_mul_of_pos_right h8 hp
    rwa [Nat.mul_right_comm] at h9
   have qe:nv a*2 ^ s/(nv b*2 ^ s)=nv a/nv b:=Nat.mul_div_mul_right _ _ hp;have re:nv a*2 ^ s%(nv b*2 ^ s)=(nv a%nv b)*2 ^ s:=Nat.mul_mod_mul_right _ _ _;have cv:=natShl (toL (nv b)) s (by omega) mb (by omega);rw [vb] at cv;refine Zaa (tok:=0) (rs:=[.tmp 4,.tmp 5,.tmp 6]) func158 rfl ntmps158 results158 call158 (by rfl) (by simp) ?_;(focus (refine wkvp (w_3 hn hA en) (w_4 (Za1 a (by omega) la) (Za1 b (by omega) lb) cc clz) ?_;(repeat' first|exact w_t|apply w_l);all_goals intros));refine Zde (Zou _ A s (by omega) ma (by omega) (by rw [va];exact ha0)) ?_
   rintro _ _ ⟨sv,o,rfl,rfl,hol,hLo,hov⟩
   rw [va] at hov;rw [va];have hlen:=Zar hLo;rw [hov] at hlen;obtain⟨L,hL⟩:∃L,o.take (toL (nv a*2 ^ s)).length++[0,0]=L:=⟨_,rfl⟩;have hLl:L.length=(toL (nv a*2 ^ s)).length+2:=by rw [←hL,List.length_append,List.length_take];simp;omega
   have hot:o.take (toL (nv a*2 ^ s)).length=toL (nv a*2 ^ s):=by
    obtain⟨k,h3,h4⟩:=Zmd hLo;rw [hov] at h4;have h5:k=(toL (nv a*2 ^ s)).length:=by rw [←h4,List.length_take];omega
    rw [←h5,h4]
   have hLn:nv L=nv a*2 ^ s:=by rw [←hL,hot,Zd4,Zao];simp [nv]
   have hLL:Lm L:=by rw [←hL,hot];exact(Zap _).append λy hy=>by simp at hy;omega
   have hes:u16s o=u16s o:=rfl;have e3:((A.length:Nat):Int)+1=((A.length+1:Nat):Int):=by omega
   (focus (refine wkvp (w_6 hol @Zrs hL hLl e3 (Eq.symm hvl)) (w_1 cv) ?_;(repeat' first|exact w_t|apply w_l);all_goals intros));have hUl:(L.take (A.length+1)).length=A.length+1:=by rw [List.length_take];omega
   have hUn:nv (L.take (A.length+1))=nv a*2 ^ s:=by
    have h3:=Zbs L (A.length+1);rw [hLn] at h3;rcases Nat.eq_zero_or_pos (nv (L.drop (A.length+1))) with h4 | h4
    ·rw [h4,Nat.mul_zero,Nat.add_zero] at h3;exact h3.symm
    ·have:=Nat.le_mul_of_pos_right (65536 ^ (A.length+1)) h4;omega
   rename_i sv2 sv';have vn:nv (toL (nv b*2 ^ s))=nv b*2 ^ s:=Zao _
   have hb20:nv b*2 ^ s≠0:=by
    have:=Nat.mul_pos (Nat.pos_of_ne_zero h0) hp;omega
   have htop:=(Zd6 hb20).2;rw [hvl] at htop;have hTD:(L.take (A.length+1))++(L.drop (A.length+1))=L:=List.take_append_drop _ _;have clong:=fun(σ:Mem) h44=>natLong σ sv' (L.take (A.length+1)) (L.drop (A.length+1)) (toL (nv b*2 ^ s)) n hvl h44 (by omega) (by rw [hUl];omega) (by rw [hUl,List.length_drop];omega) (hLL.take _) (hLL.drop _) (Zap _) htop
    (by rw [hUl,←Zxf (hLL.take _),hUn,vn];exact hdl)
   rw [hUl,hUn,vn,qe,re] at clong;refine Zde (clong _ (by rw [hTD];(simp (disch:=omega) only [go_sem,Zrs,hL]<;>repeat' first|rfl|refine⟨?_,?_⟩))) ?_
   rintro _ σ' ⟨U',rfl,h44',hUl',hUL',hUn'⟩
   have ct:=Za1 U' (by omega) hUL';rw [hUn'] at ct;have htk:(U'++L.drop (A.length+1)).take (A.length+1)=U':=by rw [←hUl'];exact List.take_left
   rcases Nat.eq_zero_or_pos s with hs0 | hs0
   ·subst hs0;have cr:=natShl (toL ((nv a%nv b)*2 ^ 0)) 0 (by have:=Zar hUL';rw [hUn'] at this;omega) (Zap _) (by omega);rw [Zao,Nat.pow_zero,Nat.mul_one,Nat.mul_one] at cr;rw [Nat.pow_zero,Nat.mul_one] at ct;have ez:(0:Int) - ((0:Nat):Int)=((0:Nat):Int):=by omega
    (repeat' (first|(with_reducible first|refine stp ?_|apply gx1|apply gx2|apply gx3|apply gx4|apply gx5|apply gx6|apply gx7|apply gw1 (ct)|refine gw0 (cr) ?_ ?_)|(with_reducible refine Zcb ?_;intro _)|((with_reducible refine gE ?_);(try simp (disch:=omega) only [go_sem,h44',htk,Nat.zero_add,Nat.sub_zero,List.drop_zero,ez])<;>first|rfl|omega)|with_reducible refine Zaj (by decide) ?_))
    simp (disch:=omega) only [go_sem]
   ·have cr:=natShr (toL ((nv a%nv b)*2 ^ s)) s (by have:=Zar hUL';rw [hUn'] at this;omega) (Zap _) hs0 (by omega);rw [Zao,Nat.mul_div_cancel _ hp] at cr;have ez:(0:Int) - (s:Int)=-(s:Int):=by omega
    (repeat' (first|(with_reducible first|refine stp ?_|apply gx1|apply gx2|apply gx3|apply gx4|apply gx5|apply gx6|apply gx7|apply gw1 (ct)|refine gw0 (cr) ?_ ?_)|(with_reducible refine Zcb ?_;intro _)|((with_reducible refine gE ?_);(try simp (disch:=omega) only [go_sem,h44',htk,Nat.zero_add,Nat.sub_zero,List.drop_zero,ez])<;>first|rfl|omega)|with_reducible refine Zaj (by decide) ?_))
    simp (disch:=omega) only [go_sem]
theorem natGcd (a b:List Nat) (ha:a.length≤200000000) (hb:b.length≤200000000) (la:Lm a) (lb:Lm b):Pure prog 95 [lim a,lim b] (lim (toL (Nat.gcd (nv a) (nv b)))):=by
 have h1:=Zar la;have h2:=Zar lb
 have cu:∀x:Nat,(toL x).length≤200000000→Pure prog 156 [lim (toL x)] (.tup [.v (.int .u64 (if x < 18446744073709551616 then (x:Int) else 0)),.v (.bool (decide (x < 18446744073709551616)))]):=by
  intro x hx;have:=natUint (toL x) (by omega) (Zap x)
  rwa [Zao] at this
 have cd:∀x y:Nat,(toL x).length≤200000000→(toL y).length≤200000000→y≠0→Pure prog 158 [lim (toL x),lim (toL y)] (.tup [lim (toL (x/y)),lim (toL (x%y)),.v (.int .i64 0)]):=by
  intro x y hx hy h0;have:=Zov (toL x) (toL y) hx hy (Zap x) (Zap y) (by rw [Zao];exact h0)
  rwa [Zao,Zao] at this
 refine Zaa (tok:=0) (rs:=[.tmp 4]) func95 rfl ntmps95 results95 call95 (by rfl) (by simp) ?_;(focus (refine wkvp w_t (w_2 (Zm1 a (by omega) la) (Zm1 b (by omega) lb)) ?_;(repeat' first|exact w_t|apply w_l);all_goals intros));refine Zae (ι:=Nat) (λy e m=>∃x,(e 0=lim (toL x)∧e 1=lim (toL y))∧(toL x).length≤200000000∧(toL y).length≤200000000∧Nat.gcd x y=Nat.gcd (nv a) (nv b)) (λy=>y) (nv b) (by rfl) ?_ ?_
 ·rintro y e m ⟨x,⟨e0,e1⟩,hx,hy,hg⟩
  rcases Nat.eq_zero_or_pos y with h0 | h0
  ·subst h0;have hl:=Zbl.2 (rfl:(0:Nat)=0);rw [Nat.gcd_zero_right] at hg;(focus (refine wkvp (w_3 e0 e1 hl) w_t ?_;(repeat' first|exact w_t|apply w_l);all_goals intros));simp (disch:=omega) only [go_sem,hg]
  ·have hl:0 < (toL y).length:=by
    have:=(Zd6 (show y≠0 by omega)).1;omega
   by_cases hs:x < 18446744073709551616∧y < 18446744073709551616
   ·obtain⟨hsx,hsy⟩:=hs;have dx:decide (x < 18446744073709551616)=true:=decide_eq_true hsx;have dy:decide (y < 18446744073709551616)=true:=decide_eq_true hsy
    (repeat' (first|(with_reducible first|refine stp ?_|apply gx1|apply gx2|apply gx3|apply gx4|apply gx5|apply gx6|apply gx7|refine gw0 (cu x hx) ?_ ?_|refine gw0 (cu y hy) ?_ ?_)|(with_reducible refine Zcb ?_;intro _)|((with_reducible refine gE ?_);(try simp (disch:=omega) only [go_sem,e0,e1,if_pos hsx,if_pos hsy,dx,dy])<;>first|rfl|omega)|with_reducible refine Zaj (by decide) ?_))
    refine Zae (ι:=Nat) (λY e m=>∃X:Nat,(e 5=.v (.int .u64 (X:Int))∧e 7=.v (.int .u64 (Y:Int)))∧X < 18446744073709551616∧Y < 18446744073709551616∧Nat.gcd X Y=Nat.gcd (nv a) (nv b)) (λY=>Y) y (by rfl) ?_ ?_
    ·rintro Y e m ⟨X,⟨e5,e7⟩,hX,hY,hg2⟩
     rcases Nat.eq_zero_or_pos Y with h3 | h3
     ·subst h3;rw [Nat.gcd_zero_right] at hg2;have co:=natOf X hX;rw [hg2] at co;rw [hg2] at e5;(focus (refine wkvp (w_3 e5 e7 @Int.natCast_zero) (w_1 co) ?_;(repeat' first|exact w_t|apply w_l);all_goals intros));simp (disch:=omega) only [go_sem]
     ·have hn:(Y:Int)≠0:=by omega
      have hm:=Nat.mod_lt X h3;(focus (refine wkad (w_4 e5 e7 @Zfg hn) w_t w_t ?_;(repeat' first|exact w_t|apply w_l);all_goals intros));exact⟨X%Y,⟨Y,⟨by exact gC,by exact gC⟩,hY,by omega,by rw [←hg2,Nat.gcd_comm X Y,Nat.gcd_rec Y X,Nat.gcd_comm]⟩,hm⟩
    ·exact⟨x,⟨by exact gC,by exact gC⟩,hsx,hsy,hg⟩
   ·have hm:=Nat.mod_lt x h0;have hml:(toL (x%y)).length≤200000000:=Nat.le_trans (Za4 (Nat.le_of_lt hm)) hy
    have hdd:(decide (x < 18446744073709551616) && decide (y < 18446744073709551616))=false:=by
     rw [Bool.and_eq_false_iff,decide_eq_false_iff_not,decide_eq_false_iff_not];omega
    have hgg:Nat.gcd y (x%y)=Nat.gcd (nv a) (nv b):=by rw [←hg,Nat.gcd_comm x y,Nat.gcd_rec y x,Nat.gcd_comm]
    by_cases hsx:x < 18446744073709551616
    ·have hsy:¬y < 18446744073709551616:=λh=>hs ⟨hsx,h⟩;have dx:decide (x < 18446744073709551616)=true:=decide_eq_true hsx;have dy:decide (y < 18446744073709551616)=false:=decide_eq_false hsy
     (repeat' (first|(with_reducible first|refine stp ?_|apply gx1|apply gx2|apply gx3|apply gx4|apply gx5|apply gx6|apply gx7|refine gw0 (cu x hx) ?_ ?_|refine gw0 (cu y hy) ?_ ?_|refine gw0 (cd x y hx hy (by omega)) ?_ ?_)|(with_reducible refine Zcb ?_;intro _)|((with_reducible refine gE ?_);(try simp (disch:=omega) only [go_sem,e0,e1,if_pos hsx,if_neg hsy,dx,dy])<;>first|rfl|omega)|with_reducible refine Zaj (by decide) ?_))
     exact⟨x%y,⟨y,⟨by exact gW e1,by exact gC⟩,hy,hml,hgg⟩,hm⟩
    ·have dx:decide (x < 18446744073709551616)=false:=decide_eq_false hsx;by_cases hsy:y < 18446744073709551616
     ·have dy:decide (y < 18446744073709551616)=true:=decide_eq_true hsy
      (repeat' (first|(with_reducible first|refine stp ?_|apply gx1|apply gx2|apply gx3|apply gx4|apply gx5|apply gx6|apply gx7|refine gw0 (cu x hx) ?_ ?_|refine gw0 (cu y hy) ?_ ?_|refine gw0 (cd x y hx hy (by omega)) ?_ ?_)|(with_reducible refine Zcb ?_;intro _)|((with_reducible refine gE ?_);(try simp (disch:=omega) only [go_sem,e0,e1,if_neg hsx,if_pos hsy,dx,dy])<;>first|rfl|omega)|with_reducible refine Zaj (by decide) ?_))
      exact⟨x%y,⟨y,⟨by exact gW e1,by exact gC⟩,hy,hml,hgg⟩,hm⟩
     ·have dy:decide (y < 18446744073709551616)=false:=decide_eq_false hsy
      (repeat' (first|(with_reducible first|refine stp ?_|apply gx1|apply gx2|apply gx3|apply gx4|apply gx5|apply gx6|apply gx7|refine gw0 (cu x hx) ?_ ?_|refine gw0 (cu y hy) ?_ ?_|refine gw0 (cd x y hx hy (by omega)) ?_ ?_)|(with_reducible refine Zcb ?_;intro _)|((with_reducible refine gE ?_);(try simp (disch:=omega) only [go_sem,e0,e1,if_neg hsx,if_neg hsy,dx,dy])<;>first|rfl|omega)|with_reducible refine Zaj (by decide) ?_))
      exact⟨x%y,⟨y,⟨by exact gW e1,by exact gC⟩,hy,hml,hgg⟩,hm⟩
 ·exact⟨nv a,⟨by exact gC,by exact gC⟩,by omega,by omega,rfl⟩
theorem Zes (l:List Nat) (hs:l.length≤1000000000) (hl:Lm l):Pure prog 196 [lim l] (lim (toL (nv l))):=by
 refine Zaa (tok:=0) (rs:=[.tmp 2]) func196 rfl ntmps196 results196 call196 (by rfl) (by simp) ?_;(focus (refine wkvp w_t w_t ?_;(repeat' first|exact w_t|apply w_l);all_goals intros));refine Zae (ι:=Nat) (λk e m=>k≤l.length∧e 0=lim l∧e 3=.v (.int .i64 (k:Int))∧∀j,k≤j→gN l j=0) (λk=>k) l.length (by rfl) ?_ ?_
 ·rintro k e m ⟨hk,e0,e3,hz⟩
  have gl:=Zbv hl (k - 1);have hln:(l.take k).length=k:=by rw [List.length_take];omega
  by_cases h0:k=0
  ·subst h0;have:=Zks hl hk hz (.inl rfl);(focus (refine wkvp (w_3 e0 e3 @Zna) w_t ?_;(repeat' first|exact w_t|apply w_l);all_goals intros));simp (disch:=omega) only [go_sem];rw [←this];rfl
  ·by_cases h1:gN l (k - 1)=0
   ·(focus (refine wkvp (w_2 e0 e3) w_t ?_;(repeat' first|exact w_t|apply w_l);all_goals intros));exact⟨k - 1,⟨by omega,by exact gW e0,by(simp (disch:=omega) only [go_sem,e3];congr 2;omega),λj hj=>by
     rcases Nat.lt_or_ge j k with h2 | h2
     ·rw [show j=k - 1 by omega];exact h1
     ·exact hz j h2⟩,by omega⟩
   ·have:=Zks hl hk hz (.inr (by omega));(focus (refine wkvp (w_4 e0 e3 @Zna hln) w_t ?_;(repeat' first|exact w_t|apply w_l);all_goals intros));simp (disch:=omega) only [go_sem,this]
 ·exact⟨Nat.le_refl _,by exact gC,by exact gC,λj hj=>Zfb hj⟩
theorem Zoe (n:Nat) (hn:n < 18446744073709551616):Pure prog 131 [.v (.int .u64 (n:Int))] (lim (toL n)):=by
 have b1:=(Zaf (n:=n) (k:=4)).2 hn;refine Zaa (tok:=0) (rs:=[.tmp 2]) func131 rfl ntmps131 results131 call131 (by rfl) (by simp) ?_;(focus (refine wkvp w_t w_t ?_;(repeat' first|exact w_t|apply w_l);all_goals intros));refine Zgr (Frz.nilOwn (d:=3) 11 1 128 (by exact gC)) ?_;refine Zae (ι:=Nat) (λk e m=>k≤n∧e 0=.v (.int .u64 (k:Int))∧∃sv l,e 3=.own 11 sv∧m 11=some (.row sv 128 1 (u16s l) 0)∧l++toL k=toL n) (λk=>k) n (by rfl) ?_ ?_
 ·rintro k e m ⟨hk,e0,sv,l,e3,em,hl⟩
  by_cases hk0:k=0
  ·subst hk0;rw [Zaw,List.append_nil] at hl;(focus (refine wkvp (w_3 e0 e3 @Int.natCast_zero) w_t ?_;(repeat' first|exact w_t|apply w_l);all_goals intros));simp (disch:=omega) only [go_sem,em,hl]
  ·have b2:l.length≤(toL n).length:=by rw [←hl];simp
   have hne:k≠0:=hk0;have r1:(k:Int).tmod 65536=((k%65536:Nat):Int):=Zfg k 65536;have r2:(k:Int).tdiv 65536=((k/65536:Nat):Int):=Zdp k 65536;have r3:k%65536%65536=k%65536:=Nat.mod_mod _ _;(focus (refine wkvp (w_7 e0 e3 em r1 r2 @Zbf r3) w_t ?_;(repeat' first|exact w_t|apply w_l);all_goals intros));refine⟨k/65536,⟨by omega,by exact gW e0,_,l++[k%65536],by exact gC,by exact gC,?_⟩,by omega⟩;rw [←hl,Zep hk0];simp
 ·exact⟨Nat.le_refl _,by exact gC,_,[],by exact gC,by exact gC,by simp⟩
theorem Zr8 (l:List Nat) (hs:l.length≤4) (hl:Lm l):Pure prog 231 [lim l] (.v (.int .u64 (nv l:Nat))):=by
 refine Zaa (tok:=0) (rs:=[.tmp 2]) func231 rfl ntmps231 results231 call231 (by rfl) (by simp) ?_;(focus (refine wkvp w_t w_t ?_;(repeat' first|exact w_t|apply w_l);all_goals intros));refine Zae (ι:=Nat) (λk e m=>k≤l.length∧e 0=lim l∧e 4=.v (.int .i64 ((k:Int) - 1))∧e 3=.v (.int .u64 (nv (l.drop k):Nat))) (λk=>k) l.length (by rfl) ?_ ?_
 ·rintro k e m ⟨hk,e0,e4,e3⟩
  by_cases h0:k=0
  ·subst h0;rw [List.drop_zero] at e3;(focus (refine wkvp (w_3 e0 e4 e3) w_t ?_;(repeat' first|exact w_t|apply w_l);all_goals intros));simp (disch:=omega) only [go_sem]
  ·have gl:=Zbv hl (k - 1);have b1:=Zhq (hl.drop k);have b2:65536 ^ (l.drop k).length≤65536 ^ 3:=Nat.pow_le_pow_right (by omega) (by rw [List.length_drop];omega);have e1:(nv (l.drop k):Int)*65536=((nv (l.drop k)*65536:Nat):Int):=by omega
   (focus (refine wkvp (w_5 e0 e4 e3 e1 @Za0) w_t ?_;(repeat' first|exact w_t|apply w_l);all_goals intros));refine⟨k - 1,⟨by omega,by exact gW e0,by(simp (disch:=omega) only [go_sem,e4];congr 2;omega),?_⟩,by omega⟩;simp (disch:=omega) only [go_sem];rw [Zbw l (k - 1),show k - 1+1=k by omega];congr 3;omega
 ·exact⟨Nat.le_refl _,by exact gC,by exact gC,by(simp (disch:=omega) only [go_sem,List.drop_length]<;>repeat' first|rfl|refine⟨?_,?_⟩)⟩
theorem Zki (l:List Nat) (i:Nat) (hs:l.length≤1000000000) (hl:Lm l):Pure prog 200 [lim l,.v (.int .i64 (i:Int))] (.v (.int .i64 (gN l i:Nat))):=by
 have gl:=Zbv hl i;refine Zaa (tok:=0) (rs:=[.tmp 4]) func200 rfl ntmps200 results200 call200 (by rfl) (by simp) ?_;by_cases h:i < l.length
 ·(focus (refine wkvp w_t w_t ?_;(repeat' first|exact w_t|apply w_l);all_goals intros));simp (disch:=omega) only [go_sem]
 ·have g0:gN l i=0:=Zfb (by omega);(focus (refine wkvp w_t w_t ?_;(repeat' first|exact w_t|apply w_l);all_goals intros));simp (disch:=omega) only [go_sem,g0];rfl
theorem refCmp (a b:List Nat) (ha:a.length≤1000000000) (hb:b.length≤1000000000) (la:Lm a) (lb:Lm b):Pure prog 235 [lim a,lim b] (.v (.int .i64 (cmpN (nv a) (nv b)))):=by
 have cl:=λi=>Zki a i ha la;have cr:=λi=>Zki b i hb lb;refine Zaa (tok:=0) (rs:=[.tmp 4]) func235 rfl ntmps235 results235 call235 (by rfl) (by simp) ?_;have hmx:max (a.length:Int) (b.length:Int)=((max a.length b.length:Nat):Int):=by omega
 obtain⟨M,hM⟩:∃M,max a.length b.length=M:=⟨_,rfl⟩;(focus (refine wkvp (w_2 hmx hM) w_t ?_;(repeat' first|exact w_t|apply w_l);all_goals intros));refine Zae (ι:=Nat) (λk e m=>k≤M∧e 0=lim a∧e 1=lim b∧e 5=.v (.int .i64 ((k:Int) - 1))∧nv (a.drop k)=nv (b.drop k)) (λk=>k) M (by rfl) ?_ ?_
 ·rintro k e m ⟨hk,e0,e1,e5,hz⟩
  by_cases h0:k=0
  ·subst h0;rw [List.drop_zero,List.drop_zero] at hz;(focus (refine wkvp (w_3 e0 e1 e5) w_t ?_;(repeat' first|exact w_t|apply w_l);all_goals intros));simp (disch:=omega) only [go_sem,cmpN,hz,Nat.lt_irrefl,if_false]
  ·obtain⟨j,rfl⟩:∃j,k=j+1:=⟨k - 1,by omega⟩;have ej:((j+1:Nat):Int) - 1=(j:Int):=by omega
   rw [ej] at e5;have ga:=Zbv la j;have gb:=Zbv lb j;by_cases p1:gN a j < gN b j
   ·have:=Zsn la lb hz p1;(focus (refine wkvp (w_3 e0 e1 e5) (w_2 (cl j) (cr j)) ?_;(repeat' first|exact w_t|apply w_l);all_goals intros));simp (disch:=omega) only [go_sem,cmpN,if_pos this]
   ·by_cases p2:gN b j < gN a j
    ·have:=Zsn lb la hz.symm p2;have this2:¬nv a < nv b:=by omega
     (focus (refine wkvp (w_3 e0 e1 e5) (w_2 (cl j) (cr j)) ?_;(repeat' first|exact w_t|apply w_l);all_goals intros));simp (disch:=omega) only [go_sem,cmpN,if_pos this,if_neg this2]
    ·(focus (refine wkvp (w_3 e0 e1 e5) (w_2 (cl j) (cr j)) ?_;(repeat' first|exact w_t|apply w_l);all_goals intros));refine⟨j,⟨by omega,by exact gW e0,by exact gW e1,by exact gW e5,?_⟩,by omega⟩;rw [Zbw,Zbw b,hz];omega
 ·refine⟨Nat.le_refl _,by exact gC,by exact gC,by exact gC,?_⟩;rw [List.drop_eq_nil_of_le (by omega),List.drop_eq_nil_of_le (by omega)]
theorem refSub (a b:List Nat) (ha:a.length≤1000000000) (hb:b.length≤1000000000) (la:Lm a) (lb:Lm b) :
 Pure prog 233 [lim a,lim b] (.tup [lim (if nv a < nv b then [] else toL (nv a - nv b)),.v (.int .i64 (if nv a < nv b then 2 else 0))]):=by
 have cl:=λi=>Zki a i ha la;have cr:=λi=>Zki b i hb lb;have cc:=refCmp a b ha hb la lb;by_cases hlt:nv a < nv b
 ·rw [if_pos hlt,if_pos hlt];refine Pure.wk ?_ (okTup rfl);refine Zaa (tok:=0) (rs:=[.tmp 4,.tmp 5]) func233 rfl ntmps233 results233 call233 (by rfl) (by simp) ?_;have hc:cmpN (nv a) (nv b)=-1:=by unfold cmpN;rw [if_pos hlt]
  (focus (refine wkvp (w_1 hc) (w_1 cc) ?_;(repeat' first|exact w_t|apply w_l);all_goals intros));simp (disch:=omega) only [go_sem]
 ·rw [if_neg hlt,if_neg hlt];have hc:0≤cmpN (nv a) (nv b):=by unfold cmpN;rw [if_neg hlt];split<;>omega
  refine Zaa (tok:=0) (rs:=[.tmp 4,.tmp 5]) func233 rfl ntmps233 results233 call233 (by rfl) (by simp) ?_;(focus (refine wkvp w_t (w_1 cc) ?_;(repeat' first|exact w_t|apply w_l);all_goals intros));refine Zgr (Frz.nilOwn (d:=6) 37 1 128 (by exact gC)) ?_;refine Zae (ι:=Nat) (λk e m=>k≤a.length∧(e 0=lim a∧e 1=lim b∧e 8=.v (.int .i64 (k:Int)))∧∃sv o r,(e 6=.own 37 sv∧e 7=.v (.int .i64 (r:Nat))∧m 37=some (.row sv 128 1 (u16s o) 0))∧o.length=k∧Lm o∧r≤1∧nv o+nv (b.take k)=nv (a.take k)+65536 ^ k*r) (λk=>a.length - k) 0 (by rfl) ?_ ?_
  ·rintro k e m ⟨hk,⟨e0,e1,e8⟩,sv,o,r,⟨e6,e7,em⟩,hol,hLo,hr,hv⟩
   have ga:=Zbv la k;have gb:=Zbv lb k;by_cases hlt2:k < a.length
   ·have step:∀(d r':Nat),d+r+gN b k=gN a k+65536*r'→d < 65536→r'≤1→(o++[d]).length=k+1∧Lm (o++[d])∧r'≤1∧nv (o++[d])+nv (b.take (k+1))=nv (a.take (k+1))+65536 ^ (k+1)*r':=by
     intro d r' hd h3 h4;have:=Zrx hv hd;have nvs:nv (o++[d])=nv o+65536 ^ k*d:=by rw [Zd4,hol];simp [nv]
     rw [nvs,Zav,Zav,Nat.pow_succ];exact⟨by simp [hol],hLo.append (Lm.one h3),h4,this⟩
    by_cases hneg:gN a k < gN b k+r
    ·have hs:=step (gN a k+65536 - gN b k - r) 1 (by omega) (by omega) (by omega);have w:(gN a k:Int) - gN b k - r+65536=((gN a k+65536 - gN b k - r:Nat):Int):=by omega
     (focus (refine wkvp (w_8 e0 e1 e8 e6 e7 em hol w) (w_2 (cl k) (cr k)) ?_;(repeat' first|exact w_t|apply w_l);all_goals intros));exact⟨k+1,⟨by omega,⟨by exact gW e0,by exact gW e1,by exact gV e8⟩,_,_,1,⟨by exact gC,by exact gC,by exact gC⟩,hs⟩,by omega⟩
    ·have hs:=step (gN a k - gN b k - r) 0 (by omega) (by omega) (by omega);have w:(gN a k:Int) - gN b k - r=((gN a k - gN b k - r:Nat):Int):=by omega
     (focus (refine wkvp (w_8 e0 e1 e8 e6 e7 em hol w) (w_2 (cl k) (cr k)) ?_;(repeat' first|exact w_t|apply w_l);all_goals intros));exact⟨k+1,⟨by omega,⟨by exact gW e0,by exact gW e1,by exact gV e8⟩,_,_,0,⟨by exact gC,by exact gC,by exact gC⟩,hs⟩,by omega⟩
   ·have hka:k=a.length:=by omega
    have hbs:=Zbs b k;have hno:=Zhq hLo;rw [hol] at hno;rw [Zbo (l:=a) (by omega)] at hv
    have hno2:nv o=nv a - nv b:=by
     have hbd:nv (b.drop k)=0:=by
      rcases Nat.eq_zero_or_pos (nv (b.drop k)) with h3 | h3
      ·exact h3
      ·have h4:=Nat.le_mul_of_pos_right (65536 ^ k) h3;have h5:=Zhq la;rw [←hka] at h5;omega
     rw [hbd,Nat.mul_zero,Nat.add_zero] at hbs
     have hr0:r=0:=by
      rcases Nat.eq_zero_or_pos r with h3 | h3
      ·exact h3
      ·have:r=1:=by omega
       subst this;omega
     subst hr0;omega
    (repeat' (first|(with_reducible first|refine stp ?_|apply gx1|apply gx2|apply gx3|apply gx4|apply gx5|apply gx6|apply gx7|apply gw1 (Zes o (by omega) hLo))|(with_reducible refine Zcb ?_;intro _)|((with_reducible refine gE ?_);(try simp (disch:=omega) only [go_sem,e0,e1,e8,e6,e7,em])<;>first|rfl|omega)|with_reducible refine Zaj (by decide) ?_))
    simp (disch:=omega) only [go_sem,hno2]
  ·exact⟨Nat.zero_le _,⟨by exact gC,by exact gC,by exact gC⟩,_,[],0,⟨by exact gC,by exact gC,by exact gC⟩,rfl,Lm.nil,by omega,by simp [nv]⟩
def valL (l:List Nat):Bool:=decide (l.length=0) || !decide (gN l (l.length - 1)=0)
theorem Zh9 {l:List Nat} (h:Lm l):valL l=true↔l=toL (nv l):=by
 unfold valL;constructor
 ·intro h1;refine canon h ?_;simp only [Bool.or_eq_true,decide_eq_true_eq,Bool.not_eq_true',decide_eq_false_iff_not] at h1;rcases h1 with h1 | h1
  ·exact .inl (List.eq_nil_of_length_eq_zero h1)
  ·exact .inr (by omega)
 ·intro h1;by_cases h0:nv l=0
  ·rw [h0,Zaw] at h1;subst h1;rfl
  ·obtain⟨h2,h3⟩:=Zd6 h0;rw [←h1] at h2 h3;simp only [Bool.or_eq_true,decide_eq_true_eq,Bool.not_eq_true',decide_eq_false_iff_not];exact .inr (by omega)
theorem Zr7 (l:List Nat) (hs:l.length≤1000000000) (hl:Lm l):Pure prog 162 [lim l] (.v (.bool (valL l))):=by
 refine Zaa (tok:=0) (rs:=[.tmp 2]) func162 rfl ntmps162 results162 call162 (by rfl) (by simp) ?_;have gl:=Zbv hl (l.length - 1);unfold valL;by_cases h0:l.length=0
 ·(focus (refine wkvp (w_1 h0) w_t ?_;(repeat' first|exact w_t|apply w_l);all_goals intros));simp (disch:=omega) only [go_sem,h0]
 ·by_cases h1:gN l (l.length - 1)=0
  ·(focus (refine wkvp (w_2 h1 @Int.natCast_zero) w_t ?_;(repeat' first|exact w_t|apply w_l);all_goals intros));simp (disch:=omega) only [go_sem,h0,h1]
  ·(focus (refine wkvp w_t w_t ?_;(repeat' first|exact w_t|apply w_l);all_goals intros));simp (disch:=omega) only [go_sem,h0,h1]
theorem refSameN (a b:List Nat) (ha:a.length≤1000000000) (hb:b.length≤1000000000) (la:Lm a) (lb:Lm b):Pure prog 163 [lim a,lim b] (.v (.bool (decide (a=b)))):=by
 refine Zaa (tok:=0) (rs:=[.tmp 4]) func163 rfl ntmps163 results163 call163 (by rfl) (by simp) ?_;by_cases hl:a.length=b.length
 ·(focus (refine wkvp (w_1 hl) w_t ?_;(repeat' first|exact w_t|apply w_l);all_goals intros));refine Zae (ι:=Nat) (λk e m=>k≤a.length∧(e 0=lim a∧e 1=lim b∧e 5=.v (.int .i64 (k:Int)))∧∀j,j < k→gN a j=gN b j) (λk=>a.length - k) 0 (by rfl) ?_ ?_
  ·rintro k e m ⟨hk,⟨e0,e1,e5⟩,hs⟩
   by_cases hlt:k < a.length
   ·by_cases p:gN a k=gN b k
    ·(focus (refine wkad (w_3 e0 e1 e5) w_t w_t ?_;(repeat' first|exact w_t|apply w_l);all_goals intros));exact⟨k+1,⟨by omega,⟨by exact gW e0,by exact gW e1,by exact gV e5⟩,λj hj=>by
      rcases Nat.lt_or_ge j k with h1 | h1
      ·exact hs j h1
      ·rw [show j=k by omega];exact p⟩,by omega⟩
    ·have hne:decide (a=b)=false:=decide_eq_false λh=>p (by rw [h]);(focus (refine wkad (w_3 e0 e1 e5) w_t w_t ?_;(repeat' first|exact w_t|apply w_l);all_goals intros));simp (disch:=omega) only [go_sem,hne]
   ·have he:decide (a=b)=true:=decide_eq_true (List.ext_getElem hl λj h1 h2=>by
     have:=hs j (by omega)
     rwa [gN_at h1,gN_at h2] at this)
    (focus (refine wkad (w_3 e0 e1 e5) w_t w_t ?_;(repeat' first|exact w_t|apply w_l);all_goals intros));simp (disch:=omega) only [go_sem,he]
  ·exact⟨Nat.zero_le _,⟨by exact gC,by exact gC,by exact gC⟩,λj hj=>by omega⟩
 ·have hne:decide (a=b)=false:=decide_eq_false λh=>hl (by rw [h]);(focus (refine wkvp w_t w_t ?_;(repeat' first|exact w_t|apply w_l);all_goals intros));simp (disch:=omega) only [go_sem,hne]
theorem refMul (a b:List Nat) (ha:a.length≤400000000) (hb:b.length≤400000000) (la:Lm a) (lb:Lm b):Pure prog 134 [lim a,lim b] (lim (toL (nv a*nv b))):=by
 have cr:=λi=>Zki b i (by omega) lb;refine Zaa (tok:=0) (rs:=[.tmp 4]) func134 rfl ntmps134 results134 call134 (by rfl) (by simp) ?_;(focus (refine wkvp (w_2 @Za0 @Zbq) w_t ?_;(repeat' first|exact w_t|apply w_l);all_goals intros));refine Zae (ι:=Nat) (λi e m=>i≤a.length∧(e 0=lim a∧e 1=lim b∧e 6=.v (.int .i64 i))∧∃sv o,(e 5=.own 16 sv∧m 16=some (.row sv 128 1 (u16s o) 0))∧o.length=a.length+b.length+1∧Lm o∧(∀j,i+b.length≤j→gN o j=0)∧nv o=nv (a.take i)*nv b) (λi=>a.length - i) 0 (by rfl) ?_ ?_
 ·rintro i e m ⟨hi,⟨e0,e1,e6⟩,sv,o,⟨e5,em⟩,hol,hLo,hz,hv⟩
  by_cases hlt:i < a.length
  ·have gx:=Zbv la i;(focus (refine wkvp (w_7 e0 e1 e6 e5 em hol @Za0) w_t ?_;(repeat' first|exact w_t|apply w_l);all_goals intros));refine Zae (ι:=Nat) (λk e' m'=>k≤b.length+1∧(e' 0=lim a∧e' 1=lim b∧e' 6=.v (.int .i64 i)∧e' 8=.v (.int .i64 k)∧e' 5=.own 16 sv)∧∃o' c,(e' 7=.v (.int .u64 (c:Nat))∧m' 16=some (.row sv 128 1 (u16s o') 0))∧o'.length=a.length+b.length+1∧Lm o'∧c < 65536∧(b.length < k→c=0)∧(∀j,i+max b.length k≤j→gN o' j=0)∧nv o'+65536 ^ (i+k)*c=nv o+65536 ^ i*nv (b.take k)*gN a i) (λk=>b.length+1 - k) 0 (by rfl) ?_ ?_
   ·rintro k e m ⟨hk,⟨e0,e1,e6,e8,e5⟩,o',c,⟨e7,em⟩,hol',hLo',hc,hcz,hz',hv'⟩
    have gy:=Zbv lb k;have go:=Zbv hLo' (i+k);have bd:=Zoy gx gy;by_cases hgo:k < b.length∨0 < c
    ·have hkb:k≤b.length:=by
      rcases hgo with h | h
      ·omega
      ·rcases Nat.lt_or_ge b.length k with h2 | h2
       ·have:=hcz h2;omega
       ·exact h2
     have hs:=Zsr (x:=gN a i) (y:=gN b k) rfl (Zos (o:=o') (j:=i+k) (by omega) _) hv';rw [←Zss,←Zav,←Nat.pow_succ,Nat.succ_eq_add_one,Nat.add_assoc i] at hs;have ecomm:gN o' (i+k)+gN a i*gN b k+c=c+(gN o' (i+k)+gN a i*gN b k):=by omega
     have hcz2:b.length < k+1→(c+(gN o' (i+k)+gN a i*gN b k))/65536=0:=by
      intro h;have g1:gN b k=0:=Zfb (by omega);have g2:=hz' (i+k) (by omega);rw [g1,g2];omega
     have w1:(c+(gN o' (i+k)+gN a i*gN b k))/65536 < 65536:=by omega
     have w2:(c+(gN o' (i+k)+gN a i*gN b k))%65536 < 65536:=by omega
     generalize hxy:gN a i*gN b k=xy at *;have r1:((c+(gN o' (i+k)+xy):Nat):Int).tmod 65536=(((c+(gN o' (i+k)+xy))%65536:Nat):Int):=Zfg _ 65536;have r2:((c+(gN o' (i+k)+xy):Nat):Int).tdiv 65536=(((c+(gN o' (i+k)+xy))/65536:Nat):Int):=Zdp _ 65536;have r3:(c+(gN o' (i+k)+xy))%65536%65536=(c+(gN o' (i+k)+xy))%65536:=Nat.mod_mod _ _;have hzz:∀j,i+max b.length (k+1)≤j→gN (o'.set (i+k) ((c+(gN o' (i+k)+xy))%65536)) j=0:=λj hj=>by
      rw [Zfy (by omega),if_neg (by omega)];exact hz' j (by omega)
     by_cases h3:k < b.length
     ·(repeat' (first|(with_reducible first|refine stp ?_|apply gx1|apply gx2|apply gx3|apply gx4|apply gx5|apply gx6|apply gx7|apply gy8|apply gz2|apply gz3|refine gw0 (cr k) ?_ ?_|refine gw3 (cr k) ?_ ?_ ?_)|(with_reducible refine Zcb ?_;intro _)|((with_reducible refine gE ?_);(try simp (disch:=omega) only [go_sem,e0,e1,e6,e8,e5,e7,em,hol',Za0,Zeu,Zbf,hxy,ecomm,r1,r2,r3])<;>first|rfl|omega)|with_reducible refine Zaj (by decide) ?_|((with_reducible apply gy1);iterate 3 focus rfl)|((with_reducible apply gy2);iterate 3 focus rfl)|((with_reducible apply gy3);iterate 2 focus rfl)|((with_reducible apply gy4);iterate 1 focus rfl)|((with_reducible apply gy5);iterate 4 focus rfl)|((with_reducible apply gy5c);iterate 4 focus rfl)|((with_reducible apply gy6);iterate 4 focus rfl)|((with_reducible apply Zhr);iterate 3 focus rfl)|((with_reducible apply Zho);iterate 1 focus rfl)|((with_reducible apply gy7);iterate 1 focus rfl)|((with_reducible apply gy9);(focus ((with_reducible refine gE ?_);(try simp (disch:=omega) only [go_sem,e0,e1,e6,e8,e5,e7,em,hol',Za0,Zeu,Zbf,hxy,ecomm,r1,r2,r3])<;>rfl)))|((with_reducible apply gz1);(focus first|rfl|(simp (disch:=omega) only [go_sem,e0,e1,e6,e8,e5,e7,em,hol',Za0,Zeu,Zbf,hxy,ecomm,r1,r2,r3];done)))|((with_reducible apply Zcf (Zd3 [(14,.v (.int .i64 (gN b k:Nat)))]) [] []);(focus kernel_rfl);(focus rfl);(focus kernel_rfl);(focus (simp only [List.length_cons,List.length_nil,Nat.reduceAdd];rfl)))))
      exact⟨k+1,⟨by omega,⟨by exact gW e0,by exact gW e1,by exact gW e6,by exact gS,by exact gW e5⟩,_,_,⟨by exact gC,by exact gC⟩,by simpa using hol',hLo'.set _ w2,w1,hcz2,hzz,hs⟩,by omega⟩
     ·have hc1:0 < c:=by omega
      (repeat' (first|(with_reducible first|refine stp ?_|apply gx1|apply gx2|apply gx3|apply gx4|apply gx5|apply gx6|apply gx7|apply gy8|apply gz2|apply gz3|refine gw0 (cr k) ?_ ?_|refine gw3 (cr k) ?_ ?_ ?_)|(with_reducible refine Zcb ?_;intro _)|((with_reducible refine gE ?_);(try simp (disch:=omega) only [go_sem,e0,e1,e6,e8,e5,e7,em,hol',Za0,Zeu,Zbf,hxy,ecomm,r1,r2,r3])<;>first|rfl|omega)|with_reducible refine Zaj (by decide) ?_|((with_reducible apply gy1);iterate 3 focus rfl)|((with_reducible apply gy2);iterate 3 focus rfl)|((with_reducible apply gy3);iterate 2 focus rfl)|((with_reducible apply gy4);iterate 1 focus rfl)|((with_reducible apply gy5);iterate 4 focus rfl)|((with_reducible apply gy5c);iterate 4 focus rfl)|((with_reducible apply gy6);iterate 4 focus rfl)|((with_reducible apply Zhr);iterate 3 focus rfl)|((with_reducible apply Zho);iterate 1 focus rfl)|((with_reducible apply gy7);iterate 1 focus rfl)|((with_reducible apply gy9);(focus ((with_reducible refine gE ?_);(try simp (disch:=omega) only [go_sem,e0,e1,e6,e8,e5,e7,em,hol',Za0,Zeu,Zbf,hxy,ecomm,r1,r2,r3])<;>rfl)))|((with_reducible apply gz1);(focus first|rfl|(simp (disch:=omega) only [go_sem,e0,e1,e6,e8,e5,e7,em,hol',Za0,Zeu,Zbf,hxy,ecomm,r1,r2,r3];done)))|((with_reducible apply Zcf (Zd3 [(14,.v (.int .i64 (gN b k:Nat)))]) [] []);(focus kernel_rfl);(focus rfl);(focus kernel_rfl);(focus (simp only [List.length_cons,List.length_nil,Nat.reduceAdd];rfl)))))
      exact⟨k+1,⟨by omega,⟨by exact gW e0,by exact gW e1,by exact gW e6,by exact gS,by exact gW e5⟩,_,_,⟨by exact gC,by exact gC⟩,by simpa using hol',hLo'.set _ w2,w1,hcz2,hzz,hs⟩,by omega⟩
    ·have hc0:c=0:=by omega
     subst hc0;rw [Zbo (l:=b) (by omega),Nat.mul_zero,Nat.add_zero] at hv';(focus (refine wkad (w_8 e0 e1 e6 e8 e5 e7 em @Int.natCast_zero) w_t w_t ?_;(repeat' first|exact w_t|apply w_l);all_goals intros));refine⟨i+1,⟨by omega,⟨by exact gW e0,by exact gW e1,by exact gS⟩,sv,o',⟨by exact gW e5,by exact gW em⟩,hol',hLo',λj hj=>hz' j (by omega),?_⟩,by omega⟩;rw [hv',hv,Zav,Nat.add_mul];congr 1;simp only [Nat.mul_assoc,Nat.mul_comm,Nat.mul_left_comm]
   ·exact⟨by omega,⟨by exact gW e0,by exact gW e1,by exact gW e6,by exact gC,by exact gW e5⟩,_,0,⟨by exact gC,by exact gW em⟩,hol,hLo,by omega,λ_=>rfl,λj hj=>hz j (by omega),by simp [nv]⟩
  ·have hiA:i=a.length:=by omega
   subst hiA;rw [Zbo (Nat.le_refl _)] at hv
   (repeat' (first|(with_reducible first|refine stp ?_|apply gx1|apply gx2|apply gx3|apply gx4|apply gx5|apply gx6|apply gx7|apply gw1 (Zes o (by omega) hLo))|(with_reducible refine Zcb ?_;intro _)|((with_reducible refine gE ?_);(try simp (disch:=omega) only [go_sem,e0,e1,e6,e5,em,hol])<;>first|rfl|omega)|with_reducible refine Zaj (by decide) ?_))
   simp (disch:=omega) only [go_sem,hv]
 ·exact⟨Nat.zero_le _,⟨by exact gC,by exact gC,by exact gC⟩,_,List.replicate (a.length+b.length+1) 0,⟨by exact gC,by exact gC⟩,by simp,Lm.zeros _,λj hj=>Zhh _ _,by simp [nv,Zmz]⟩
theorem refDigit (R B:Nat) (hR:(toL R).length≤300000000) (hB:(toL B).length≤200000000) (h0:0 < B) (hlt:R < B*65536):Pure prog 232 [lim (toL R),lim (toL B)] (.v (.int .u64 ((R/B:Nat):Int))):=by
 refine Zaa (tok:=0) (rs:=[.tmp 4]) func232 rfl ntmps232 results232 call232 (by rfl) (by simp) ?_;(focus (refine wkvp w_t w_t ?_;(repeat' first|exact w_t|apply w_l);all_goals intros));refine Zae (ι:=Nat × Nat) (λp e m=>(e 0=lim (toL R)∧e 1=lim (toL B)∧e 5=.v (.int .u64 (p.1:Int))∧e 6=.v (.int .u64 (p.2:Int)))∧p.1≤p.2∧p.2≤65535∧B*p.1≤R∧R < B*(p.2+1)) (λp=>p.2 - p.1) (0,65535) (by rfl) ?_ ?_
 ·rintro ⟨lo,hi⟩ e m ⟨⟨e0,e1,e5,e6⟩,h1,h2,h3,h4⟩
  simp only at e5 e6 h1 h2 h3 h4;by_cases hlh:lo < hi
  ·obtain⟨mid,hmid⟩:∃mid,(lo+hi+1)/2=mid:=⟨_,rfl⟩;have r2:((lo+hi+1:Nat):Int).tdiv 2=((mid:Nat):Int):=by rw [←hmid];exact Zdp _ 2
   have co:=Zoe mid (by omega);have lm:(toL mid).length≤4:=Zaf.2 (by omega);have cm:=refMul (toL B) (toL mid) (by omega) (by omega) (Zap _) (Zap _);rw [Zao,Zao] at cm
   have lbm:(toL (B*mid)).length≤1000000000:=by
    have h5:(toL (B*mid)).length≤(toL B).length+4:=by
     rw [Zaf,Nat.pow_add];have h6:=Zaf.1 (Nat.le_refl (toL B).length);exact Nat.mul_lt_mul'' h6 (by omega)
    omega
   have cc:=refCmp (toL (B*mid)) (toL R) lbm (by omega) (Zap _) (Zap _);rw [Zao,Zao] at cc;by_cases hle:B*mid≤R
   ·have hc:cmpN (B*mid) R≤0:=by unfold cmpN;split;omega;split<;>omega
    (focus (refine wkvp (w_8 e0 e1 e5 e6 @Za0 @Zbq r2 hc) (w_3 co cm cc) ?_;(repeat' first|exact w_t|apply w_l);all_goals intros));exact⟨(mid,hi),⟨⟨by exact gW e0,by exact gW e1,by exact gC,by exact gW e6⟩,by omega,h2,hle,h4⟩,by simp only;omega⟩
   ·have hc:0 < cmpN (B*mid) R:=by unfold cmpN;rw [if_neg (by omega),if_pos (by omega)];omega
    have em1:(mid:Int) - 1=((mid - 1:Nat):Int):=by omega
    (focus (refine wkvp (w_9 e0 e1 e5 e6 @Za0 @Zbq r2 hc em1) (w_3 co cm cc) ?_;(repeat' first|exact w_t|apply w_l);all_goals intros));exact⟨(lo,mid - 1),⟨⟨by exact gW e0,by exact gW e1,by exact gW e5,by exact gC⟩,by simp only;omega,by simp only;omega,h3,by simp only;rw [show mid - 1+1=mid by omega];omega⟩,by simp only;omega⟩
  ·have hh:lo=hi:=by omega
   subst hh;have hd:R/B=lo:=Nat.div_eq_of_lt_le (by rw [Nat.mul_comm];exact h3) (by rw [Nat.mul_comm];exact h4);(focus (refine wkvp (w_4 e0 e1 e5 e6) w_t ?_;(repeat' first|exact w_t|apply w_l);all_goals intros));simp (disch:=omega) only [go_sem,hd]
 ·exact⟨⟨by exact gC,by exact gC,by exact gC,by exact gC⟩,by simp,by simp,by simp,by simpa using hlt⟩
theorem Zn2 (x:Nat) (l:List Nat):AV.v (.int .u16 (x:Int)) :: u16s l=u16s (x :: l):=rfl
theorem Zof (a b:List Nat) (ha:a.length≤200000000) (hb:b.length≤200000000) (la:Lm a) (lb:Lm b) (h0:nv b≠0):Pure prog 197 [lim a,lim b] (.tup [lim (toL (nv a/nv b)),lim (toL (nv a%nv b)),.v (.int .i64 0)]):=by
 have h1:=Zar la;have h2:=Zar lb;have va:=Zao (nv a);have vb:=Zao (nv b);have ma:=Zap (nv a);have mb:=Zap (nv b);have hb1:=(Zd6 h0).1;have hbp:=Nat.pos_of_ne_zero h0;by_cases h4:(toL (nv a)).length≤4∧(toL (nv b)).length≤4
 ·obtain⟨h4a,h4b⟩:=h4;have ca:=Zr8 (toL (nv a)) h4a ma;have cb:=Zr8 (toL (nv b)) h4b mb;rw [va] at ca;rw [vb] at cb;have hA:=Zaf.1 h4a;have hB:=Zaf.1 h4b;have hq:=Nat.div_le_self (nv a) (nv b);have hr:=Nat.mod_le (nv a) (nv b);have cq:=Zoe (nv a/nv b) (by omega);have cr:=Zoe (nv a%nv b) (by omega);have wq:IntKind.u64.wrap ((nv a/nv b:Nat):Int)=((nv a/nv b:Nat):Int):=Zf4 (Int.natCast_nonneg _) (by
   have:((nv a/nv b:Nat):Int)≤(nv a:Int):=Int.ofNat_le.2 hq;omega)
  have hn:((nv b:Nat):Int)≠0:=by omega
  refine Zaa (tok:=0) (rs:=[.tmp 4,.tmp 5,.tmp 6]) func197 rfl ntmps197 results197 call197 (by rfl) (by simp) ?_;(focus (refine wkad (w_4 @Zdp @Zfg wq hn) (w_6 (Zes a (by omega) la) (Zes b (by omega) lb) ca cb cq cr) w_t ?_;(repeat' first|exact w_t|apply w_l);all_goals intros));simp (disch:=omega) only [go_sem]
 ·have h4':((toL (nv a)).length≤4)→4 < (toL (nv b)).length:=λh=>by
   rcases Nat.lt_or_ge 4 (toL (nv b)).length with h3 | h3
   ·exact h3
   ·exact absurd ⟨h,h3⟩ h4
  obtain⟨A,hA⟩:∃A,toL (nv a)=A:=⟨_,rfl⟩;rw [hA] at va ma h1 h4';refine Zaa (tok:=0) (rs:=[.tmp 4,.tmp 5,.tmp 6]) func197 rfl ntmps197 results197 call197 (by rfl) (by simp) ?_;rcases Nat.lt_or_ge 4 A.length with h5 | h5
  rotate_left
  have h6:=h4' h5;all_goals
   (focus (refine wkvp (w_1 hA) (w_2 (Zes a (by omega) la) (Zes b (by omega) lb)) ?_;(repeat' first|exact w_t|apply w_l);all_goals intros));rw [hA];refine Zgr (Frz.trans (Frz.nil (d:=7) 1 (by exact gC)) (Frz.nil (d:=8) 1 (by exact gC))) ?_;refine Zwp (ι:=Nat) (λk e m=>k≤A.length∧(e 0=lim A∧e 1=lim (toL (nv b))∧e 9=.v (.int .i64 ((k:Int) - 1)))∧∃ql R,(e 7=lim ql∧e 8=lim (toL R))∧ql.length=A.length - k∧Lm ql∧R < nv b∧nv (A.drop k)=nv ql*nv b+R) (λk=>k) A.length (by rfl) ?_ ?_
   ·rintro k e m ⟨hk,⟨e0,e1,e9⟩,ql,R,⟨e7,e8⟩,hql,hqL,hR,hv⟩
    by_cases hk0:k=0
    ·subst hk0;rw [List.drop_zero,va] at hv;have hq:nv ql=nv a/nv b:=by rw [hv,Nat.mul_comm,Nat.mul_add_div hbp,Nat.div_eq_of_lt hR,Nat.add_zero]
     have hr:R=nv a%nv b:=by rw [hv,Nat.mul_comm,Nat.mul_add_mod,Nat.mod_eq_of_lt hR]
     have cn:=Zes ql (by omega) hqL;rw [hq] at cn;rw [hr] at e8;(focus (refine wkvp (w_5 e0 e1 e9 e7 e8) (w_1 cn) ?_;(repeat' first|exact w_t|apply w_l);all_goals intros));simp (disch:=omega) only [go_sem]
    ·obtain⟨j,rfl⟩:∃j,k=j+1:=⟨k - 1,by omega⟩;have ej:((j+1:Nat):Int) - 1=(j:Int):=by omega
     rw [ej] at e9;have gx:=Zbv ma j;have hRl:(toL R).length≤(toL (nv b)).length:=Za4 (by omega);have cn:=Zes (gN A j :: toL R) (by simp;omega) (λy hy=>by
      rcases List.mem_cons.1 hy with rfl | hy
      ·exact gx
      ·exact Zap R y hy)
     have en:nv (gN A j :: toL R)=gN A j+65536*R:=by rw [nv,Zao]
     rw [en] at cn;have hX:gN A j+65536*R < nv b*65536:=by omega
     obtain⟨X,hXd⟩:∃X,gN A j+65536*R=X:=⟨_,rfl⟩;rw [hXd] at cn hX
     have hXl:(toL X).length≤(toL (nv b)).length+1:=by
      rw [Zaf,Nat.pow_succ];exact Nat.lt_of_lt_of_le hX (Nat.mul_le_mul_right _ (Nat.le_of_lt (Zaf.1 (Nat.le_refl (toL (nv b)).length))))
     have cd:=refDigit X (nv b) (by omega) (by omega) hbp hX;have hd:X/nv b < 65536:=by rw [Nat.div_lt_iff_lt_mul hbp,Nat.mul_comm];exact hX
     have hdm:=Nat.div_add_mod X (nv b);have hml:=Nat.mod_lt X hbp;have co:=Zoe (X/nv b) (by omega);have ld:(toL (X/nv b)).length≤1:=Zaf.2 (by omega);have cm:=refMul (toL (nv b)) (toL (X/nv b)) (by omega) (by omega) (Zap _) (Zap _);rw [Zao,Zao] at cm;have hle:nv b*(X/nv b)≤X:=by omega
     have cs:=refSub (toL X) (toL (nv b*(X/nv b))) (by omega) (Nat.le_trans (Za4 hle) (by omega)) (Zap _) (Zap _);rw [Zao,Zao,if_neg (by omega),if_neg (by omega),show X - nv b*(X/nv b)=X%nv b by omega] at cs;have hcut:X/nv b%65536=X/nv b:=Nat.mod_eq_of_lt hd
     (repeat' (first|(with_reducible first|refine stp ?_|apply gx1|apply gx2|apply gx3|apply gx4|apply gx5|apply gx6|apply gx7|apply gw1 (cn)|refine gw0 (cd) ?_ ?_|refine gw0 (co) ?_ ?_|refine gw0 (cm) ?_ ?_|refine gw0 (cs) ?_ ?_)|(with_reducible refine Zcb ?_;intro _)|((with_reducible refine gE ?_);(try simp (disch:=omega) only [go_sem,e0,e1,e9,e7,e8,Zn2,Zbf,hcut])<;>first|rfl|omega)|with_reducible refine Zaj (by decide) ?_))
     refine⟨j,_,Frz.own (d:=7) (by exact gC) (by exact gC),⟨by omega,⟨by exact gW e0,by exact gW e1,by exact gC⟩,X/nv b :: ql,X%nv b,⟨by(simp (disch:=omega) only [go_sem,Zn2]<;>repeat' first|rfl|refine⟨?_,?_⟩),by exact gC⟩,by simp [hql];omega,?_,hml,?_⟩,by omega⟩
     ·intro y hy;rcases List.mem_cons.1 hy with rfl | hy
      ·exact hd
      ·exact hqL y hy
     ·rw [Zbw,hv,nv,Nat.add_mul,Nat.mul_add 65536,←hXd];rw [←hXd] at hdm;rw [Nat.mul_comm] at hdm;have:65536*(nv ql*nv b)=65536*nv ql*nv b:=by rw [Nat.mul_assoc]
      omega
   ·exact⟨Nat.le_refl _,⟨by exact gC,by exact gC,by exact gC⟩,[],0,⟨by(simp (disch:=omega) only [go_sem,Zrt]<;>repeat' first|rfl|refine⟨?_,?_⟩),by(simp (disch:=omega) only [go_sem,Zaw,Zrt]<;>repeat' first|rfl|refine⟨?_,?_⟩)⟩,by simp,Lm.nil,hbp,by rw [List.drop_eq_nil_of_le (Nat.le_refl _)];simp [nv]⟩
theorem refGcd (a b:List Nat) (ha:a.length≤200000000) (hb:b.length≤200000000) (la:Lm a) (lb:Lm b):Pure prog 164 [lim a,lim b] (lim (toL (Nat.gcd (nv a) (nv b)))):=by
 have h1:=Zar la;have h2:=Zar lb
 have cd:∀x y:Nat,(toL x).length≤200000000→(toL y).length≤200000000→y≠0→Pure prog 197 [lim (toL x),lim (toL y)] (.tup [lim (toL (x/y)),lim (toL (x%y)),.v (.int .i64 0)]):=by
  intro x y hx hy h0;have:=Zof (toL x) (toL y) hx hy (Zap x) (Zap y) (by rw [Zao];exact h0)
  rwa [Zao,Zao] at this
 refine Zaa (tok:=0) (rs:=[.tmp 4]) func164 rfl ntmps164 results164 call164 (by rfl) (by simp) ?_;(focus (refine wkvp w_t (w_2 (Zes a (by omega) la) (Zes b (by omega) lb)) ?_;(repeat' first|exact w_t|apply w_l);all_goals intros));refine Zae (ι:=Nat) (λy e m=>∃x,(e 0=lim (toL x)∧e 1=lim (toL y))∧(toL x).length≤200000000∧(toL y).length≤200000000∧Nat.gcd x y=Nat.gcd (nv a) (nv b)) (λy=>y) (nv b) (by rfl) ?_ ?_
 ·rintro y e m ⟨x,⟨e0,e1⟩,hx,hy,hg⟩
  rcases Nat.eq_zero_or_pos y with h0 | h0
  ·subst h0;have hl:=Zbl.2 (rfl:(0:Nat)=0);rw [Nat.gcd_zero_right] at hg;(focus (refine wkvp (w_3 e0 e1 hl) w_t ?_;(repeat' first|exact w_t|apply w_l);all_goals intros));simp (disch:=omega) only [go_sem,hg]
  ·have hl:0 < (toL y).length:=by
    have:=(Zd6 (show y≠0 by omega)).1;omega
   have hm:=Nat.mod_lt x h0;have hml:(toL (x%y)).length≤200000000:=Nat.le_trans (Za4 (Nat.le_of_lt hm)) hy;have hgg:Nat.gcd y (x%y)=Nat.gcd (nv a) (nv b):=by rw [←hg,Nat.gcd_comm x y,Nat.gcd_rec y x,Nat.gcd_comm]
   (focus (refine wkvp (w_2 e0 e1) (w_1 (cd x y hx hy (by omega))) ?_;(repeat' first|exact w_t|apply w_l);all_goals intros));exact⟨x%y,⟨y,⟨by exact gW e1,by exact gC⟩,hy,hml,hgg⟩,hm⟩
 ·exact⟨nv a,⟨by exact gC,by exact gC⟩,by omega,by omega,rfl⟩
theorem nAdd (n m:Nat) (hn:(toL n).length≤100000000) (hm:(toL m).length≤100000000):Pure prog 254 [lim (toL n),lim (toL m)] (lim (toL (n+m))):=by
 have:=natAdd (toL n) (toL m) (by omega) (by omega) (Zap _) (Zap _)
 rwa [Zao,Zao] at this
theorem nMul (n m:Nat) (hn:(toL n).length≤100000000) (hm:(toL m).length≤100000000):Pure prog 151 [lim (toL n),lim (toL m)] (lim (toL (n*m))):=by
 have:=natMul (toL n) (toL m) (by omega) (by omega) (Zap _) (Zap _)
 rwa [Zao,Zao] at this
theorem nCmp (n m:Nat) (hn:(toL n).length≤100000000) (hm:(toL m).length≤100000000):Pure prog 212 [lim (toL n),lim (toL m)] (.v (.int .i64 (cmpN n m))):=by
 have:=Zsp (toL n) (toL m) (by omega) (by omega) (Zap _) (Zap _)
 rwa [Zao,Zao] at this
theorem nSub (n m:Nat) (hn:(toL n).length≤100000000) (hm:(toL m).length≤100000000):Pure prog 255 [lim (toL n),lim (toL m)] (.tup [lim (if n < m then [] else toL (n - m)),.v (.int .i64 (if n < m then 2 else 0))]):=by
 have:=natSub (toL n) (toL m) (by omega) (by omega) (Zap _) (Zap _)
 rwa [Zao,Zao] at this
theorem Zxk (n m:Nat) (hn:(toL n).length≤100000000) (hm:(toL m).length≤100000000) (h0:m≠0):Pure prog 158 [lim (toL n),lim (toL m)] (.tup [lim (toL (n/m)),lim (toL (n%m)),.v (.int .i64 0)]):=by
 have:=Zov (toL n) (toL m) (by omega) (by omega) (Zap _) (Zap _) (by rw [Zao];exact h0)
 rwa [Zao,Zao] at this
theorem nGcd (n m:Nat) (hn:(toL n).length≤100000000) (hm:(toL m).length≤100000000):Pure prog 95 [lim (toL n),lim (toL m)] (lim (toL (Nat.gcd n m))):=by
 have:=natGcd (toL n) (toL m) (by omega) (by omega) (Zap _) (Zap _)
 rwa [Zao,Zao] at this
theorem Zox (n:Nat) (hn:(toL n).length≤100000000):Pure prog 155 [lim (toL n)] (lim (toL n)):=by
 have:=Zm1 (toL n) (by omega) (Zap _)
 rwa [Zao] at this
theorem Zxl (n:Nat) (hn:(toL n).length≤100000000):Pure prog 159 [lim (toL n)] (.v (.int .i64 (Znt n:Nat))):=by
 have:=natBits (toL n) (by omega) (Zap _)
 rwa [Zao] at this
theorem Zwq (n m:Nat) (hn:(toL n).length≤100000000) (hm:(toL m).length≤100000000) (h0:m≠0):Pure prog 197 [lim (toL n),lim (toL m)] (.tup [lim (toL (n/m)),lim (toL (n%m)),.v (.int .i64 0)]):=by
 have:=Zof (toL n) (toL m) (by omega) (by omega) (Zap _) (Zap _) (by rw [Zao];exact h0)
 rwa [Zao,Zao] at this
theorem rGcd (n m:Nat) (hn:(toL n).length≤100000000) (hm:(toL m).length≤100000000):Pure prog 164 [lim (toL n),lim (toL m)] (lim (toL (Nat.gcd n m))):=by
 have:=refGcd (toL n) (toL m) (by omega) (by omega) (Zap _) (Zap _)
 rwa [Zao,Zao] at this
theorem rNorm (n:Nat) (hn:(toL n).length≤100000000):Pure prog 196 [lim (toL n)] (lim (toL n)):=by
 have:=Zes (toL n) (by omega) (Zap _)
 rwa [Zao] at this
theorem szB:szOf prog 4=some 1:=by kernel_rfl
theorem zB:Zau prog 4=some (.bool false):=by kernel_rfl
theorem Zax:szOf prog 50=some 1:=by kernel_rfl
theorem zNat:Zau prog 50=some (.slice none 0 0):=by kernel_rfl
theorem Zay:szOf prog 52=some 2:=by kernel_rfl
theorem zInt:Zau prog 52=some (.agg #[.bool false,.slice none 0 0]):=by kernel_rfl
theorem Zas:szOf prog 54=some 3:=by kernel_rfl
theorem zRat:Zau prog 54=some (.agg #[.bool false,.slice none 0 0,.slice none 0 0]):=by kernel_rfl
abbrev intA (s:Bool) (n:Nat):AV:=.agg [.v (.bool s),lim (toL n)]
def zI (s:Bool) (n:Nat):Int:=if s then -(n:Int) else n
abbrev intZ (z:Int):AV:=intA (decide (z < 0)) z.natAbs
theorem Zcy (z:Int):zI (decide (z < 0)) z.natAbs=z:=by
 unfold zI;by_cases h:z < 0
 ·rw [if_pos (by simpa using h)];omega
 ·rw [if_neg (by simpa using h)];omega
theorem Zdz (s:Bool) (n:Nat):(zI s n).natAbs=n:=by cases s<;>simp [zI]
theorem zI_lt (s:Bool) (n:Nat):decide (zI s n < 0)=(s && decide (0 < n)):=by
 cases s
 ·simp [zI]
 ·simp only [zI,if_true,Bool.true_and];by_cases h:0 < n
  ·rw [decide_eq_true (by omega),decide_eq_true h]
  ·rw [decide_eq_false (by omega),decide_eq_false h]
theorem Zfj (s:Bool) (n:Nat):intZ (zI s n)=.agg [.v (.bool (s && decide (0 < n))),lim (toL n)]:=by
 unfold intZ intA;rw [zI_lt,Zdz]
theorem Za8 {n:Nat}:(0 < (toL n).length)↔0 < n:=by
 have:=@Zbl n;omega
attribute [local go_sem] underlying4 underlying52 underlying54 underlying33 underlying174 szB zB Zax zNat Zay zInt Zas zRat
theorem Zi4 (s:Bool) (n:Nat) (hn:(toL n).length≤1000000000):Pure prog 190 [.v (.bool s),lim (toL n)] (intZ (zI s n)):=by
 rw [Zfj];have hp:=@Za8 n;cases s
 ·refine Zaa (tok:=0) func190 rfl ntmps190 results190 call190 (by rfl) (by simp) ?_;(focus (refine wkvp w_t w_t ?_;(repeat' first|exact w_t|apply w_l);all_goals intros));simp (disch:=omega) only [go_sem,Bool.false_and]
 ·by_cases h:0 < n
  ·refine Zaa (tok:=0) func190 rfl ntmps190 results190 call190 (by rfl) (by simp) ?_;(focus (refine wkvp w_t w_t ?_;(repeat' first|exact w_t|apply w_l);all_goals intros));simp (disch:=omega) only [go_sem,decide_eq_true h]
  ·refine Zaa (tok:=0) func190 rfl ntmps190 results190 call190 (by rfl) (by simp) ?_;(focus (refine wkvp w_t w_t ?_;(repeat' first|exact w_t|apply w_l);all_goals intros));simp (disch:=omega) only [go_sem,decide_eq_false h]
theorem intOf' (s:Bool) (n:Nat) (hn:(toL n).length≤100000000):Pure prog 237 [.v (.bool s),lim (toL n)] (intZ (zI s n)):=by
 rw [Zfj];have hp:=@Za8 n;cases s
 ·refine Zaa (tok:=0) func237 rfl ntmps237 results237 call237 (by rfl) (by simp) ?_;(focus (refine wkvp w_t (w_1 (Zox n hn)) ?_;(repeat' first|exact w_t|apply w_l);all_goals intros));simp (disch:=omega) only [go_sem,Bool.false_and]
 ·by_cases h:0 < n
  ·refine Zaa (tok:=0) func237 rfl ntmps237 results237 call237 (by rfl) (by simp) ?_;(focus (refine wkvp w_t (w_1 (Zox n hn)) ?_;(repeat' first|exact w_t|apply w_l);all_goals intros));simp (disch:=omega) only [go_sem,decide_eq_true h]
  ·refine Zaa (tok:=0) func237 rfl ntmps237 results237 call237 (by rfl) (by simp) ?_;(focus (refine wkvp w_t (w_1 (Zox n hn)) ?_;(repeat' first|exact w_t|apply w_l);all_goals intros));simp (disch:=omega) only [go_sem,decide_eq_false h]
theorem intNorm (s:Bool) (n:Nat) (hn:(toL n).length≤100000000):Pure prog 208 [intA s n] (intZ (zI s n)):=by
 refine Zaa (tok:=0) func208 rfl ntmps208 results208 call208 (by rfl) (by simp) ?_;(focus (refine wkvp w_t (w_1 (intOf' s n hn)) ?_;(repeat' first|exact w_t|apply w_l);all_goals intros));simp (disch:=omega) only [go_sem]
theorem Zq5 (s:Bool) (n:Nat) (hn:(toL n).length≤100000000):Pure prog 97 [intA s n] (.v (.int .i64 (zI s n).sign)):=by
 by_cases h:n=0
 ·have hb:Znt n=0:=Zhk.2 h;have hz:(zI s n).sign=0:=by subst h;cases s<;>rfl
  rw [hz];refine Zaa (tok:=0) func97 rfl ntmps97 results97 call97 (by rfl) (by simp) ?_;(focus (refine wkvp (w_2 hb @Int.natCast_zero) (w_1 (Zxl n hn)) ?_;(repeat' first|exact w_t|apply w_l);all_goals intros));simp (disch:=omega) only [go_sem]
 ·have hb:Znt n≠0:=λe=>h (Zhk.1 e);cases s
  ·have hz:(zI false n).sign=1:=Int.sign_eq_one_of_pos (by simp [zI];omega);rw [hz];refine Zaa (tok:=0) func97 rfl ntmps97 results97 call97 (by rfl) (by simp) ?_;(focus (refine wkvp w_t (w_1 (Zxl n hn)) ?_;(repeat' first|exact w_t|apply w_l);all_goals intros));simp (disch:=omega) only [go_sem]
  ·have hz:(zI true n).sign=-1:=Int.sign_eq_neg_one_of_neg (by simp [zI];omega);rw [hz];refine Zaa (tok:=0) func97 rfl ntmps97 results97 call97 (by rfl) (by simp) ?_;(focus (refine wkvp w_t (w_1 (Zxl n hn)) ?_;(repeat' first|exact w_t|apply w_l);all_goals intros));simp (disch:=omega) only [go_sem]
def cmpZ (a b:Int):Int:=if a < b then -1 else if b < a then 1 else 0
theorem Zx9 (n m:Nat) (hn:(toL n).length≤100000000) (hm:(toL m).length≤100000000):Pure prog 251 [lim (toL n),lim (toL m)] (.v (.int .i64 (cmpN n m))):=by
 refine Zaa (tok:=0) func251 rfl ntmps251 results251 call251 (by rfl) (by simp) ?_;(focus (refine wkvp w_t (w_1 (nCmp n m hn hm)) ?_;(repeat' first|exact w_t|apply w_l);all_goals intros));simp (disch:=omega) only [go_sem]
theorem intCmp (s t:Bool) (n m:Nat) (hn:(toL n).length≤100000000) (hm:(toL m).length≤100000000):Pure prog 224 [intA s n,intA t m] (.v (.int .i64 (cmpZ (zI s n) (zI t m)))):=by
 have cs:=Zq5 s n hn;have ct:=Zq5 t m hm;rcases Int.lt_trichotomy (zI s n).sign (zI t m).sign with h | h | h
 ·have hc:cmpZ (zI s n) (zI t m)=-1:=by
   unfold cmpZ;rw [if_pos];rcases Int.lt_trichotomy (zI s n) 0 with h1 | h1 | h1<;>rcases Int.lt_trichotomy (zI t m) 0 with h2 | h2 | h2<;>first
    | omega
    | (exfalso;simp [Int.sign_eq_neg_one_of_neg,Int.sign_eq_one_of_pos,h1,h2] at h)
  rw [hc];refine Zaa (tok:=0) func224 rfl ntmps224 results224 call224 (by rfl) (by simp) ?_;(focus (refine wkad w_t (w_2 cs ct) (w_1 (w_d 1 [(1,.v (.int .i64 (zI s n).sign)),(3,.v (.int .i64 (zI t m).sign))] [] [])) ?_;(repeat' first|exact w_t|apply w_l);all_goals intros));simp (disch:=omega) only [go_sem]
 ·have hcc:cmpZ (zI s n) (zI t m)=if (zI s n).sign < 0 then cmpN m n else cmpN n m:=by
   unfold cmpZ cmpN;cases s<;>cases t<;>simp only [zI,if_true,Bool.false_eq_true,if_false] at h ⊢
   ·have hs0:¬(n:Int).sign < 0:=by
     have:=Int.sign_nonneg_iff.2 (Int.natCast_nonneg n);omega
    simp only [hs0,if_false,Int.ofNat_lt]
   ·have h1:=Int.sign_nonneg_iff.2 (Int.natCast_nonneg n)
    have h2:(-(m:Int)).sign≤0:=by
     rcases Nat.eq_zero_or_pos m with h3 | h3
     ·subst h3;simp
     ·rw [Int.sign_eq_neg_one_of_neg (by omega)];omega
    have h3:(n:Int).sign=0:=by omega
    have h4:n=0:=by have:=Int.sign_eq_zero_iff_zero.1 h3;omega
    have h5:m=0:=by rw [h3] at h;have:=Int.sign_eq_zero_iff_zero.1 h.symm;omega
    subst h4;subst h5;simp
   ·have h1:=Int.sign_nonneg_iff.2 (Int.natCast_nonneg m)
    have h2:(-(n:Int)).sign≤0:=by
     rcases Nat.eq_zero_or_pos n with h3 | h3
     ·subst h3;simp
     ·rw [Int.sign_eq_neg_one_of_neg (by omega)];omega
    have h3:(m:Int).sign=0:=by omega
    have h4:m=0:=by have:=Int.sign_eq_zero_iff_zero.1 h3;omega
    have h5:n=0:=by rw [h3] at h;have:=Int.sign_eq_zero_iff_zero.1 h;omega
    subst h4;subst h5;simp
   ·rcases Nat.eq_zero_or_pos n with h3 | h3
    ·subst h3;have h5:m=0:=by have:=Int.sign_eq_zero_iff_zero.1 h.symm;omega
     subst h5;simp
    ·rw [if_pos (c:=(-(n:Int)).sign < 0) (by rw [Int.sign_eq_neg_one_of_neg (by omega)];omega)];have e1:(-(n:Int) < -(m:Int))↔m < n:=by omega
     have e2:(-(m:Int) < -(n:Int))↔n < m:=by omega
     simp only [e1,e2]
  rw [hcc];by_cases hneg:(zI s n).sign < 0
  ·rw [if_pos hneg];refine Zaa (tok:=0) func224 rfl ntmps224 results224 call224 (by rfl) (by simp) ?_;(focus (refine wkad w_t (w_3 cs ct (Zx9 m n hm hn)) (w_1 (w_d 1 [(1,.v (.int .i64 (zI s n).sign)),(3,.v (.int .i64 (zI t m).sign))] [] [])) ?_;(repeat' first|exact w_t|apply w_l);all_goals intros));simp (disch:=omega) only [go_sem]
  ·rw [if_neg hneg];refine Zaa (tok:=0) func224 rfl ntmps224 results224 call224 (by rfl) (by simp) ?_;(focus (refine wkad w_t (w_3 cs ct (Zx9 n m hn hm)) (w_1 (w_d 1 [(1,.v (.int .i64 (zI s n).sign)),(3,.v (.int .i64 (zI t m).sign))] [] [])) ?_;(repeat' first|exact w_t|apply w_l);all_goals intros));simp (disch:=omega) only [go_sem]
 ·have hc:cmpZ (zI s n) (zI t m)=1:=by
   have h0:zI t m < zI s n:=by
    rcases Int.lt_trichotomy (zI s n) 0 with h1 | h1 | h1<;>rcases Int.lt_trichotomy (zI t m) 0 with h2 | h2 | h2<;>first
     | omega
     | (exfalso;simp [Int.sign_eq_neg_one_of_neg,Int.sign_eq_one_of_pos,h1,h2] at h)
   unfold cmpZ;rw [if_neg (by omega),if_pos h0]
  rw [hc];refine Zaa (tok:=0) func224 rfl ntmps224 results224 call224 (by rfl) (by simp) ?_;(focus (refine wkad w_t (w_2 cs ct) (w_1 (w_d 1 [(1,.v (.int .i64 (zI s n).sign)),(3,.v (.int .i64 (zI t m).sign))] [] [])) ?_;(repeat' first|exact w_t|apply w_l);all_goals intros));simp (disch:=omega) only [go_sem]
theorem Zs7 (s t:Bool) (n m:Nat) (hn:(toL n).length≤100000000) (hm:(toL m).length≤100000000):Pure prog 150 [intA s n,intA t m] (intZ (zI s n*zI t m)):=by
 have e:zI s n*zI t m=zI (s != t) (n*m):=by cases s<;>cases t<;>simp [zI,Int.mul_neg,Int.neg_mul]
 have lm:(toL (n*m)).length≤1000000000:=by
  have h5:(toL (n*m)).length≤(toL n).length+(toL m).length:=by
   rw [Zaf,Nat.pow_add];exact Nat.mul_lt_mul'' (Zaf.1 (Nat.le_refl _)) (Zaf.1 (Nat.le_refl _))
  omega
 rw [e];have hne:(!(s == t))=(s != t):=rfl;refine Zaa (tok:=0) func150 rfl ntmps150 results150 call150 (by rfl) (by simp) ?_;(focus (refine wkad (w_1 hne) (w_2 (nMul n m hn hm) (Zi4 (s != t) (n*m) lm)) (w_1 (w_d 1 [(9,lim (toL (n*m))),(10,intZ (zI (s != t) (n*m)))] [11] [])) ?_;(repeat' first|exact w_t|apply w_l);all_goals intros));simp (disch:=omega) only [go_sem]
theorem intAdd (s t:Bool) (n m:Nat) (hn:(toL n).length≤100000000) (hm:(toL m).length≤100000000):Pure prog 236 [intA s n,intA t m] (intZ (zI s n+zI t m)):=by
 by_cases hst:s=t
 ·subst hst;have e:zI s n+zI s m=zI s (n+m):=by cases s<;>simp [zI]<;>omega
  have la:(toL (n+m)).length≤1000000000:=by
   have h5:(toL (n+m)).length≤max (toL n).length (toL m).length+1:=by
    rw [Zaf,Nat.pow_succ];have h1:=Zaf.1 (Nat.le_max_left (toL n).length (toL m).length);have h2:=Zaf.1 (Nat.le_max_right (toL n).length (toL m).length);generalize 65536 ^ max (toL n).length (toL m).length=p at *;omega
   omega
  rw [e];have hb:(s == s)=true:=by cases s<;>rfl
  refine Zaa (tok:=0) func236 rfl ntmps236 results236 call236 (by rfl) (by simp) ?_;(focus (refine wkad (w_1 hb) (w_2 (nAdd n m hn hm) (Zi4 s (n+m) la)) (w_1 (w_d 2 [(6,lim (toL (n+m))),(7,intZ (zI s (n+m)))] [8] [])) ?_;(repeat' first|exact w_t|apply w_l);all_goals intros));simp (disch:=omega) only [go_sem]
 ·have hb:(s == t)=false:=by cases s<;>cases t<;>first|rfl|exact absurd rfl hst
  have ht:t=!s:=by cases s<;>cases t<;>first|rfl|exact absurd rfl hst
  by_cases hlt:n < m
  ·have hc:cmpN n m=-1:=if_pos hlt;have e:zI s n+zI t m=zI t (m - n):=by rw [ht];cases s<;>simp [zI]<;>omega
   have ls:(toL (m - n)).length≤1000000000:=Nat.le_trans (Za4 (Nat.sub_le _ _)) (by omega);have cs:=nSub m n hm hn;rw [if_neg (by omega),if_neg (by omega)] at cs;rw [e];refine Zaa (tok:=0) func236 rfl ntmps236 results236 call236 (by rfl) (by simp) ?_;(focus (refine wkad (w_2 hb hc) (w_3 (nCmp n m hn hm) cs (Zi4 t (m - n) ls)) w_t ?_;(repeat' first|exact w_t|apply w_l);all_goals intros));simp (disch:=omega) only [go_sem]
  ·have hc:0≤cmpN n m:=by unfold cmpN;rw [if_neg hlt];split<;>omega
   have e:zI s n+zI t m=zI s (n - m):=by rw [ht];cases s<;>simp [zI]<;>omega
   have ls:(toL (n - m)).length≤1000000000:=Nat.le_trans (Za4 (Nat.sub_le _ _)) (by omega);have cs:=nSub n m hn hm;rw [if_neg (by omega),if_neg (by omega)] at cs;rw [e];refine Zaa (tok:=0) func236 rfl ntmps236 results236 call236 (by rfl) (by simp) ?_;(focus (refine wkad (w_1 hb) (w_3 (nCmp n m hn hm) cs (Zi4 s (n - m) ls)) w_t ?_;(repeat' first|exact w_t|apply w_l);all_goals intros));simp (disch:=omega) only [go_sem]
inductive Vk:AV→AV→Prop
 | refl (a:AV):Vk a a
 | nil (m:Nat):Vk (.v (.slice none 0 0)) (.sl m [])
 | agg (xs ys:List AV) (hl:xs.length=ys.length) (h:∀(j:Nat) (a b:AV),xs[j]?=some a→ys[j]?=some b→Vk a b):Vk (.agg xs) (.agg ys)
 | tup (xs ys:List AV) (hl:xs.length=ys.length) (h:∀(j:Nat) (a b:AV),xs[j]?=some a→ys[j]?=some b→Vk a b):Vk (.tup xs) (.tup ys)
 | sl (m:Nat) (es es':List AV) (hl:es.length=es'.length) (hm:∀e∈es',e.cells.length=m) (hok:∀e∈es',e.ok=true) (hf:(flat es).length=(flat es').length) (h:∀(j:Nat) (a b:AV),(flat es)[j]?=some a→(flat es')[j]?=some b→Vk a b):Vk (.sl m es) (.sl m es')
theorem Vk.rd {w:World} {imm:Imm} {a b:AV} (h:Vk a b):∀{x:Value},Rd w imm a x→Rd w imm b x:=by
 induction h with
 | refl a=>exact λh=>h
 | nil m =>
   intro x h;cases h;exact .sl m [] none 0 (λ_=>undef) (by simp) (by simp) (Nat.le_refl _) (by simp) (by simp) (by simp [flat])
 | agg xs ys hl _ ih =>
   intro x h
   cases h with
   | agg _ vs hl2 hr =>
     refine .agg ys vs (by omega) λj b x h1 h2=>?_;have hj:j < xs.length:=by rw [hl];exact(List.getElem?_eq_some_iff.1 h1).1
     exact ih j xs[j] b (List.getElem?_eq_getElem hj) h1 (hr j xs[j] x (List.getElem?_eq_getElem hj) h2)
 | tup xs ys hl _ ih =>
   intro x h
   cases h with
   | tup _ vs hl2 hr =>
     refine .tup ys vs (by omega) λj b x h1 h2=>?_;have hj:j < xs.length:=by rw [hl];exact(List.getElem?_eq_some_iff.1 h1).1
     exact ih j xs[j] b (List.getElem?_eq_getElem hj) h1 (hr j xs[j] x (List.getElem?_eq_getElem hj) h2)
 | sl m es es' hl hm hok hf _ ih =>
   intro x h;obtain⟨A,cap,f,rfl,hcap,_,_,hn,hA,hr⟩:=(Rs.pure h).sl_inv;rw [hl];refine .sl m es' A cap f hm hok (by omega) (λh=>hn (by omega)) (λj hj=>hA j (by rw [hl];exact hj)) λj b hb=>?_;have hj:j < (flat es).length:=by rw [hf];exact(List.getElem?_eq_some_iff.1 hb).1
   exact ih j _ b (List.getElem?_eq_getElem hj) hb (hr j _ (List.getElem?_eq_getElem hj))
def VkL (xs ys:List AV):Prop:=xs.length=ys.length∧∀(j:Nat) (a b:AV),xs[j]?=some a→ys[j]?=some b→Vk a b
theorem VkL.nil:VkL [] []:=⟨rfl,λj a b h=>by simp at h⟩
theorem VkL.cons {a b:AV} {xs ys:List AV} (h:Vk a b) (t:VkL xs ys):VkL (a :: xs) (b :: ys):=by
 refine⟨by simp [t.1],λj x y h1 h2=>?_⟩
 cases j with
 | zero=>simp at h1 h2;subst h1;subst h2;exact h
 | succ j=>exact t.2 j x y (by simpa using h1) (by simpa using h2)
theorem VkL.refl (xs:List AV):VkL xs xs:=⟨rfl,λj a b h1 h2=>by rw [h1] at h2;cases h2;exact .refl _⟩
theorem Vk.aggL {xs ys:List AV} (h:VkL xs ys):Vk (.agg xs) (.agg ys):=.agg xs ys h.1 h.2
theorem Vk.tupL {xs ys:List AV} (h:VkL xs ys):Vk (.tup xs) (.tup ys):=.tup xs ys h.1 h.2
theorem Vk.slL {m:Nat} {es es':List AV} (hl:es.length=es'.length) (hm:∀e∈es',e.cells.length=m) (hok:∀e∈es',e.ok=true) (h:VkL (flat es) (flat es')):Vk (.sl m es) (.sl m es'):=.sl m es es' hl hm hok h.1 h.2
theorem Zwt {P:Program} {f:FuncId} {args args':List AV} {r r':AV} (h:Pure P f args' r) (ha:VkL args args') (hw:Vk r r'):Pure P f args r':=by
 refine⟨h.1,λw imm vs h1 h2 h3=>(h.2 w imm vs h1 (by rw [←ha.1];exact h2) λj b x e1 e2=>?_).mono λe w' he=>?_⟩
 ·have hj:j < args.length:=by rw [ha.1];exact(List.getElem?_eq_some_iff.1 e1).1
  exact(ha.2 j args[j] b (List.getElem?_eq_getElem hj) e1).rd (h3 j args[j] x (List.getElem?_eq_getElem hj) e2)
 ·obtain⟨x,imm',e1,e2,e3⟩:=he;exact⟨x,imm',e1,hw.rd e2,e3⟩
theorem Zjw {P:Program} {f:FuncId} {args args':List AV} {r:AV} (h:Pure P f args' r) (ha:VkL args args'):Pure P f args r:=Zwt h ha (.refl _)
theorem Zjv {P:Program} {f:FuncId} {args:List AV} {r r':AV} (h:Pure P f args r) (hw:Vk r r'):Pure P f args r':=Zwt h (.refl _) hw
theorem Zik (n m:Nat):(toL (n*m)).length≤(toL n).length+(toL m).length:=by
 rw [Zaf,Nat.pow_add];exact Nat.mul_lt_mul'' (Zaf.1 (Nat.le_refl _)) (Zaf.1 (Nat.le_refl _))
theorem Zxw (n m:Nat):(toL (n+m)).length≤max ((toL n).length) ((toL m).length)+1:=by
 rw [Zaf,Nat.pow_succ];have h1:=Zaf.1 (Nat.le_max_left ((toL n).length) ((toL m).length));have h2:=Zaf.1 (Nat.le_max_right ((toL n).length) ((toL m).length));generalize 65536 ^ max ((toL n).length) ((toL m).length)=p at *;omega
theorem Zed {n m:Nat} (h:n≤m):(toL n).length≤(toL m).length:=Za4 h
theorem Zfu:(toL 1).length=1:=by rw [Zep (by omega)];simp [Zaw]
theorem Zpv:toL 1=[1]:=by rw [Zep (by omega)];simp [Zaw]
abbrev ratQ (q:Rat):AV:=.agg [.v (.bool (decide (q.num < 0))),lim (toL q.num.natAbs),lim (toL q.den)]
abbrev ratA (s:Bool) (n d:Nat):AV:=.agg [.v (.bool s),lim (toL n),lim (toL d)]
def Sz (q:Rat) (k:Nat):Prop:=(toL q.num.natAbs).length≤k∧(toL q.den).length≤k
theorem Sz.mono {q:Rat} {k j:Nat} (h:Sz q k) (hk:k≤j):Sz q j:=⟨Nat.le_trans h.1 hk,Nat.le_trans h.2 hk⟩
theorem Zqf (z:Int) (m:Nat) (hm:m≠0):ratQ (mkRat z m)=.agg [.v (.bool (decide (z < 0))),lim (toL (z.natAbs/Nat.gcd z.natAbs m)),lim (toL (m/Nat.gcd z.natAbs m))]:=by
 unfold ratQ;rw [Rat.num_mkRat,Rat.den_mkRat,if_neg hm,if_neg hm,Nat.gcd_comm m z.natAbs];have hg:0 < Nat.gcd z.natAbs m:=Nat.gcd_pos_of_pos_right _ (by omega);have hd:((Nat.gcd z.natAbs m:Nat):Int) ∣ z:=Int.ofNat_dvd_left.2 (Nat.gcd_dvd_left _ _);generalize Nat.gcd z.natAbs m=g at *;obtain⟨k,hk⟩:=hd;have hgz:(g:Int)≠0:=by omega
 have e1:z/(g:Int)=k:=by rw [hk,Int.mul_ediv_cancel_left _ hgz]
 have e2:z.natAbs/g=k.natAbs:=by rw [hk,Int.natAbs_mul,Int.natAbs_natCast,Nat.mul_div_cancel_left _ hg]
 have e3:(z < 0)↔(k < 0):=by
  rw [hk];constructor
  ·intro h;rcases (by omega:k < 0∨0≤k) with h1 | h1
   ·exact h1
   ·have:=Int.mul_nonneg (show(0:Int)≤g by omega) h1;omega
  ·intro h;exact Int.mul_neg_of_pos_of_neg (by omega) h
 rw [e1,e2];simp only [e3]
theorem Sz.mk {z:Int} {m k:Nat} (hz:(toL z.natAbs).length≤k) (hm:(toL m).length≤k) (hk:1≤k):Sz (mkRat z m) k:=by
 unfold Sz;rw [Rat.num_mkRat,Rat.den_mkRat];by_cases h:m=0
 ·rw [if_pos h,if_pos h];refine⟨?_,by rw [Zfu];exact hk⟩;show(toL 0).length≤k;rw [Zaw];simp
 ·rw [if_neg h,if_neg h];refine⟨Nat.le_trans (Zed ?_) hz,Nat.le_trans (Zed (Nat.div_le_self _ _)) hm⟩;have hd:((Nat.gcd m z.natAbs:Nat):Int) ∣ z:=Int.ofNat_dvd_left.2 (Nat.gcd_dvd_right _ _);have hg:0 < Nat.gcd m z.natAbs:=Nat.gcd_pos_of_pos_left _ (by omega);generalize Nat.gcd m z.natAbs=g at *;obtain⟨c,hc⟩:=hd;rw [hc,Int.mul_ediv_cancel_left _ (by omega),Int.natAbs_mul,Int.natAbs_natCast];exact Nat.le_mul_of_pos_left _ hg
theorem Zga (a b:Int):(a+b).natAbs≤a.natAbs+b.natAbs:=by omega
theorem Sz.pos {q:Rat} {k:Nat} (h:Sz q k):1≤k:=by
 have h1:=Za8.2 q.den_pos;have h2:=h.2;omega
theorem Zjy (a b:Rat) {j k:Nat} (ha:Sz a j) (hb:Sz b k):(toL (a.num*b.den).natAbs).length≤j+k:=by
 rw [Int.natAbs_mul,Int.natAbs_natCast];exact Nat.le_trans (Zik _ _) (Nat.add_le_add ha.1 hb.2)
theorem Sz.mul {a b:Rat} {j k:Nat} (ha:Sz a j) (hb:Sz b k):Sz (a*b) (j+k):=by
 rw [Rat.mul_def'];refine Sz.mk ?_ (Nat.le_trans (Zik _ _) (Nat.add_le_add ha.2 hb.2)) (by have:=ha.pos;omega);rw [Int.natAbs_mul];exact Nat.le_trans (Zik _ _) (Nat.add_le_add ha.1 hb.1)
theorem Sz.add {a b:Rat} {j k:Nat} (ha:Sz a j) (hb:Sz b k):Sz (a+b) (j+k+1):=by
 rw [Rat.add_def'];refine Sz.mk ?_ (Nat.le_trans (Zik _ _) (by have:=ha.2;have:=hb.2;omega)) (by omega);have h1:=Zjy a b ha hb;have h2:=Zjy b a hb ha;have h3:=Zed (Zga (a.num*b.den) (b.num*a.den));have h4:=Zxw (a.num*b.den).natAbs (b.num*a.den).natAbs;omega
theorem Sz.neg {a:Rat} {j:Nat} (ha:Sz a j):Sz (-a) j:=by
 unfold Sz;rw [Rat.neg_num,Rat.neg_den,Int.natAbs_neg];exact ha
theorem Sz.sub {a b:Rat} {j k:Nat} (ha:Sz a j) (hb:Sz b k):Sz (a - b) (j+k+1):=by
 rw [Rat.sub_eq_add_neg];exact ha.add hb.neg
theorem Sz.inv {a:Rat} {j:Nat} (ha:Sz a j):Sz (a⁻¹) j:=by
 unfold Sz;rw [Rat.num_inv,Rat.den_inv];by_cases h:a.num=0
 ·rw [if_pos h,h];refine⟨?_,by rw [Zfu];exact ha.pos⟩;have:(Int.sign 0*(a.den:Int)).natAbs=0:=by simp
  rw [this];show(toL 0).length≤j;rw [Zaw];simp
 ·rw [if_neg h];refine⟨?_,ha.1⟩;rw [Int.natAbs_mul,Int.natAbs_natCast,Int.natAbs_sign_of_ne_zero h,Nat.one_mul];exact ha.2
theorem Sz.int {z:Int} {k:Nat} (h:(toL z.natAbs).length≤k) (hk:1≤k):Sz (z:Rat) k:=⟨h,by show(toL 1).length≤k;rw [Zfu];exact hk⟩
def cmpQ (a b:Rat):Int:=if a < b then -1 else if b < a then 1 else 0
theorem cmpQ_z (a b:Rat):cmpQ a b=cmpZ (a.num*b.den) (b.num*a.den):=by
 unfold cmpQ cmpZ;simp only [Rat.lt_iff]
theorem iMul (z w:Int) (hz:(toL z.natAbs).length≤100000000) (hw:(toL w.natAbs).length≤100000000):Pure prog 150 [intZ z,intZ w] (intZ (z*w)):=by
 have:=Zs7 (decide (z < 0)) (decide (w < 0)) z.natAbs w.natAbs hz hw
 rwa [Zcy,Zcy] at this
theorem iMulN (z:Int) (d:Nat) (hz:(toL z.natAbs).length≤100000000) (hw:(toL d).length≤100000000):Pure prog 150 [intZ z,intA false d] (intZ (z*d)):=by
 have:=Zs7 (decide (z < 0)) false z.natAbs d hz hw;rw [Zcy] at this;exact this
theorem iAddA (z:Int) (t:Bool) (m:Nat) (hz:(toL z.natAbs).length≤100000000) (hm:(toL m).length≤100000000):Pure prog 236 [intZ z,intA t m] (intZ (z+zI t m)):=by
 have:=intAdd (decide (z < 0)) t z.natAbs m hz hm
 rwa [Zcy] at this
theorem iAdd0 (t:Bool) (m:Nat) (hm:(toL m).length≤100000000):Pure prog 236 [.agg [.v (.bool false),.v (.slice none 0 0)],intA t m] (intZ (zI t m)):=by
 have h:=iAddA 0 t m (by show(toL 0).length≤_;rw [Zaw];simp) hm;rw [Int.zero_add] at h;refine Zjw h (.cons (.aggL (.cons (.refl _) (.cons ?_ .nil))) (.cons (.refl _) .nil));show Vk _ (.sl 1 (u16s (toL 0)));rw [Zaw];exact .nil 1
theorem iCmp (z w:Int) (hz:(toL z.natAbs).length≤100000000) (hw:(toL w.natAbs).length≤100000000):Pure prog 224 [intZ z,intZ w] (.v (.int .i64 (cmpZ z w))):=by
 have:=intCmp (decide (z < 0)) (decide (w < 0)) z.natAbs w.natAbs hz hw
 rwa [Zcy,Zcy] at this
theorem iSign (z:Int) (hz:(toL z.natAbs).length≤100000000):Pure prog 97 [intZ z] (.v (.int .i64 z.sign)):=by
 have:=Zq5 (decide (z < 0)) z.natAbs hz
 rwa [Zcy] at this
def sumC (z w:Int):Nat→List AV
 | 0=>[.v (.bool false),.v (.slice none 0 0)]
 | 1=>[.v (.bool (decide (z < 0))),lim (toL z.natAbs)]
 | _=>[.v (.bool (decide (z+w < 0))),lim (toL (z+w).natAbs)]
theorem Zvm (x:Nat) (l:List Nat):u16s (x :: l)=AV.v (.int .u16 (x:Int)) :: u16s l:=rfl
theorem Zvx:szOf prog 174=some 2:=by kernel_rfl
theorem zShape:Zau prog 174=some (.agg #[.int .i64 0,.int .u16 0]):=by kernel_rfl
theorem Zyx:eqTy prog 174=true:=by kernel_rfl
attribute [local go_sem] Zvx zShape Zyx underlying237
theorem intOf (n:Nat) (hn:n < 9223372036854775808):Pure prog 116 [.v (.int .i64 (n:Int))] (intA false n):=by
 have l4:(toL n).length≤4:=Zaf.2 (by omega);have hm:=Zi4 false n (by omega);rw [Zfj,Bool.false_and] at hm;refine Zaa (tok:=0) func116 rfl ntmps116 results116 call116 (by rfl) (by simp) ?_;(focus (refine wkvp w_t (w_2 (natOf n (by omega)) hm) ?_;(repeat' first|exact w_t|apply w_l);all_goals intros));simp (disch:=omega) only [go_sem]
theorem Zqe:Pure prog 117 [] (lim (toL 1)):=by
 rw [Zpv];refine Zaa (tok:=0) func117 rfl ntmps117 results117 call117 (by rfl) (by simp) ?_;(focus (refine wkvp w_t w_t ?_;(repeat' first|exact w_t|apply w_l);all_goals intros));exact gC
theorem Zjs (n:Nat):Pure prog 205 [lim (toL n)] (intA false n):=by
 refine Zaa (tok:=0) func205 rfl ntmps205 results205 call205 (by rfl) (by simp) ?_;(focus (refine wkvp w_t w_t ?_;(repeat' first|exact w_t|apply w_l);all_goals intros));simp (disch:=omega) only [go_sem]
theorem Zkk (n:Nat) (hn:(toL n).length≤100000000):Pure prog 94 [lim (toL n)] (.v (.bool (decide (n=1)))):=by
 by_cases h0:n=0
 ·subst h0;rw [Zaw];refine Zaa (tok:=0) func94 rfl ntmps94 results94 call94 (by rfl) (by simp) ?_;(focus (refine wkvp w_t w_t ?_;(repeat' first|exact w_t|apply w_l);all_goals intros));simp (disch:=omega) only [go_sem,Bool.and_self]
 ·have hd:decide (n=1)=(((((toL (n/65536)).length+1:Nat):Int) == 1) && (((n%65536:Nat):Int) == 1)):=by
   have hp:=@Za8 (n/65536);rw [Bool.eq_iff_iff];simp only [decide_eq_true_eq,Bool.and_eq_true,beq_iff_eq];omega
  rw [Zep (by omega),hd];refine Zaa (tok:=0) func94 rfl ntmps94 results94 call94 (by rfl) (by simp) ?_;(focus (refine wkvp (w_1 @Zvm) w_t ?_;(repeat' first|exact w_t|apply w_l);all_goals intros));simp (disch:=omega) only [go_sem]
theorem Zkj (s:Bool) (n d:Nat) (h2:(toL d).length≤10000000) (h0:d≠0):Pure prog 96 [ratA s n d] (.tup [intA s n,lim (toL d)]):=by
 have hb:Znt d≠0:=λe=>h0 (Zhk.1 e);refine Zaa (tok:=0) func96 rfl ntmps96 results96 call96 (by rfl) (by simp) ?_
 (repeat' (first|(with_reducible first|refine stp ?_|apply gx1|apply gx2|apply gx3|apply gx4|apply gx5|apply gx6|apply gx7|apply gy8|apply gz2|apply gz3|refine gw0 (Zxl d (by omega)) ?_ ?_|refine gw3 (Zxl d (by omega)) ?_ ?_ ?_)|(with_reducible refine Zcb ?_;intro _)|((with_reducible refine gE ?_);(try simp (disch:=omega) only [go_sem])<;>first|rfl|omega)|with_reducible refine Zaj (by decide) ?_|((with_reducible apply gy1);iterate 3 focus rfl)|((with_reducible apply gy2);iterate 3 focus rfl)|((with_reducible apply gy3);iterate 2 focus rfl)|((with_reducible apply gy4);iterate 1 focus rfl)|((with_reducible apply gy5);iterate 4 focus rfl)|((with_reducible apply gy5c);iterate 4 focus rfl)|((with_reducible apply gy6);iterate 4 focus rfl)|((with_reducible apply Zhr);iterate 3 focus rfl)|((with_reducible apply Zho);iterate 1 focus rfl)|((with_reducible apply gy7);iterate 1 focus rfl)|((with_reducible apply gy9);(focus ((with_reducible refine gE ?_);(try simp (disch:=omega) only [go_sem])<;>rfl)))|((with_reducible apply gz1);(focus first|rfl|(simp (disch:=omega) only [go_sem];done)))|((with_reducible apply Zcf (Zd3 []) [] [2]);(focus kernel_rfl);(focus rfl);(focus kernel_rfl);(focus (simp only [List.length_cons,List.length_nil,Nat.reduceAdd];rfl)))))
 simp (disch:=omega) only [go_sem]
theorem Zf7 (q:Rat) {k:Nat} (h:Sz q k) (hk:k≤10000000):Pure prog 96 [ratQ q] (.tup [intZ q.num,lim (toL q.den)]) :=
 Zkj _ _ _ (Nat.le_trans h.2 hk) q.den_nz
theorem Zek (s:Bool) (n m:Nat) (hn:(toL n).length≤10000000) (hm:(toL m).length≤10000000) (h0:m≠0):Pure prog 149 [intA s n,lim (toL m)] (ratQ (mkRat (zI s n) m)):=by
 have cn:=intNorm s n (by omega);have hz:=Zdz s n;rw [Zqf _ _ h0];generalize zI s n=z at *;subst hz;have hmp:=Za8.2 (Nat.pos_of_ne_zero h0);have g0:Nat.gcd z.natAbs m≠0:=Nat.ne_of_gt (Nat.gcd_pos_of_pos_right _ (by omega));have hg:(toL (Nat.gcd z.natAbs m)).length≤10000000:=Nat.le_trans (Zed (Nat.le_of_dvd (by omega) (Nat.gcd_dvd_right _ _))) hm;have cg:=nGcd z.natAbs m (by omega) (by omega);have c1:=Zkk m (by omega);have c2:=Zkk (Nat.gcd z.natAbs m) (by omega);by_cases hz0:z.natAbs=0
 ·have hzz:z=0:=by omega
  subst hzz;have l0:(toL 0).length=0:=by rw [Zaw];rfl
  have n0:Int.natAbs 0=0:=rfl;have hd:decide ((0:Int) < 0)=false:=rfl;have cn:Pure prog 208 [intA s 0] (.agg [.v (.bool false),lim (toL 0)]):=cn;rw [n0] at hn ⊢;rw [Nat.gcd_zero_left,Nat.zero_div,Nat.div_self (by omega),hd];refine Zjv (r:=.agg [.v (.bool false),.v (.slice none 0 0),lim (toL 1)]) ?_ (.aggL (.cons (.refl _) (.cons ?_ (VkL.refl _))))
  ·refine Zaa (tok:=0) func149 rfl ntmps149 results149 call149 (by rfl) (by simp) ?_;(focus (refine wkvp (w_1 l0) (w_3 (Zox m (by omega)) cn Zqe) ?_;(repeat' first|exact w_t|apply w_l);all_goals intros));simp (disch:=omega) only [go_sem]
  ·show Vk _ (.sl 1 (u16s (toL 0)));rw [Zaw];exact .nil 1
 ·have hzp:=Za8.2 (Nat.pos_of_ne_zero hz0);by_cases hm1:m=1
  ·subst hm1;rw [Nat.gcd_one_right,Nat.div_one,Nat.div_one];refine Zaa (tok:=0) func149 rfl ntmps149 results149 call149 (by rfl) (by simp) ?_;(focus (refine wkvp w_t (w_3 (Zox 1 (by omega)) cn c1) ?_;(repeat' first|exact w_t|apply w_l);all_goals intros));simp (disch:=omega) only [go_sem]
  ·have d1:decide (m=1)=false:=decide_eq_false hm1;rw [d1] at c1;by_cases hg1:Nat.gcd z.natAbs m=1
   ·have d2:decide (Nat.gcd z.natAbs m=1)=true:=decide_eq_true hg1;rw [d2] at c2;rw [hg1,Nat.div_one,Nat.div_one];refine Zaa (tok:=0) func149 rfl ntmps149 results149 call149 (by rfl) (by simp) ?_;(focus (refine wkvp w_t (w_5 (Zox m (by omega)) cn c1 cg c2) ?_;(repeat' first|exact w_t|apply w_l);all_goals intros));simp (disch:=omega) only [go_sem]
   ·have d2:decide (Nat.gcd z.natAbs m=1)=false:=decide_eq_false hg1;rw [d2] at c2;refine Zaa (tok:=0) func149 rfl ntmps149 results149 call149 (by rfl) (by simp) ?_;(focus (refine wkad w_t (w_7 (Zox m (by omega)) cn c1 cg c2 (Zxk z.natAbs (Nat.gcd z.natAbs m) (by omega) (by omega) g0) (Zxk m (Nat.gcd z.natAbs m) (by omega) (by omega) g0)) w_t ?_;(repeat' first|exact w_t|apply w_l);all_goals intros));simp (disch:=omega) only [go_sem]
theorem ratMake (z w:Int) (hz:(toL z.natAbs).length≤10000000) (hw:(toL w.natAbs).length≤10000000) (h0:w≠0):Pure prog 203 [intZ z,intZ w] (.tup [ratQ (Rat.divInt z w),.v (.int .i64 0)]):=by
 have e:Rat.divInt z w=mkRat (zI (decide (z < 0) != decide (w < 0)) z.natAbs) w.natAbs:=by
  have ez:=Zcy z;unfold zI at ez ⊢;rcases (by omega:w < 0∨0 < w) with h | h
  ·rw [decide_eq_true h];have hw1:w=-((w.natAbs:Nat):Int):=by omega
   rw [show Rat.divInt z w=Rat.divInt z (-((w.natAbs:Nat):Int)) by rw [←hw1],Rat.divInt_neg',Rat.divInt_ofNat];congr 1;by_cases h1:z < 0
   ·simp only [decide_eq_true h1,bne_self_eq_false,Bool.false_eq_true,if_false];omega
   ·simp only [decide_eq_false h1,Bool.false_bne,if_true];omega
  ·rw [decide_eq_false (by omega:¬w < 0)];have hw1:w=((w.natAbs:Nat):Int):=by omega
   rw [show Rat.divInt z w=Rat.divInt z ((w.natAbs:Nat):Int) by rw [←hw1],Rat.divInt_ofNat];congr 1;by_cases h1:z < 0
   ·simp only [decide_eq_true h1,Bool.bne_false,if_true];omega
   ·simp only [decide_eq_false h1,bne_self_eq_false,Bool.false_eq_true,if_false];omega
 have c:=Zek (decide (z < 0) != decide (w < 0)) z.natAbs w.natAbs hz hw (by omega);rw [←e] at c;have cs:=iSign w (by omega);have hs:w.sign≠0:=λh=>h0 (Int.sign_eq_zero_iff_zero.1 h);refine Zaa (tok:=0) func203 rfl ntmps203 results203 call203 (by rfl) (by simp) ?_;have hne (a b:Bool):(!(a == b))=(a != b):=rfl;(focus (refine wkvp (w_1 hne) (w_2 cs c) ?_;(repeat' first|exact w_t|apply w_l);all_goals intros));simp (disch:=omega) only [go_sem]
theorem Zea (q:Rat) {k:Nat} (h:Sz q k) (hk:k≤10000000):Pure prog 42 [ratQ q] (.v (.int .i64 q.num.sign)):=by
 have h1:=h.1;refine Zaa (tok:=0) func42 rfl ntmps42 results42 call42 (by rfl) (by simp) ?_;(focus (refine wkvp w_t (w_2 (Zf7 q h hk) (iSign q.num (by omega))) ?_;(repeat' first|exact w_t|apply w_l);all_goals intros));simp (disch:=omega) only [go_sem]
theorem Zwk (s t:Bool) (n m:Nat) (hn:(toL n).length≤100000000) (hm:(toL m).length≤100000000):Pure prog 204 [.sl 2 [intA s n,intA t m]] (intZ (zI s n+zI t m)):=by
 have cz:=iAdd0 s n hn;have ca:=iAddA (zI s n) t m (by rw [Zdz];exact hn) hm;generalize zI s n=z at *;generalize zI t m=w at *;refine Zaa (tok:=0) func204 rfl ntmps204 results204 call204 (by rfl) (by simp) ?_;(focus (refine wkvp w_t w_t ?_;(repeat' first|exact w_t|apply w_l);all_goals intros));refine Zae (ι:=Nat) (λk e mm=>k≤2∧e 6=.sl 2 [intA s n,intA t m]∧e 7=.v (.int .i64 2)∧e 8=.v (.int .i64 (k:Int))∧∃g2 g,e 2=.pbox 2 g2 0∧mm 2=some (.box g2 52 [.v (.bool false),.v (.slice none 0 0)] false)∧e 3=.pbox 3 g 0∧mm 3=some (.box g 52 (sumC z w k) false)) (λk=>2 - k) 0 (by rfl) ?_ ?_
 ·rintro k e mm ⟨hk,e6,e7,e8,g2,g,e2,m2,e3,m3⟩
  match k,hk with
  | 0,_ =>
    simp only [sumC] at m3;(focus (refine wkvp (w_8 e6 e7 e8 e2 m2 e3 m3 @Int.natCast_zero) (w_1 cz) ?_;(repeat' first|exact w_t|apply w_l);all_goals intros));exact⟨1,⟨by omega,by exact gW e6,by exact gW e7,by exact gW e8,g2,g,by exact gW e2,by exact gW m2,by exact gW e3,by(simp (disch:=omega) only [go_sem,m3,sumC]<;>repeat' first|rfl|refine⟨?_,?_⟩)⟩,by omega⟩
  | 1,_ =>
    simp only [sumC] at m3;(focus (refine wkvp (w_8 e6 e7 e8 e2 m2 e3 m3 @Int.natCast_one) (w_1 ca) ?_;(repeat' first|exact w_t|apply w_l);all_goals intros));exact⟨2,⟨by omega,by exact gW e6,by exact gW e7,by exact gW e8,g2,g,by exact gW e2,by exact gW m2,by exact gW e3,by(simp (disch:=omega) only [go_sem,m3,sumC]<;>repeat' first|rfl|refine⟨?_,?_⟩)⟩,by omega⟩
  | 2,_ =>
    simp only [sumC] at m3;(focus (refine wkvp (w_7 e6 e7 e8 e2 m2 e3 m3) w_t ?_;(repeat' first|exact w_t|apply w_l);all_goals intros));simp (disch:=omega) only [go_sem,e2]
 ·exact⟨by omega,by exact gC,by exact gC,by exact gC,_,_,by exact gC,by exact gC,by exact gC,by(simp (disch:=omega) only [go_sem,sumC]<;>repeat' first|rfl|refine⟨?_,?_⟩)⟩
theorem ratSum (z w:Int) (hz:(toL z.natAbs).length≤100000000) (hw:(toL w.natAbs).length≤100000000):Pure prog 204 [.sl 2 [intZ z,intZ w]] (intZ (z+w)):=by
 have:=Zwk (decide (z < 0)) (decide (w < 0)) z.natAbs w.natAbs hz hw
 rwa [Zcy,Zcy] at this
theorem Zt8 (n:Nat) (hn:n < 9223372036854775808):Pure prog 56 [.v (.int .i64 (n:Int))] (ratQ (n:Rat)):=by
 refine Zaa (tok:=0) func56 rfl ntmps56 results56 call56 (by rfl) (by simp) ?_;have hd:decide ((n:Rat).num < 0)=false:=decide_eq_false (by show ¬((n:Int) < 0);omega);have hn':(n:Rat).num.natAbs=n:=Int.natAbs_natCast n;unfold ratQ;rw [hd,hn',Rat.den_natCast];(focus (refine wkvp w_t (w_2 (intOf n hn) Zqe) ?_;(repeat' first|exact w_t|apply w_l);all_goals intros));simp (disch:=omega) only [go_sem]
theorem ratMul (a b:Rat) {j k:Nat} (ha:Sz a j) (hb:Sz b k) (hj:j≤2000000) (hk:k≤2000000):Pure prog 90 [ratQ a,ratQ b] (ratQ (a*b)):=by
 obtain⟨a1,a2⟩:=id ha;obtain⟨b1,b2⟩:=id hb;have l1:(toL (a.num*b.num).natAbs).length≤j+k:=by rw [Int.natAbs_mul];exact Nat.le_trans (Zik _ _) (by omega)
 have l2:(toL (a.den*b.den)).length≤j+k:=Nat.le_trans (Zik _ _) (by omega);have c:=Zek (decide (a.num*b.num < 0)) (a.num*b.num).natAbs (a.den*b.den) (by omega) (by omega) (Nat.mul_ne_zero a.den_nz b.den_nz);rw [Zcy,←Rat.mul_def'] at c;refine Zaa (tok:=0) func90 rfl ntmps90 results90 call90 (by rfl) (by simp) ?_;(focus (refine wkvp w_t (w_5 (Zf7 a ha (by omega)) (Zf7 b hb (by omega)) (iMul a.num b.num (by omega) (by omega)) (nMul a.den b.den (by omega) (by omega)) c) ?_;(repeat' first|exact w_t|apply w_l);all_goals intros));simp (disch:=omega) only [go_sem]
theorem Zwl (s t:Bool) (n d m c:Nat) {j k:Nat} (a1:(toL n).length≤j) (a2:(toL d).length≤j) (b1:(toL m).length≤k) (b2:(toL c).length≤k) (hd0:d≠0) (hc0:c≠0) (hj:j≤2000000) (hk:k≤2000000) :
 Pure prog 139 [ratA s n d,ratA t m c] (ratQ (mkRat (zI s n) d+mkRat (zI t m) c)):=by
 have oa:=Zkk d (by omega);have ob:=Zkk c (by omega);have l2:(toL (d*c)).length≤j+k:=Nat.le_trans (Zik _ _) (by omega);have z1:=Zdz s n;have w1:=Zdz t m;have pa:=Zkj s n d (by omega) hd0;have pb:=Zkj t m c (by omega) hc0;have eq:mkRat (zI s n) d+mkRat (zI t m) c=mkRat (zI s n*c+zI t m*d) (d*c):=Rat.mkRat_add_mkRat _ _ hd0 hc0;have cs0:=Zwk s t n m (by omega) (by omega);have cm1:Pure prog 150 [intA s n,intA false c] (intZ (zI s n*c)):=Zs7 s false n c (by omega) (by omega);have cm2:Pure prog 150 [intA t m,intA false d] (intZ (zI t m*d)):=Zs7 t false m d (by omega) (by omega)
 rw [eq]
 have x1:(toL (zI s n*c).natAbs).length≤j+k:=by
  rw [Int.natAbs_mul,Int.natAbs_natCast,z1];exact Nat.le_trans (Zik _ _) (by omega)
 have x2:(toL (zI t m*d).natAbs).length≤j+k:=by
  rw [Int.natAbs_mul,Int.natAbs_natCast,w1];exact Nat.le_trans (Zik _ _) (by omega)
 by_cases h1:d=1∧c=1
 ·obtain⟨h1,h2⟩:=h1
  have l1:(toL (zI s n+zI t m).natAbs).length≤j+k+1:=by
   have h3:=Zed (Zga (zI s n) (zI t m));have h4:=Zxw (zI s n).natAbs (zI t m).natAbs;rw [z1,w1] at h3 h4;omega
  have c:=Zek (decide (zI s n+zI t m < 0)) (zI s n+zI t m).natAbs 1 (by omega) (by rw [Zfu];omega) (by omega);rw [Zcy] at c;subst h1;subst h2;rw [decide_eq_true rfl] at oa ob;have e1:zI s n*((1:Nat):Int)+zI t m*((1:Nat):Int)=zI s n+zI t m:=by omega
  rw [e1,Nat.mul_one];refine Zaa (tok:=0) func139 rfl ntmps139 results139 call139 (by rfl) (by simp) ?_;(focus (refine wkax w_t (w_5 pa pb oa ob c) w_t (w_1 cs0) w_t w_t w_y (w_r 0) ?_;(repeat' first|exact w_t|apply w_l);all_goals intros));simp (disch:=omega) only [go_sem]
 ·have l1:(toL (zI s n*c+zI t m*d).natAbs).length≤j+k+1:=by
   have h3:=Zed (Zga (zI s n*c) (zI t m*d));have h4:=Zxw (zI s n*c).natAbs (zI t m*d).natAbs;omega
  have cr:=Zek (decide (zI s n*c+zI t m*d < 0)) (zI s n*c+zI t m*d).natAbs (d*c) (by omega) (by omega) (Nat.mul_ne_zero hd0 hc0);rw [Zcy] at cr;have cs:=ratSum (zI s n*c) (zI t m*d) (by omega) (by omega);have cw1:=Zjs c;have cw2:=Zjs d;have cm:=nMul d c (by omega) (by omega);generalize zI s n*(c:Int)=y1 at *;generalize zI t m*(d:Int)=y2 at *;by_cases h2:d=1
  ·have h3:c≠1:=λh=>h1 ⟨h2,h⟩;rw [decide_eq_true h2] at oa;rw [decide_eq_false h3] at ob;refine Zaa (tok:=0) func139 rfl ntmps139 results139 call139 (by rfl) (by simp) ?_;(focus (refine wkax w_t (w_11 pa pb oa ob cw1 cm1 cw2 cm2 cs cm cr) (w_1 (w_d 5 [(2,intA false c),(3,intZ y1),(6,intA false d),(7,intZ y2),(8,.sl 2 [intZ y1,intZ y2]),(9,intZ (y1+y2)),(12,lim (toL (d*c))),(13,ratQ (mkRat (y1+y2) (d*c)))] [] [4])) w_t w_t w_t w_y (w_r 0) ?_;(repeat' first|exact w_t|apply w_l);all_goals intros));simp (disch:=omega) only [go_sem]
  ·rw [decide_eq_false h2] at oa;refine Zaa (tok:=0) func139 rfl ntmps139 results139 call139 (by rfl) (by simp) ?_;(focus (refine wkax w_t (w_10 pa pb oa cw1 cm1 cw2 cm2 cs cm cr) (w_1 (w_d 5 [(2,intA false c),(3,intZ y1),(6,intA false d),(7,intZ y2),(8,.sl 2 [intZ y1,intZ y2]),(9,intZ (y1+y2)),(12,lim (toL (d*c))),(13,ratQ (mkRat (y1+y2) (d*c)))] [] [4])) w_t w_t w_t w_y (w_r 0) ?_;(repeat' first|exact w_t|apply w_l);all_goals intros));simp (disch:=omega) only [go_sem]
theorem Zwm (a b:Rat) {j k:Nat} (ha:Sz a j) (hb:Sz b k) (hj:j≤2000000) (hk:k≤2000000):Pure prog 139 [ratQ a,ratQ b] (ratQ (a+b)):=by
 have:=Zwl (decide (a.num < 0)) (decide (b.num < 0)) a.num.natAbs a.den b.num.natAbs b.den ha.1 ha.2 hb.1 hb.2 a.den_nz b.den_nz hj hk
 rwa [Zcy,Zcy,Rat.mkRat_self,Rat.mkRat_self] at this
theorem ratSub (a b:Rat) {j k:Nat} (ha:Sz a j) (hb:Sz b k) (hj:j≤2000000) (hk:k≤2000000):Pure prog 137 [ratQ a,ratQ b] (ratQ (a - b)):=by
 have c:=Zwl (decide (a.num < 0)) (!decide (b.num < 0)) a.num.natAbs a.den b.num.natAbs b.den ha.1 ha.2 hb.1 hb.2 a.den_nz b.den_nz hj hk
 have e:zI (!decide (b.num < 0)) b.num.natAbs=-b.num:=by
  have:=Zcy b.num;unfold zI at *;by_cases h:b.num < 0
  ·simp only [decide_eq_true h,Bool.not_true,Bool.false_eq_true,if_false];omega
  ·simp only [decide_eq_false h,Bool.not_false,if_true];omega
 have e2:mkRat (-b.num) b.den=-b:=by rw [←Rat.neg_mkRat,Rat.mkRat_self]
 rw [Zcy,e,Rat.mkRat_self,e2,←Rat.sub_eq_add_neg] at c;refine Zaa (tok:=0) func137 rfl ntmps137 results137 call137 (by rfl) (by simp) ?_;(focus (refine wkvp w_t (w_1 c) ?_;(repeat' first|exact w_t|apply w_l);all_goals intros));simp (disch:=omega) only [go_sem]
theorem ratCmp (a b:Rat) {j k:Nat} (ha:Sz a j) (hb:Sz b k) (hj:j≤2000000) (hk:k≤2000000):Pure prog 177 [ratQ a,ratQ b] (.v (.int .i64 (cmpQ a b))):=by
 obtain⟨a1,a2⟩:=id ha;obtain⟨b1,b2⟩:=id hb;have sa:=Zea a ha (by omega);have sb:=Zea b hb (by omega);have pa:=Zf7 a ha (by omega);have pb:=Zf7 b hb (by omega);have cm1:=iMulN a.num b.den (by omega) (by omega);have cm2:=iMulN b.num a.den (by omega) (by omega);have x1:(toL (a.num*b.den).natAbs).length≤j+k:=Zjy a b ha hb;have x2:(toL (b.num*a.den).natAbs).length≤k+j:=Zjy b a hb ha;have cc:=iCmp (a.num*b.den) (b.num*a.den) (by omega) (by omega);have cw1:=Zjs b.den;have cw2:=Zjs a.den;have dp:(0:Int) < a.den:=by have:=a.den_pos;omega
 have ep:(0:Int) < b.den:=by have:=b.den_pos;omega
 rw [cmpQ_z]
 have sg:∀z:Int,(z.sign=1∧0 < z)∨(z.sign=0∧z=0)∨(z.sign=-1∧z < 0):=by
  intro z;rcases Int.lt_trichotomy z 0 with h | h | h
  ·exact .inr (.inr ⟨Int.sign_eq_neg_one_of_neg h,h⟩)
  ·exact .inr (.inl ⟨by rw [h];rfl,h⟩)
  ·exact .inl ⟨Int.sign_eq_one_of_pos h,h⟩
 have mp:∀z w:Int,0 < z→0 < w→0 < z*w:=λz w=>Int.mul_pos;have mz:∀w:Int,0*w=0:=λw=>Int.zero_mul w;have mn:∀z w:Int,z < 0→0 < w→z*w < 0:=λz w=>Int.mul_neg_of_neg_of_pos
 have sA:(a.num.sign=1→0 < a.num*b.den)∧(a.num.sign=0→a.num*b.den=0)∧(a.num.sign=-1→a.num*b.den < 0):=by
  rcases sg a.num with⟨h,h'⟩ | ⟨h,h'⟩ | ⟨h,h'⟩
  ·exact⟨λ_=>mp _ _ h' ep,λh2=>(by omega),λh2=>(by omega)⟩
  ·exact⟨λh2=>(by omega),λ_=>(by rw [h'];exact mz _),λh2=>(by omega)⟩
  ·exact⟨λh2=>(by omega),λh2=>(by omega),λ_=>mn _ _ h' ep⟩
 have sB:(b.num.sign=1→0 < b.num*a.den)∧(b.num.sign=0→b.num*a.den=0)∧(b.num.sign=-1→b.num*a.den < 0):=by
  rcases sg b.num with⟨h,h'⟩ | ⟨h,h'⟩ | ⟨h,h'⟩
  ·exact⟨λ_=>mp _ _ h' dp,λh2=>(by omega),λh2=>(by omega)⟩
  ·exact⟨λh2=>(by omega),λ_=>(by rw [h'];exact mz _),λh2=>(by omega)⟩
  ·exact⟨λh2=>(by omega),λh2=>(by omega),λ_=>mn _ _ h' dp⟩
 have ga:=sg a.num;have gb:=sg b.num;generalize a.num*(b.den:Int)=y1 at *;generalize b.num*(a.den:Int)=y2 at *;rcases Int.lt_trichotomy a.num.sign b.num.sign with h | h | h
 ·have hc:cmpZ y1 y2=-1:=by
   unfold cmpZ;rw [if_pos (by omega)]
  rw [hc];clear ga gb sA sB;refine Zaa (tok:=0) func177 rfl ntmps177 results177 call177 (by rfl) (by simp) ?_;(focus (refine wkad w_t (w_2 sa sb) (w_1 (w_d 1 [(1,.v (.int .i64 a.num.sign)),(3,.v (.int .i64 b.num.sign))] [] [])) ?_;(repeat' first|exact w_t|apply w_l);all_goals intros));simp (disch:=omega) only [go_sem]
 ·refine Zaa (tok:=0) func177 rfl ntmps177 results177 call177 (by rfl) (by simp) ?_;(focus (refine wkvp w_t (w_2 sa sb) ?_;(repeat' first|exact w_t|apply w_l);all_goals intros));apply Zcf (Zd3 [(1,.v (.int .i64 a.num.sign)),(3,.v (.int .i64 b.num.sign))]) [] [] (by kernel_rfl) (by rfl) (by kernel_rfl);(focus (simp only [List.length_cons,List.length_nil,Nat.reduceAdd];rfl));(focus (refine wkax w_t (w_4 sa sb pa pb) w_t w_t w_t w_t w_t (w_r 0) ?_;(repeat' first|exact w_t|apply w_l);all_goals intros));apply Zcf (Zd3 [(2,intA false b.den),(3,intZ y1),(6,intA false a.den),(7,intZ y2),(8,.v (.int .i64 (cmpZ y1 y2)))]) [] [] (by kernel_rfl) (by rfl) (by kernel_rfl);(focus (simp only [List.length_cons,List.length_nil,Nat.reduceAdd];rfl))
  (focus (refine wkax w_t (w_5 cw1 cm1 cw2 cm2 cc) w_t w_t w_t w_t w_t (w_r 0) ?_;(repeat' first|exact w_t|apply w_l);all_goals intros));simp (disch:=omega) only [go_sem]
 ·have hc:cmpZ y1 y2=1:=by
   unfold cmpZ;rw [if_neg (by omega),if_pos (by omega)]
  rw [hc];clear ga gb sA sB;refine Zaa (tok:=0) func177 rfl ntmps177 results177 call177 (by rfl) (by simp) ?_;(focus (refine wkad w_t (w_2 sa sb) (w_1 (w_d 1 [(1,.v (.int .i64 a.num.sign)),(3,.v (.int .i64 b.num.sign))] [] [])) ?_;(repeat' first|exact w_t|apply w_l);all_goals intros));simp (disch:=omega) only [go_sem]
theorem Zs5 {z:Int} (h:z < 0):intZ z=intA true z.natAbs:=by unfold intZ;rw [decide_eq_true h]
theorem Znc {z:Int} (h:¬z < 0):intZ z=intA false z.natAbs:=by unfold intZ;rw [decide_eq_false h]
theorem zOf' (s:Bool) (n:Nat) (hn:(toL n).length≤100000000):Pure prog 173 [.v (.bool s),lim (toL n)] (intZ (zI s n)):=by
 rw [Zfj];have hp:=@Za8 n;cases s
 ·refine Zaa (tok:=0) func173 rfl ntmps173 results173 call173 (by rfl) (by simp) ?_;(focus (refine wkvp w_t (w_1 (rNorm n hn)) ?_;(repeat' first|exact w_t|apply w_l);all_goals intros));simp (disch:=omega) only [go_sem,Bool.false_and]
 ·by_cases h:0 < n
  ·have h2:=hp.2 h;refine Zaa (tok:=0) func173 rfl ntmps173 results173 call173 (by rfl) (by simp) ?_;(focus (refine wkvp w_t (w_1 (rNorm n hn)) ?_;(repeat' first|exact w_t|apply w_l);all_goals intros));simp (disch:=omega) only [go_sem,decide_eq_true h]
  ·have h2:¬0 < (toL n).length:=λh3=>h (hp.1 h3);refine Zaa (tok:=0) func173 rfl ntmps173 results173 call173 (by rfl) (by simp) ?_;(focus (refine wkvp w_t (w_1 (rNorm n hn)) ?_;(repeat' first|exact w_t|apply w_l);all_goals intros));simp (disch:=omega) only [go_sem,decide_eq_false h]
theorem zNorm (s:Bool) (n:Nat) (hn:(toL n).length≤100000000):Pure prog 198 [intA s n] (intZ (zI s n)):=by
 refine Zaa (tok:=0) func198 rfl ntmps198 results198 call198 (by rfl) (by simp) ?_;(focus (refine wkvp w_t (w_1 (zOf' s n hn)) ?_;(repeat' first|exact w_t|apply w_l);all_goals intros));simp (disch:=omega) only [go_sem]
theorem zNormZ (z:Int) (hz:(toL z.natAbs).length≤100000000):Pure prog 198 [intZ z] (intZ z):=by
 have:=zNorm (decide (z < 0)) z.natAbs hz
 rwa [Zcy] at this
theorem zOf (n:Nat) (hn:n < 9223372036854775808):Pure prog 108 [.v (.int .i64 (n:Int))] (intA false n):=by
 have l4:(toL n).length≤4:=Zaf.2 (by omega);have hm:=zOf' false n (by omega);rw [Zfj,Bool.false_and] at hm;refine Zaa (tok:=0) func108 rfl ntmps108 results108 call108 (by rfl) (by simp) ?_;(focus (refine wkvp w_t (w_2 (Zoe n (by omega)) hm) ?_;(repeat' first|exact w_t|apply w_l);all_goals intros));simp (disch:=omega) only [go_sem]
theorem zNeg (s:Bool) (n:Nat) (hn:(toL n).length≤100000000):Pure prog 172 [intA s n] (intZ (-zI s n)):=by
 have e:-zI s n=zI (!s) n:=by cases s<;>simp [zI]
 rw [e];refine Zaa (tok:=0) func172 rfl ntmps172 results172 call172 (by rfl) (by simp) ?_;(focus (refine wkvp w_t (w_1 (zOf' (!s) n hn)) ?_;(repeat' first|exact w_t|apply w_l);all_goals intros));simp (disch:=omega) only [go_sem]
theorem zSign (z:Int) (hz:(toL z.natAbs).length≤100000000):Pure prog 165 [intZ z] (.v (.int .i64 z.sign)):=by
 have cn:=zNormZ z hz;have hp:=@Za8 z.natAbs;rcases Int.lt_trichotomy z 0 with h | h | h
 ·rw [Int.sign_eq_neg_one_of_neg h];have h2:=hp.2 (by omega);rw [Zs5 h] at cn ⊢;refine Zaa (tok:=0) func165 rfl ntmps165 results165 call165 (by rfl) (by simp) ?_;(focus (refine wkvp w_t (w_1 cn) ?_;(repeat' first|exact w_t|apply w_l);all_goals intros));simp (disch:=omega) only [go_sem]
 ·have h2:¬0 < (toL z.natAbs).length:=λh3=>by have:=hp.1 h3;omega
  have hs:z.sign=0:=by rw [h];rfl
  rw [hs];rw [Znc (by omega)] at cn ⊢;refine Zaa (tok:=0) func165 rfl ntmps165 results165 call165 (by rfl) (by simp) ?_;(focus (refine wkvp w_t (w_1 cn) ?_;(repeat' first|exact w_t|apply w_l);all_goals intros));simp (disch:=omega) only [go_sem]
 ·rw [Int.sign_eq_one_of_pos h];have h2:=hp.2 (by omega);rw [Znc (by omega)] at cn ⊢;refine Zaa (tok:=0) func165 rfl ntmps165 results165 call165 (by rfl) (by simp) ?_;(focus (refine wkvp w_t (w_1 cn) ?_;(repeat' first|exact w_t|apply w_l);all_goals intros));simp (disch:=omega) only [go_sem]
theorem gcd_le_l (n m:Nat) (h:m≠0):Nat.gcd n m≠0:=Nat.ne_of_gt (Nat.gcd_pos_of_pos_right _ (Nat.pos_of_ne_zero h))
theorem intZ_div (s:Bool) (n g:Nat) (hg:g ∣ n) (h0:g≠0):intZ (zI s (n/g))=.agg [.v (.bool (decide (zI s n < 0))),lim (toL (n/g))]:=by
 rw [Zfj,zI_lt]
 have:(0 < n/g)↔(0 < n):=by
  obtain⟨k,rfl⟩:=hg;rw [Nat.mul_div_cancel_left _ (Nat.pos_of_ne_zero h0)];constructor
  ·intro h;exact Nat.mul_pos (Nat.pos_of_ne_zero h0) h
  ·intro h;exact Nat.pos_of_ne_zero λe=>by rw [e] at h;simp at h
 simp only [this]
theorem qOver (s:Bool) (n m:Nat) (hn:(toL n).length≤10000000) (hm:(toL m).length≤10000000) (h0:m≠0):Pure prog 130 [intA s n,lim (toL m)] (ratQ (mkRat (zI s n) m)):=by
 rw [Zqf _ _ h0,Zdz];have g0:=gcd_le_l n m h0;have hgd:=Nat.gcd_dvd_left n m;have hmp:=Za8.2 (Nat.pos_of_ne_zero h0);have hg:(toL (Nat.gcd n m)).length≤10000000:=Nat.le_trans (Zed (Nat.le_of_dvd (by omega) (Nat.gcd_dvd_right _ _))) hm;have hq:(toL (n/Nat.gcd n m)).length≤10000000:=Nat.le_trans (Zed (Nat.div_le_self _ _)) hn;have cg:=rGcd n m (by omega) (by omega);have c1:=Zwq n (Nat.gcd n m) (by omega) (by omega) g0;have c2:=Zwq m (Nat.gcd n m) (by omega) (by omega) g0;have cn:=zNorm s (n/Nat.gcd n m) (by omega);rw [intZ_div s n _ hgd g0] at cn;refine Zaa (tok:=0) func130 rfl ntmps130 results130 call130 (by rfl) (by simp) ?_
 (focus (refine wkvp w_t (w_5 (rNorm m (by omega)) cg c1 c2 cn) ?_;(repeat' first|exact w_t|apply w_l);all_goals intros));simp (disch:=omega) only [go_sem]
theorem qNorm (q:Rat) {k:Nat} (h:Sz q k) (hk:k≤10000000):Pure prog 166 [ratQ q] (ratQ q):=by
 have c:=qOver (decide (q.num < 0)) q.num.natAbs q.den (Nat.le_trans h.1 hk) (Nat.le_trans h.2 hk) q.den_nz;rw [Zcy,Rat.mkRat_self] at c;refine Zaa (tok:=0) func166 rfl ntmps166 results166 call166 (by rfl) (by simp) ?_;(focus (refine wkvp w_t (w_1 c) ?_;(repeat' first|exact w_t|apply w_l);all_goals intros));simp (disch:=omega) only [go_sem]
theorem qMake (z w:Int) (hz:(toL z.natAbs).length≤10000000) (hw:(toL w.natAbs).length≤10000000) (h0:w≠0):Pure prog 107 [intZ z,intZ w] (.tup [ratQ (Rat.divInt z w),.v (.int .i64 0)]):=by
 have cs:=zSign w (by omega);have hs:w.sign≠0:=λh=>h0 (Int.sign_eq_zero_iff_zero.1 h);rcases (by omega:w < 0∨0 < w) with h | h
 ·have e:Rat.divInt z w=mkRat (-z) w.natAbs:=by
   have hw1:w=-((w.natAbs:Nat):Int):=by omega
   rw [show Rat.divInt z w=Rat.divInt z (-((w.natAbs:Nat):Int)) by rw [←hw1],Rat.divInt_neg',Rat.divInt_ofNat]
  have cn:=zNeg (decide (z < 0)) z.natAbs (by omega);have c:=qOver (decide (-z < 0)) (-z).natAbs w.natAbs (by rw [Int.natAbs_neg];omega) hw (by omega);rw [Zcy] at c cn;rw [←e] at c;generalize -z=y at *;generalize Rat.divInt z w=q at *;rw [Zs5 h] at cs ⊢;refine Zaa (tok:=0) func107 rfl ntmps107 results107 call107 (by rfl) (by simp) ?_;(focus (refine wkvp w_t (w_3 cs cn c) ?_;(repeat' first|exact w_t|apply w_l);all_goals intros));simp (disch:=omega) only [go_sem]
 ·have e:Rat.divInt z w=mkRat z w.natAbs:=by
   have hw1:w=((w.natAbs:Nat):Int):=by omega
   rw [show Rat.divInt z w=Rat.divInt z ((w.natAbs:Nat):Int) by rw [←hw1],Rat.divInt_ofNat]
  have c:=qOver (decide (z < 0)) z.natAbs w.natAbs hz hw (by omega);rw [Zcy,←e] at c;generalize Rat.divInt z w=q at *;rw [Znc (by omega:¬w < 0)] at cs ⊢;refine Zaa (tok:=0) func107 rfl ntmps107 results107 call107 (by rfl) (by simp) ?_;(focus (refine wkvp w_t (w_2 cs c) ?_;(repeat' first|exact w_t|apply w_l);all_goals intros));simp (disch:=omega) only [go_sem]
theorem qFrac (n m:Nat) (hn:n < 9223372036854775808) (hm:m < 9223372036854775808) (h0:m≠0):Pure prog 49 [.v (.int .i64 (n:Int)),.v (.int .i64 (m:Int))] (ratQ (mkRat n m)):=by
 have l4:(toL n).length≤4:=Zaf.2 (by omega);have m4:(toL m).length≤4:=Zaf.2 (by omega);have c:=qMake (n:Int) (m:Int) (by rw [Int.natAbs_natCast];omega) (by rw [Int.natAbs_natCast];omega) (by omega);rw [Rat.divInt_ofNat] at c
 have e1:intZ (n:Int)=intA false n:=by
  have:=Zfj false n
  rwa [Bool.false_and] at this
 have e2:intZ (m:Int)=intA false m:=by
  have:=Zfj false m
  rwa [Bool.false_and] at this
 rw [e1,e2] at c;generalize mkRat (n:Int) m=q at *;refine Zaa (tok:=0) func49 rfl ntmps49 results49 call49 (by rfl) (by simp) ?_;(focus (refine wkvp w_t (w_3 (zOf n hn) (zOf m hm) c) ?_;(repeat' first|exact w_t|apply w_l);all_goals intros));simp (disch:=omega) only [go_sem]
theorem ratFrac (n m:Nat) (hn:n < 9223372036854775808) (hm:m < 9223372036854775808) (h0:m≠0):Pure prog 136 [.v (.int .i64 (n:Int)),.v (.int .i64 (m:Int))] (ratQ (mkRat n m)):=by
 have l4:(toL n).length≤4:=Zaf.2 (by omega);have m4:(toL m).length≤4:=Zaf.2 (by omega);have c:=ratMake (n:Int) (m:Int) (by rw [Int.natAbs_natCast];omega) (by rw [Int.natAbs_natCast];omega) (by omega);rw [Rat.divInt_ofNat] at c
 have e1:intZ (n:Int)=intA false n:=by
  have:=Zfj false n
  rwa [Bool.false_and] at this
 have e2:intZ (m:Int)=intA false m:=by
  have:=Zfj false m
  rwa [Bool.false_and] at this
 rw [e1,e2] at c;generalize mkRat (n:Int) m=q at *;refine Zaa (tok:=0) func136 rfl ntmps136 results136 call136 (by rfl) (by simp) ?_;(focus (refine wkvp w_t (w_3 (intOf n hn) (intOf m hm) c) ?_;(repeat' first|exact w_t|apply w_l);all_goals intros));simp (disch:=omega) only [go_sem]
attribute [local go_sem] underlying2 underlying95 underlying9 szU8 byU8 zU8 Zbh zStr
def decB:Nat→Nat→ByteArray→ByteArray
 | 0,_,s=>s
 | f+1,n,s=>if n=0 then s else decB f (n/10) (Zgk [((48+n%10:Nat):Int)]++s)
def decS (n:Nat):ByteArray:=if n=0 then Zgk [48] else decB n n ByteArray.empty
theorem Zpm:∀(f g n:Nat) (s:ByteArray),n≤f→n≤g→decB f n s=decB g n s
 | 0,0,_,_,_,_=>rfl
 | 0,g+1,n,s,h,_=>by
   have:n=0:=by omega
   subst this;rfl
 | f+1,0,n,s,_,h=>by
   have:n=0:=by omega
   subst this;rfl
 | f+1,g+1,n,s,h1,h2=>by
   unfold decB;by_cases h:n=0
   ·rw [if_pos h,if_pos h]
   ·rw [if_neg h,if_neg h];exact Zpm f g _ _ (by omega) (by omega)
theorem Zzd {n:Nat} {s:ByteArray} (h:n≠0):decB n n s=decB (n/10) (n/10) (Zgk [((48+n%10:Nat):Int)]++s):=by
 obtain⟨m,rfl⟩:∃m,n=m+1:=⟨n - 1,by omega⟩;rw [decB,if_neg h];exact Zpm _ _ _ _ (by omega) (by omega)
theorem Zej (l:List Int):(Zgk l).size=l.length:=by
 have key:∀(l:List Int) (s:ByteArray),(l.foldl (λr n=>r.push (UInt8.ofNat n.toNat)) s).size=s.size+l.length:=by
  intro l
  induction l with
  | nil=>intro s;rfl
  | cons a l ih=>intro s;rw [List.foldl_cons,ih,ByteArray.size_push,List.length_cons];omega
 unfold Zgk;rw [key];show 0+l.length=l.length;omega
def decZ (z:Int):ByteArray:=if z < 0 then Zgk [45]++decS z.natAbs else decS z.natAbs
def decQ (q:Rat):ByteArray:=if q.den=1 then decZ q.num else decZ q.num++Zgk [47]++decS q.den
theorem Zze {k:Nat}:∀(f n:Nat) (s:ByteArray),n < 10 ^ k→(decB f n s).size≤s.size+k:=by
 induction k with
 | zero =>
   intro f n s h;have:n=0:=by simpa using h
   subst this;cases f<;>simp [decB]
 | succ k ih =>
   intro f n s h
   cases f with
   | zero=>simp [decB]
   | succ f =>
     unfold decB;split
     ·omega
     ·have:=ih f (n/10) (Zgk [((48+n%10:Nat):Int)]++s) (by rw [Nat.pow_succ] at h;omega);rw [ByteArray.size_append,Zej] at this;simp only [List.length_cons,List.length_nil] at this;omega
theorem Zf0 (n:Nat):(decS n).size≤5*(toL n).length+1:=by
 unfold decS;split
 ·rw [Zej];simp
 ·have h1:=Zaf.1 (Nat.le_refl ((toL n).length))
  have h3:65536 ^ (toL n).length≤10 ^ (5*(toL n).length):=by
   rw [Nat.pow_mul];exact Nat.pow_le_pow_left (by decide) _
  have:=Zze (k:=5*(toL n).length) n n ByteArray.empty (by omega);have e:ByteArray.empty.size=0:=rfl;omega
theorem Zpk (z:Int):(decZ z).size≤5*(toL z.natAbs).length+2:=by
 have:=Zf0 z.natAbs;unfold decZ;split
 ·rw [ByteArray.size_append,Zej];simp only [List.length_cons,List.length_nil];omega
 ·omega
attribute [local go_sem] underlying39 underlying111 underlying110 underlying69 underlying45 Zah Zan Zvy zCor szC3 zC3 Zce zErr Zcm Zai Bool.and_self
def dig36:ByteArray:=⟨#[48,49,50,51,52,53,54,55,56,57,97,98,99,100,101,102,103,104,105,106,107,108,109,110,111,112,113,114,115,116,117,118,119,120,121,122]⟩
def dig200:ByteArray:=⟨#[48,48,48,49,48,50,48,51,48,52,48,53,48,54,48,55,48,56,48,57,49,48,49,49,49,50,49,51,49,52,49,53,49,54,49,55,49,56,49,57,50,48,50,49,50,50,50,51,50,52,50,53,50,54,50,55,50,56,50,57,51,48,51,49,51,50,51,51,51,52,51,53,51,54,51,55,51,56,51,57,52,48,52,49,52,50,52,51,52,52,52,53,52,54,52,55,52,56,52,57,53,48,53,49,53,50,53,51,53,52,53,53,53,54,53,55,53,56,53,57,54,48,54,49,54,50,54,51,54,52,54,53,54,54,54,55,54,56,54,57,55,48,55,49,55,50,55,51,55,52,55,53,55,54,55,55,55,56,55,57,56,48,56,49,56,50,56,51,56,52,56,53,56,54,56,55,56,56,56,57,57,48,57,49,57,50,57,51,57,52,57,53,57,54,57,55,57,56,57,57]⟩
theorem dig36_at:∀n,n < 10→dig36.extract n (n+1)=decS n:=by decide +kernel
theorem Zzb:∀n,n < 100→10≤n→dig200.extract (n*2) (n*2+2)=decS n:=by decide +kernel
theorem scSmall (n:Nat) (hn:n < 100):Pure prog 260 [iv (n:Int)] (.v (.string (decS n))):=by
 by_cases h:n < 10
 ·refine Zaa (tok:=0) func260 rfl ntmps260 results260 call260 (by rfl) (by simp) ?_;(focus (refine wkvp w_t w_t ?_;(repeat' first|exact w_t|apply w_l);all_goals intros));simp (disch:=omega) only [go_sem];exact congrArg (λs=>AV.v (.string s)) (dig36_at n h)
 ·have e1:(n:Int)*2=((n*2:Nat):Int):=by omega
  have e2:((n*2:Nat):Int)+2=((n*2+2:Nat):Int):=by omega
  refine Zaa (tok:=0) func260 rfl ntmps260 results260 call260 (by rfl) (by simp) ?_
  (repeat' (first|(with_reducible first|refine stp ?_|apply gx1|apply gx2|apply gx3|apply gx4|apply gx5|apply gx6|apply gx7)|(with_reducible refine Zcb ?_;intro _)|((with_reducible refine gE ?_);(try simp (disch:=omega) only [go_sem,e1,e2,List.append_eq,List.length_append])<;>first|rfl|omega)|with_reducible refine Zaj (by decide) ?_))
  simp (disch:=omega) only [go_sem];exact congrArg (λs=>AV.v (.string s)) (Zzb n hn (by omega))
theorem scFormat (n:Nat) (hn:n < 100):Pure prog 252 [.v (.int .i64 (n:Int)),iv 10] (.v (.string (decS n))):=by
 have c:=scSmall n hn;refine Zaa (tok:=0) func252 rfl ntmps252 results252 call252 (by rfl) (by simp) ?_;(focus (refine wkvp w_t (w_1 c) ?_;(repeat' first|exact w_t|apply w_l);all_goals intros));simp (disch:=omega) only [go_sem]
theorem scItoaI (n:Nat) (hn:n < 100):Pure prog 225 [iv (n:Int)] (.v (.string (decS n))):=by
 have c:=scFormat n hn;refine Zaa (tok:=0) func225 rfl ntmps225 results225 call225 (by rfl) (by simp) ?_;(focus (refine wkvp w_t (w_1 c) ?_;(repeat' first|exact w_t|apply w_l);all_goals intros));simp (disch:=omega) only [go_sem]
theorem scItoa (n:Nat) (hn:n < 100):Pure prog 179 [iv (n:Int)] (.v (.string (decS n))):=by
 have c:=scItoaI n hn;refine Zaa (tok:=0) func179 rfl ntmps179 results179 call179 (by rfl) (by simp) ?_;(focus (refine wkvp w_t (w_1 c) ?_;(repeat' first|exact w_t|apply w_l);all_goals intros));simp (disch:=omega) only [go_sem]
def c1 (s:ByteArray) (ss:List ByteArray) (n:Int):ByteArray:=s++ss.getD n.toNat ByteArray.empty
def Qt.txt (q:Qt) (ss:List ByteArray):ByteArray :=
 if q.k=3 then ⟨#[116,40]⟩++decS q.a.toNat++⟨#[41]⟩
 else (if q.k=2 then ⟨#[80,40]⟩ else ⟨#[83,40]⟩)++ss.getD q.a.toNat ByteArray.empty++⟨#[44,32]⟩++ss.getD q.b.toNat ByteArray.empty++⟨#[44,32]⟩++ss.getD q.c.toNat ByteArray.empty++⟨#[41]⟩
theorem Zzi {k a b c n m:Int} (h:Qt.chk ⟨k,a,b,c⟩ n m=0):(k=3∧0≤a∧a < 64∧a < m)∨(k≠3∧(k=1∨k=2)∧(0≤a∧a < n)∧(0≤b∧b < n)∧(0≤c∧c < n)):=by
 unfold Qt.chk Qt.ok at h;simp only [decide_eq_true_eq] at h;split at h
 ·split at h
  ·split at h<;>omega
  ·split at h<;>omega
 ·omega
theorem Zp1 {ss:List ByteArray} {j:Nat} (h:j < ss.length):(ss.map strA).getD j .u=strA (ss.getD j ByteArray.empty):=by
 rw [List.getD_eq_getElem?_getD,List.getElem?_map,List.getElem?_eq_getElem h,List.getD_eq_getElem?_getD,List.getElem?_eq_getElem h];rfl
theorem Zf5 {ss:List ByteArray} (h:∀s∈ss,s.size≤1000) (j:Nat):(ss.getD j ByteArray.empty).size≤1000:=by
 rw [List.getD_eq_getElem?_getD];rcases Nat.lt_or_ge j ss.length with h1 | h1
 ·rw [List.getElem?_eq_getElem h1];exact h _ (List.getElem_mem h1)
 ·rw [List.getElem?_eq_none h1];exact Nat.zero_le _
theorem quText (k a b c:Int) (ss:List ByteArray) (hl:ss.length≤1000000000) (hs:∀s∈ss,s.size≤1000):Pure prog 112 [Qt.av ⟨k,a,b,c⟩,.sl 1 (ss.map strA)] (if Qt.chk ⟨k,a,b,c⟩ ss.length 64=0 then .tup [strA (Qt.txt ⟨k,a,b,c⟩ ss),iv 0] else .tup [strA ⟨#[]⟩,iv (Qt.chk ⟨k,a,b,c⟩ ss.length 64)]):=by
 have cc:=quCheck k a b c ss.length 64;have ok:=@Zzi k a b c ss.length 64;generalize Qt.chk ⟨k,a,b,c⟩ ss.length 64=v at *;by_cases hv:v=0
 ·subst hv;rw [if_pos rfl];rcases ok rfl with⟨rfl,h1,h2,h3⟩ | ⟨h0,h1,h2,h3,h4⟩
  ·obtain⟨n,rfl⟩:∃n:Nat,a=n:=⟨a.toNat,by omega⟩;have ci:=scItoa n (by omega);have z:=Zf0 n;have zl:(toL n).length≤1:=Zaf.2 (by omega);have e:Qt.txt ⟨3,n,b,c⟩ ss=⟨#[116,40]⟩++decS n++⟨#[41]⟩:=by unfold Qt.txt;rfl
   rw [e];generalize decS n=s at *;have s1:(⟨#[116,40]⟩:ByteArray).size=2:=rfl;have s2:(⟨#[41]⟩:ByteArray).size=1:=rfl;refine Zaa (tok:=0) func112 rfl ntmps112 results112 call112 (by rfl) (by simp) ?_;(focus (refine wkld (w_4 @ByteArray.size_append s1 s2 @Zm9) (w_2 cc ci) w_t w_t ?_;(repeat' first|exact w_t|apply w_l);all_goals intros))
  ·obtain⟨x,rfl⟩:∃n:Nat,a=n:=⟨a.toNat,by omega⟩;obtain⟨y,rfl⟩:∃n:Nat,b=n:=⟨b.toNat,by omega⟩;obtain⟨w,rfl⟩:∃n:Nat,c=n:=⟨c.toNat,by omega⟩;have hx:=Zp1 (ss:=ss) (j:=x) (by omega);have hy:=Zp1 (ss:=ss) (j:=y) (by omega);have hw:=Zp1 (ss:=ss) (j:=w) (by omega);have zx:=Zf5 hs x;have zy:=Zf5 hs y;have zw:=Zf5 hs w;unfold Qt.txt;simp only [Int.toNat_natCast];generalize ss.getD x ByteArray.empty=sx at *;generalize ss.getD y ByteArray.empty=sy at *;generalize ss.getD w ByteArray.empty=sw at *;have s1:(⟨#[83,40]⟩:ByteArray).size=2:=rfl;have s2:(⟨#[80,40]⟩:ByteArray).size=2:=rfl
   have s3:(⟨#[44,32]⟩:ByteArray).size=2:=rfl;have s4:(⟨#[41]⟩:ByteArray).size=1:=rfl;refine Zaa (tok:=0) func112 rfl ntmps112 results112 call112 (by rfl) (by simp) ?_;(focus (refine wkld (w_9 @ByteArray.size_append s1 s2 s3 s4 @Zm9 hx hy hw) (w_1 cc) w_t w_t ?_;(repeat' first|exact w_t|apply w_l);all_goals intros))
 ·rw [if_neg hv];refine Zaa (tok:=0) func112 rfl ntmps112 results112 call112 (by rfl) (by simp) ?_;(focus (refine wkld (w_1 @Zm9) (w_1 cc) w_t w_t ?_;(repeat' first|exact w_t|apply w_l);all_goals intros))
def isP (a b c:Int) (p:Nat):Bool:=decide (a=(p:Int)∨b=(p:Int)∨c=(p:Int))
def Qt.pts (q:Qt):List Int:=if q.ok=true∧q.k≠3 then ((List.range 40).filter (isP q.a q.b q.c)).map λn:Nat=>(n:Int) else []
theorem Zjt (k a b c:Int):Pure prog 32 [Qt.av ⟨k,a,b,c⟩] (ivs (Qt.pts ⟨k,a,b,c⟩)):=by
 have c1:=Zkm k a b c;have c2:=quOf k a b c;unfold Qt.pts;generalize Qt.ok ⟨k,a,b,c⟩=v at *;by_cases hv:v=true∧k≠3
 ·obtain⟨rfl,hk⟩:=hv;rw [if_pos ⟨rfl,hk⟩];refine Zaa (tok:=0) func32 rfl ntmps32 results32 call32 (by rfl) (by simp) ?_;(focus (refine wkap w_t (w_1 c1) (w_r 0) ?_;(repeat' first|exact w_t|apply w_l);all_goals intros));refine Zgr (Frz.nilOwn (d:=3) 38 1 3 (by exact gC)) ?_;refine Zae (ι:=Nat) (λi e m=>i≤40∧e 14=iv i∧(∃g,e 1=.pbox 1 g 0∧m 1=some (.box g 39 [iv k,iv a,iv b,iv c] false))∧∃sv,e 3=.own 38 sv∧m 38=some (.row sv 3 1 ((((List.range i).filter (isP a b c)).map λn:Nat=>(n:Int)).map iv) 0)) (λi=>40 - i) 0 (by rfl) ?_ ?_
  ·rintro i e m ⟨hi,e14,⟨g,e1,m1⟩,sv,e3,m38⟩
   by_cases h40:i < 40
   ·have hstep:(List.range (i+1)).filter (isP a b c)=(List.range i).filter (isP a b c)++(if a=i∨b=i∨c=i then [i] else []):=by
     rw [List.range_succ,List.filter_append];congr 1;by_cases h:a=i∨b=i∨c=i
     ·have hp:isP a b c i=true:=decide_eq_true h;rw [if_pos h,List.filter_cons,if_pos hp];rfl
     ·have hp:isP a b c i=false:=decide_eq_false h;rw [if_neg h,List.filter_cons,if_neg (by rw [hp];simp)];rfl
    have hlen:((List.range i).filter (isP a b c)).length≤40:=Nat.le_trans (List.length_filter_le _ _) (by simp;omega);by_cases h:a=i∨b=i∨c=i
    ·rw [if_pos h] at hstep;generalize (List.range i).filter (isP a b c)=l at *;(focus (refine wkap (w_6 e14 e1 m1 e3 m38 @Zm9) (w_1 c2) (w_r 0) ?_;(repeat' first|exact w_t|apply w_l);all_goals intros));all_goals refine⟨i+1,⟨by omega,by exact gS,⟨_,by exact gW e1,by exact gW m1⟩,_,by exact gW e3,?_⟩,by omega⟩
     all_goals (rw [hstep,List.map_append,List.map_append];exact gC)
    ·rw [if_neg h,List.append_nil] at hstep;generalize (List.range i).filter (isP a b c)=l at *;(focus (refine wkap (w_6 e14 e1 m1 e3 m38 @Zm9) (w_1 c2) (w_r 0) ?_;(repeat' first|exact w_t|apply w_l);all_goals intros));all_goals refine⟨i+1,⟨by omega,by exact gS,⟨_,by exact gW e1,by exact gW m1⟩,_,by exact gW e3,?_⟩,by omega⟩
     all_goals (rw [hstep];exact gW m38)
   ·have:i=40:=by omega
    subst this;(focus (refine wkap (w_6 e14 e1 m1 e3 m38 @Zm9) w_t (w_r 0) ?_;(repeat' first|exact w_t|apply w_l);all_goals intros));simp (disch:=omega) only [go_sem,m38,List.length_map]
  ·refine⟨by omega,by exact gC,⟨_,by exact gC,by exact gC⟩,_,by exact gC,by(simp (disch:=omega) only [go_sem,List.range_zero,List.filter_nil]<;>repeat' first|rfl|refine⟨?_,?_⟩)⟩
 ·rw [if_neg hv];refine Zjv (r:=.v (.slice none 0 0)) ?_ (.nil 1);cases v
  ·refine Zaa (tok:=0) func32 rfl ntmps32 results32 call32 (by rfl) (by simp) ?_;(focus (refine wklp w_t (w_1 c1) w_t (w_r 0) ?_;(repeat' first|exact w_t|apply w_l);all_goals intros))
  ·have hk:k=3:=by
    rcases Decidable.em (k=3) with h | h
    ·exact h
    ·exact(hv ⟨rfl,h⟩).elim
   subst hk;refine Zaa (tok:=0) func32 rfl ntmps32 results32 call32 (by rfl) (by simp) ?_;(focus (refine wklp w_t (w_1 c1) w_t (w_r 0) ?_;(repeat' first|exact w_t|apply w_l);all_goals intros))
abbrev ptQ (x y:Rat):AV:=.agg [.v (.bool (decide (x.num < 0))),lim (toL x.num.natAbs),lim (toL x.den),.v (.bool (decide (y.num < 0))),lim (toL y.num.natAbs),lim (toL y.den)]
abbrev PQ:=Rat × Rat
abbrev PQ.av (p:PQ):AV:=ptQ p.1 p.2
def PQ.sz (p:PQ) (j:Nat):Prop:=Sz p.1 j∧Sz p.2 j
def Zfd (p q r s:PQ):Rat:=(q.1 - p.1)*(s.2 - r.2) - (q.2 - p.2)*(s.1 - r.1)
def dotP (p q r s:PQ):Rat:=(q.1 - p.1)*(s.1 - r.1)+(q.2 - p.2)*(s.2 - r.2)
def Qt.val (q:Qt) (ps:List PQ) (rs:List Rat):Rat :=
 if q.k=3 then rs.getD q.a.toNat 0
 else if q.k=1 then Zfd (ps.getD q.a.toNat (0,0)) (ps.getD q.b.toNat (0,0)) (ps.getD q.a.toNat (0,0)) (ps.getD q.c.toNat (0,0))
 else 2*dotP (ps.getD q.b.toNat (0,0)) (ps.getD q.a.toNat (0,0)) (ps.getD q.b.toNat (0,0)) (ps.getD q.c.toNat (0,0))
theorem chk_val {k a b c n m:Int} (h:Qt.chk ⟨k,a,b,c⟩ n m=0):(k=3∧0≤a∧a < 64∧a < m)∨(k≠3∧(k=1∨k=2)∧(0≤a∧a < n)∧(0≤b∧b < n)∧(0≤c∧c < n)):=Zzi h
abbrev zeroQ:AV:=.agg [.v (.bool false),.v (.slice none 0 0),.v (.slice none 0 0)]
def shortB (ss:List ByteArray):Bool:=decide (ss.length≤60) && ss.all λs=>decide (s.size≤30)
section
attribute [local go_sem] underlying3 underlying2 underlying4 underlying33 underlying39 underlying69 underlying45 underlying9 underlying54 sz3 by3 z3 Zah Zan Zce zErr Zbh Zcm zStr Zai Bool.and_self Zas zRat
end
attribute [local go_sem] beq_self_eq_true
section
variable {N n:Nat} {cs:List AV}
theorem shQuant (h:Zb5 prog N n 39 cs):∃k a b c:Int,cs=[iv k,iv a,iv b,iv c]:=by
 obtain⟨m,rfl,hs⟩:=Zb0 underlying39 (by kernel_rfl) h;obtain⟨x,y,rfl,h1,hs⟩:=hs.inv;obtain⟨x2,y,rfl,h2,hs⟩:=hs.inv;obtain⟨x3,y,rfl,h3,hs⟩:=hs.inv;obtain⟨x4,y,rfl,h4,hs⟩:=hs.inv;obtain rfl:=hs.inv0;obtain⟨k,rfl,_⟩:=Zb7 underlying3 h1;obtain⟨a,rfl,_⟩:=Zb7 underlying3 h2;obtain⟨b,rfl,_⟩:=Zb7 underlying3 h3;obtain⟨c,rfl,_⟩:=Zb7 underlying3 h4;exact⟨k,a,b,c,rfl⟩
theorem aggQuant (cs:List AV):Zcv prog 39 cs=.agg cs:=Zeo underlying39 cs
end
end Go.Proofs.YtpkcophcldjboaaGreatDoor
namespace Go.Pol
structure KO {α:Type} (D:α→Prop) (lt:α→α→Prop):Prop where
 irr:∀x,¬lt x x
 tr:∀x y z,lt x y→lt y z→lt x z
 tri:∀x y,D x→D y→lt x y∨x=y∨lt y x
section
variable {α:Type} {D:α→Prop} {lt:α→α→Prop} [DecidableEq α]
def cof:List (Rat × α)→α→Rat
 | [],_=>0
 | t :: p,x=>(if t.2=x then t.1 else 0)+cof p x
end
section
variable {α:Type} {D:α→Prop} {lt:α→α→Prop}
def addP (lt:α→α→Prop) [DecidableRel lt]:List (Rat × α)→List (Rat × α)→List (Rat × α)
 | [],q=>q
 | s :: p,[]=>s :: p
 | s :: p,t :: q =>
   if lt t.2 s.2 then s :: addP lt p (t :: q)
   else if lt s.2 t.2 then t :: addP lt (s :: p) q
   else if s.1+t.1=0 then addP lt p q
   else (s.1+t.1,s.2) :: addP lt p q
termination_by p q=>p.length+q.length
def Srt (D:α→Prop) (lt:α→α→Prop) (p:List (Rat × α)):Prop:=(∀t∈p,t.1≠0∧D t.2)∧p.Pairwise (λs t=>lt t.2 s.2)
end
section
variable {α:Type} {D:α→Prop} {lt:α→α→Prop} [DecidableEq α]
end
section
variable {α:Type} {D:α→Prop} {lt:α→α→Prop} [DecidableRel lt]
theorem Ztt (p:List (Rat × α)):addP lt p []=p:=by cases p<;>simp [addP]
theorem Zih {p q:List (Rat × α)} {t:Rat × α} (h:t∈addP lt p q):∃s∈p++q,t.2=s.2:=by
 fun_induction addP lt p q with
 | case1 q=>exact⟨t,by simpa using h,rfl⟩
 | case2 s p=>exact⟨t,by simpa using h,rfl⟩
 | case3 s p u q h1 ih =>
   rcases List.mem_cons.1 h with rfl | h
   ·exact⟨t,by simp,rfl⟩
   ·obtain⟨v,hv,e⟩:=ih h;exact⟨v,by simp only [List.cons_append,List.mem_cons,List.mem_append] at hv ⊢;rcases hv with hv | hv | hv<;>simp [hv],e⟩
 | case4 s p u q h1 h2 ih =>
   rcases List.mem_cons.1 h with rfl | h
   ·exact⟨t,by simp,rfl⟩
   ·obtain⟨v,hv,e⟩:=ih h;exact⟨v,by simp only [List.cons_append,List.mem_cons,List.mem_append] at hv ⊢;rcases hv with hv | hv | hv<;>simp [hv],e⟩
 | case5 s p u q h1 h2 h3 ih =>
   obtain⟨v,hv,e⟩:=ih h;exact⟨v,by simp only [List.cons_append,List.mem_cons,List.mem_append] at hv ⊢;rcases hv with hv | hv<;>simp [hv],e⟩
 | case6 s p u q h1 h2 h3 ih =>
   rcases List.mem_cons.1 h with rfl | h
   ·exact⟨s,by simp,rfl⟩
   ·obtain⟨v,hv,e⟩:=ih h;exact⟨v,by simp only [List.cons_append,List.mem_cons,List.mem_append] at hv ⊢;rcases hv with hv | hv<;>simp [hv],e⟩
end
section
variable {α:Type} {D:α→Prop} {lt:α→α→Prop} [DecidableEq α] [DecidableRel lt]
theorem Zgf (o:KO D lt) {p q:List (Rat × α)} (x:α) (hp:∀t∈p,D t.2) (hq:∀t∈q,D t.2):cof (addP lt p q) x=cof p x+cof q x:=by
 fun_induction addP lt p q with
 | case1 q=>show cof q x=0+cof q x;rw [Rat.zero_add]
 | case2 s p=>show cof (s :: p) x=cof (s :: p) x+0;rw [Rat.add_zero]
 | case3 s p u q h1 ih =>
   have:=ih (λt h=>hp t (.tail _ h)) hq;simp only [cof] at this ⊢;rw [this];grind
 | case4 s p u q h1 h2 ih =>
   have:=ih hp (λt h=>hq t (.tail _ h));simp only [cof] at this ⊢;rw [this];grind
 | case5 s p u q h1 h2 h3 ih =>
   have e:s.2=u.2:=by rcases o.tri s.2 u.2 (hp s (.head _)) (hq u (.head _)) with h | h | h;exact absurd h h2;exact h;exact absurd h h1
   have:=ih (λt h=>hp t (.tail _ h)) (λt h=>hq t (.tail _ h));simp only [cof] at this ⊢;rw [this,e];split<;>grind
 | case6 s p u q h1 h2 h3 ih =>
   have e:s.2=u.2:=by rcases o.tri s.2 u.2 (hp s (.head _)) (hq u (.head _)) with h | h | h;exact absurd h h2;exact h;exact absurd h h1
   have:=ih (λt h=>hp t (.tail _ h)) (λt h=>hq t (.tail _ h));simp only [cof] at this ⊢;rw [this,e];split<;>grind
end
section
variable {α:Type} {D:α→Prop} {lt:α→α→Prop}
theorem Srt.nil:Srt D lt ([]:List (Rat × α)):=⟨by simp,.nil⟩
theorem Srt.tail {t:Rat × α} {p:List (Rat × α)} (h:Srt D lt (t :: p)):Srt D lt p:=⟨λu hu=>h.1 u (.tail _ hu),(List.pairwise_cons.1 h.2).2⟩
theorem Srt.cons {t:Rat × α} {p:List (Rat × α)} (h:Srt D lt p) (h1:t.1≠0) (h2:D t.2) (h3:∀u∈p,lt u.2 t.2):Srt D lt (t :: p) :=
 ⟨λu hu=>by rcases List.mem_cons.1 hu with rfl | hu;exact⟨h1,h2⟩;exact h.1 u hu,List.pairwise_cons.2 ⟨h3,h.2⟩⟩
theorem Srt.dom {p:List (Rat × α)} (h:Srt D lt p):∀t∈p,D t.2:=λt ht=>(h.1 t ht).2
theorem Srt.head_lt {t:Rat × α} {p:List (Rat × α)} (h:Srt D lt (t :: p)):∀u∈p,lt u.2 t.2:=(List.pairwise_cons.1 h.2).1
end
section
variable {α:Type} {D:α→Prop} {lt:α→α→Prop} [DecidableRel lt]
theorem Zc1 (o:KO D lt) {p q:List (Rat × α)} (hp:Srt D lt p) (hq:Srt D lt q):Srt D lt (addP lt p q):=by
 fun_induction addP lt p q with
 | case1 q=>exact hq
 | case2 s p=>exact hp
 | case3 s p u q h1 ih =>
   refine(ih hp.tail hq).cons (hp.1 s (.head _)).1 (hp.1 s (.head _)).2 λv hv=>?_;obtain⟨w,hw,e⟩:=Zih hv;rw [e];rcases List.mem_append.1 hw with hw | hw
   ·exact hp.head_lt w hw
   ·rcases List.mem_cons.1 hw with rfl | hw
    ·exact h1
    ·exact o.tr _ _ _ (hq.head_lt w hw) h1
 | case4 s p u q h1 h2 ih =>
   refine(ih hp hq.tail).cons (hq.1 u (.head _)).1 (hq.1 u (.head _)).2 λv hv=>?_;obtain⟨w,hw,e⟩:=Zih hv;rw [e];rcases List.mem_append.1 hw with hw | hw
   ·rcases List.mem_cons.1 hw with rfl | hw
    ·exact h2
    ·exact o.tr _ _ _ (hp.head_lt w hw) h2
   ·exact hq.head_lt w hw
 | case5 s p u q h1 h2 h3 ih=>exact ih hp.tail hq.tail
 | case6 s p u q h1 h2 h3 ih =>
   have es:s.2=u.2:=by rcases o.tri s.2 u.2 (hp.dom s (.head _)) (hq.dom u (.head _)) with h | h | h;exact absurd h h2;exact h;exact absurd h h1
   refine(ih hp.tail hq.tail).cons h3 (hp.1 s (.head _)).2 λv hv=>?_;obtain⟨w,hw,e⟩:=Zih hv;rw [e];rcases List.mem_append.1 hw with hw | hw
   ·exact hp.head_lt w hw
   ·show lt w.2 s.2;rw [es];exact hq.head_lt w hw
end
section
variable {α:Type} {D:α→Prop} {lt:α→α→Prop} [DecidableEq α]
theorem Zk5 (o:KO D lt) {p:List (Rat × α)} {x:α} (h:∀t∈p,lt t.2 x):cof p x=0:=by
 induction p with
 | nil=>rfl
 | cons t p ih =>
   show(if t.2=x then t.1 else 0)+cof p x=0;rw [if_neg (by rintro rfl;exact o.irr _ (h t (.head _))),ih λu hu=>h u (.tail _ hu),Rat.add_zero]
theorem Zhj (o:KO D lt) {t:Rat × α} {p:List (Rat × α)} (h:Srt D lt (t :: p)):cof (t :: p) t.2=t.1:=by
 show(if t.2=t.2 then t.1 else 0)+cof p t.2=t.1;rw [if_pos rfl,Zk5 o h.head_lt,Rat.add_zero]
theorem Ziy (o:KO D lt):∀{p q:List (Rat × α)},Srt D lt p→Srt D lt q→(∀x,cof p x=cof q x)→p=q
 | [],[],_,_,_=>rfl
 | [],t :: q,_,hq,h=>absurd ((Zhj o hq).symm.trans (h t.2).symm) (hq.1 t (.head _)).1
 | s :: p,[],hp,_,h=>absurd ((Zhj o hp).symm.trans (h s.2)) (hp.1 s (.head _)).1
 | s :: p,t :: q,hp,hq,h=>by
   have ks:s.2=t.2:=by
    rcases o.tri s.2 t.2 (hp.dom s (.head _)) (hq.dom t (.head _)) with hl | hl | hl
    ·have h1:cof (s :: p) t.2=0:=Zk5 o λu hu=>by
      rcases List.mem_cons.1 hu with rfl | hu
      ·exact hl
      ·exact o.tr _ _ _ (hp.head_lt u hu) hl
     exact absurd (((h t.2).symm.trans h1).symm.trans (Zhj o hq)).symm (hq.1 t (.head _)).1
    ·exact hl
    ·have h1:cof (t :: q) s.2=0:=Zk5 o λu hu=>by
      rcases List.mem_cons.1 hu with rfl | hu
      ·exact hl
      ·exact o.tr _ _ _ (hq.head_lt u hu) hl
     exact absurd (((h s.2).trans h1).symm.trans (Zhj o hp)).symm (hp.1 s (.head _)).1
   have kc:s.1=t.1:=by
    have h1:=h s.2;rw [Zhj o hp,ks,Zhj o hq] at h1;exact h1
   have e:s=t:=Prod.ext kc ks;subst e;congr 1;refine Ziy o hp.tail hq.tail λx=>?_;have h1:=h x;simp only [cof] at h1
   grind
end
section
variable {α:Type} {D:α→Prop} {lt:α→α→Prop}
def Zj8 (m:α→α→α) (p:List (Rat × α)) (t:Rat × α):List (Rat × α):=p.map λs=>(s.1*t.1,m s.2 t.2)
structure KM (D:α→Prop) (lt:α→α→Prop) (m:α→α→α):Prop where
 comm:∀x y,m x y=m y x
 dom:∀x y,D x→D y→D (m x y)
 mono:∀x y z,D x→D y→D z→lt x y→lt (m x z) (m y z)
theorem Zvp {m:α→α→α} (k:KM D lt m) {p:List (Rat × α)} {t:Rat × α} (hp:Srt D lt p) (h1:t.1≠0) (h2:D t.2):Srt D lt (Zj8 m p t):=by
 refine⟨λu hu=>?_,?_⟩
 ·obtain⟨s,hs,rfl⟩:=List.mem_map.1 hu;have:=hp.1 s hs;exact⟨by show s.1*t.1≠0;intro h0;rcases Rat.mul_eq_zero.1 h0 with h | h;exact this.1 h;exact h1 h,k.dom _ _ this.2 h2⟩
 ·refine List.pairwise_map.2 (hp.2.imp_of_mem λ{a b} ha hb hl=>k.mono _ _ _ (hp.dom b hb) (hp.dom a ha) h2 hl)
end
section
variable {α:Type} {D:α→Prop} {lt:α→α→Prop} [DecidableEq α]
def cofM (m:α→α→α) (p:List (Rat × α)):List (Rat × α)→α→Rat
 | [],_=>0
 | t :: q,x=>cof (Zj8 m p t) x+cofM m p q x
end
section
variable {α:Type} {D:α→Prop} {lt:α→α→Prop}
def mulR (lt:α→α→Prop) [DecidableRel lt] (m:α→α→α) (p q:List (Rat × α)):List (Rat × α):=q.foldl (λout t=>addP lt out (Zj8 m p t)) []
end
section
variable {α:Type} {D:α→Prop} {lt:α→α→Prop} [DecidableRel lt]
theorem Zpe (o:KO D lt) {m:α→α→α} (k:KM D lt m) {p:List (Rat × α)} (hp:Srt D lt p):∀(q out:List (Rat × α)),Srt D lt q→Srt D lt out→Srt D lt (q.foldl (λout t=>addP lt out (Zj8 m p t)) out)
 | [],_,_,ho=>ho
 | t :: q,_,hq,ho=>Zpe o k hp q _ hq.tail (Zc1 o ho (Zvp k hp (hq.1 t (.head _)).1 (hq.1 t (.head _)).2))
end
section
variable {α:Type} {D:α→Prop} {lt:α→α→Prop} [DecidableEq α] [DecidableRel lt]
end
section
variable {α:Type} {D:α→Prop} {lt:α→α→Prop} [DecidableRel lt]
theorem mulR_srt (o:KO D lt) {m:α→α→α} (k:KM D lt m) {p q:List (Rat × α)} (hp:Srt D lt p) (hq:Srt D lt q):Srt D lt (mulR lt m p q):=Zpe o k hp q [] hq .nil
end
section
variable {α:Type} {D:α→Prop} {lt:α→α→Prop} [DecidableEq α] [DecidableRel lt]
end
section
variable {α:Type} {D:α→Prop} {lt:α→α→Prop}
def sumH (lt:α→α→Prop) [DecidableRel lt]:List (List (Rat × α))→List (Rat × α)
 | []=>[]
 | [p]=>p
 | p :: q :: l=>addP lt (sumH lt ((p :: q :: l).take ((p :: q :: l).length/2))) (sumH lt ((p :: q :: l).drop ((p :: q :: l).length/2)))
termination_by l=>l.length
decreasing_by all_goals (simp only [List.length_take,List.length_drop,List.length_cons];omega)
end
section
variable {α:Type} {D:α→Prop} {lt:α→α→Prop} [DecidableEq α]
def cofL:List (List (Rat × α))→α→Rat
 | [],_=>0
 | p :: l,x=>cof p x+cofL l x
theorem cofL_app (l k:List (List (Rat × α))) (x:α):cofL (l++k) x=cofL l x+cofL k x:=by
 induction l with
 | nil=>show cofL k x=0+cofL k x;rw [Rat.zero_add]
 | cons p l ih=>show _+cofL (l++k) x=(_+cofL l x)+cofL k x;rw [ih,Rat.add_assoc]
end
section
variable {α:Type} {D:α→Prop} {lt:α→α→Prop} [DecidableRel lt]
theorem Zg8 (o:KO D lt) (l:List (List (Rat × α))) (h:∀p∈l,Srt D lt p):Srt D lt (sumH lt l):=by
 fun_induction sumH lt l with
 | case1=>exact .nil
 | case2 p=>exact h p (.head _)
 | case3 p q l ih1 ih2=>exact Zc1 o (ih1 λu hu=>h u (List.mem_of_mem_take hu)) (ih2 λu hu=>h u (List.mem_of_mem_drop hu))
end
section
variable {α:Type} {D:α→Prop} {lt:α→α→Prop} [DecidableEq α] [DecidableRel lt]
theorem sumH_cof (o:KO D lt) (x:α) (l:List (List (Rat × α))) (h:∀p∈l,Srt D lt p):cof (sumH lt l) x=cofL l x:=by
 fun_induction sumH lt l with
 | case1=>rfl
 | case2 p=>show cof p x=cof p x+0;rw [Rat.add_zero]
 | case3 p q l ih1 ih2 =>
   have h1:∀u∈(p :: q :: l).take ((p :: q :: l).length/2),Srt D lt u:=λu hu=>h u (List.mem_of_mem_take hu);have h2:∀u∈(p :: q :: l).drop ((p :: q :: l).length/2),Srt D lt u:=λu hu=>h u (List.mem_of_mem_drop hu);rw [Zgf o x (Zg8 o _ h1).dom (Zg8 o _ h2).dom,ih1 h1,ih2 h2,←cofL_app,List.take_append_drop]
end
section
variable {α:Type} {D:α→Prop} {lt:α→α→Prop}
def mulH (lt:α→α→Prop) [DecidableRel lt] (m:α→α→α) (p q:List (Rat × α)):List (Rat × α):=sumH lt (p.map λt=>Zj8 m q t)
end
section
variable {α:Type} {D:α→Prop} {lt:α→α→Prop} [DecidableEq α] [DecidableRel lt]
theorem Zzv (o:KO D lt) {p q:List (Rat × α)} (hp:Srt D lt p) (hq:Srt D lt q):addP lt p q=addP lt q p :=
 Ziy o (Zc1 o hp hq) (Zc1 o hq hp) λx=>by rw [Zgf o x hp.dom hq.dom,Zgf o x hq.dom hp.dom,Rat.add_comm]
theorem Zvb (o:KO D lt) {p q r:List (Rat × α)} (hp:Srt D lt p) (hq:Srt D lt q) (hr:Srt D lt r):addP lt (addP lt p q) r=addP lt p (addP lt q r) :=
 Ziy o (Zc1 o (Zc1 o hp hq) hr) (Zc1 o hp (Zc1 o hq hr)) λx=>by
  rw [Zgf o x (Zc1 o hp hq).dom hr.dom,Zgf o x hp.dom hq.dom,Zgf o x hp.dom (Zc1 o hq hr).dom,Zgf o x hq.dom hr.dom,Rat.add_assoc]
end
section
variable {α:Type} {D:α→Prop} {lt:α→α→Prop} [DecidableRel lt]
theorem Zfe (p q:List (Rat × α)):(addP lt p q).length≤p.length+q.length:=by
 fun_induction addP lt p q<;>simp_all only [List.length_cons,List.length_nil]<;>omega
end
end Go.Pol
section
namespace Go.Pol
structure CO {α:Type} (cmp:α→α→Int):Prop where
 eqz:∀a b,cmp a b=0→a=b
 refl:∀a,cmp a a=0
 flip:∀a b,cmp a b < 0↔0 < cmp b a
 tr:∀a b c,cmp a b < 0→cmp b c < 0→cmp a c < 0
structure CP {α:Type} (cmp:α→α→Int):Prop where
 tr:∀{a b c},cmp a b≤0→cmp b c≤0→cmp a c≤0
 tot:∀a b,¬cmp a b < 0→cmp b a≤0
theorem CP.key {α β:Type} {cmp:α→α→Int} (o:CP cmp) (f:β→α):CP (λs t=>cmp (f s) (f t)):=⟨λh k=>o.tr h k,λ_ _ h=>o.tot _ _ h⟩
namespace CO
variable {α:Type} {cmp:α→α→Int}
theorem le_tr (o:CO cmp) {a b c:α} (h:cmp a b≤0) (k:cmp b c≤0):cmp a c≤0:=by
 by_cases h0:cmp a b=0
 ·rw [o.eqz a b h0];exact k
 ·by_cases k0:cmp b c=0
  ·rw [←o.eqz b c k0];exact h
  ·have:=o.tr a b c (by omega) (by omega);omega
theorem le_total (o:CO cmp) (a b:α) (h:¬cmp a b < 0):cmp b a≤0:=by
 have:=(o.flip b a);have:=(o.flip a b);omega
theorem anti (o:CO cmp) {a b:α} (h:cmp a b≤0) (k:cmp b a≤0):a=b:=by
 refine o.eqz a b ?_;have:=(o.flip b a);have:=(o.flip a b);omega
theorem cp (o:CO cmp):CP cmp:=⟨λh k=>o.le_tr h k,o.le_total⟩
theorem ko (o:CO cmp):KO (λ_=>True) (λx y=>cmp y x < 0) where
 irr x h:=by rw [o.refl] at h;omega
 tr x y z h k:=o.tr z y x k h
 tri x y _ _:=by
  by_cases h:cmp y x < 0
  ·exact .inl h
  ·by_cases h0:cmp x y < 0
   ·exact .inr (.inr h0)
   ·exact .inr (.inl (o.eqz x y (by have:=o.flip y x;omega)))
end CO
section
variable {α:Type} (cmp:α→α→Int)
def Asc (l:List α):Prop:=l.Pairwise λa b=>cmp a b≤0
def insI (P:List α) (x:α):Nat→List α
 | 0=>x :: P
 | j+1=>if cmp x (P.getD j x) < 0 then insI P x j else P.take (j+1)++x :: P.drop (j+1)
def srtN (L:List α):Nat→List α
 | 0=>[]
 | n+1=>match L[n]? with
   | some x=>insI cmp (srtN L n) x (srtN L n).length
   | none=>srtN L n
def srtQ (L:List α):List α:=srtN cmp L L.length
variable {cmp}
theorem Zkx (P:List α) (x:α):∀j,j≤P.length→(∀t (h:t < P.length),j≤t→cmp x P[t] < 0)→∃k,k≤P.length∧insI cmp P x j=P.take k++x :: P.drop k∧(∀t (h:t < P.length),k≤t→cmp x P[t] < 0)∧∀t (h:t < P.length),t+1=k→¬cmp x P[t] < 0
 | 0,_,h=>⟨0,Nat.zero_le _,by simp [insI],h,λt ht e=>by omega⟩
 | j+1,hj,h=>by
   have hg:P.getD j x=P[j]'(by omega):=by rw [List.getD_eq_getElem?_getD,List.getElem?_eq_getElem (by omega)];rfl
   unfold insI;rw [hg];split
   ·rename_i hc;refine Zkx P x j (by omega) λt ht hjt=>?_;by_cases e:t=j
    ·subst e;exact hc
    ·exact h t ht (by omega)
   ·rename_i hc
    exact⟨j+1,hj,rfl,h,λt ht e=>by have:t=j:=by omega
                                   subst this;exact hc⟩
theorem Zya (P:List α) (x:α):(insI cmp P x P.length).Perm (x :: P):=by
 obtain⟨k,_,e,_⟩:=Zkx (cmp:=cmp) P x P.length (Nat.le_refl _) (λt h1 h2=>by omega);rw [e];refine(List.perm_middle).trans ?_;rw [List.take_append_drop]
theorem insI_asc (o:CP cmp) {P:List α} (hP:Asc cmp P) (x:α):Asc cmp (insI cmp P x P.length):=by
 obtain⟨k,hk,e,h1,h2⟩:=Zkx (cmp:=cmp) P x P.length (Nat.le_refl _) (λt h1 h2=>by omega);rw [e];unfold Asc at *;have hle:∀a∈P.take k,cmp a x≤0:=λa ha=>by
  obtain⟨t,ht,rfl⟩:=List.mem_iff_getElem.1 ha;rw [List.length_take] at ht;rw [List.getElem_take];have hn:=h2 (k - 1) (by omega) (by omega);have hlast:=o.tot _ _ hn;by_cases et:t=k - 1
  ·subst et;exact hlast
  ·exact o.tr (List.pairwise_iff_getElem.1 hP t (k - 1) (by omega) (by omega) (by omega)) hlast
 have hge:∀b∈P.drop k,cmp x b≤0:=λb hb=>by
  obtain⟨t,ht,rfl⟩:=List.mem_iff_getElem.1 hb;rw [List.length_drop] at ht;rw [List.getElem_drop];have:=h1 (k+t) (by omega) (by omega);omega
 refine List.pairwise_append.2 ⟨hP.sublist (List.take_sublist _ _),List.pairwise_cons.2 ⟨hge,hP.sublist (List.drop_sublist _ _)⟩,λa ha b hb=>?_⟩;rcases List.mem_cons.1 hb with rfl | hb
 ·exact hle a ha
 ·exact o.tr (hle a ha) (hge b hb)
theorem Zn6 (L:List α):∀n,n≤L.length→(srtN cmp L n).Perm (L.take n)
 | 0,_=>by simp [srtN]
 | n+1,h=>by
   have hn:L[n]?=some (L[n]'(by omega)):=List.getElem?_eq_getElem (by omega);unfold srtN;rw [hn];simp only;rw [List.take_add_one,hn];refine(Zya _ _).trans ?_;refine(List.Perm.cons _ (Zn6 L n (by omega))).trans ?_;simp only [Option.toList_some];exact(List.perm_append_singleton _ _).symm
theorem Zmj (o:CP cmp) (L:List α):∀n,Asc cmp (srtN cmp L n)
 | 0=>.nil
 | n+1=>by
   unfold srtN;split
   ·exact insI_asc o (Zmj o L n) _
   ·exact Zmj o L n
theorem Za2 (L:List α):(srtQ cmp L).Perm L:=by
 have:=Zn6 (cmp:=cmp) L L.length (Nat.le_refl _)
 rwa [List.take_length] at this
theorem Zbz (o:CP cmp) (L:List α):Asc cmp (srtQ cmp L):=Zmj o L _
theorem srtQ_len (L:List α):(srtQ cmp L).length=L.length:=(Za2 L).length_eq
theorem Zfo (o:CO cmp):∀{l m:List α},Asc cmp l→Asc cmp m→l.Perm m→l=m
 | [],m,_,_,p=>(List.nil_perm.1 p).symm
 | a :: l,[],_,_,p=>by have:=p.length_eq;simp at this
 | a :: l,b :: m,hl,hm,p=>by
   have hl':=List.pairwise_cons.1 hl;have hm':=List.pairwise_cons.1 hm
   have hab:a=b:=by
    have h1:a∈b :: m:=p.mem_iff.1 (.head _);have h2:b∈a :: l:=p.mem_iff.2 (.head _);rcases List.mem_cons.1 h1 with h | h1
    ·exact h
    ·rcases List.mem_cons.1 h2 with h | h2
     ·exact h.symm
     ·exact o.anti (hl'.1 b h2) (hm'.1 a h1)
   subst hab;rw [Zfo o hl'.2 hm'.2 (List.Perm.cons_inv p)]
def putQ (cmp:α→α→Int):List α→α→List α
 | [],q=>[q]
 | a :: l,q=>if cmp a q≤0 then a :: putQ cmp l q else q :: a :: l
theorem Zfr (q:α):∀l:List α,(putQ cmp l q).Perm (q :: l)
 | []=>.refl _
 | a :: l=>by
   unfold putQ;split
   ·exact((Zfr q l).cons a).trans (.swap ..)
   ·exact .refl _
theorem Zju (o:CP cmp) (q:α):∀{l:List α},Asc cmp l→Asc cmp (putQ cmp l q)
 | [],_=>List.pairwise_singleton ..
 | a :: l,h=>by
   have h':=List.pairwise_cons.1 h;unfold putQ;split
   ·rename_i hc;refine List.pairwise_cons.2 ⟨λb hb=>?_,Zju o q h'.2⟩;rcases List.mem_cons.1 ((Zfr q l).mem_iff.1 hb) with rfl | hb
    ·exact hc
    ·exact h'.1 b hb
   ·rename_i hc;have hqa:cmp q a≤0:=o.tot a q (by omega);refine List.pairwise_cons.2 ⟨λb hb=>?_,h⟩;rcases List.mem_cons.1 hb with rfl | hb
    ·exact hqa
    ·exact o.tr hqa (h'.1 b hb)
theorem Zfl (L:List α):∀acc:List α,(L.foldl (putQ cmp) acc).Perm (L++acc):=by
 induction L with
 | nil=>intro acc;exact .refl _
 | cons a L ih =>
   intro acc;show(L.foldl (putQ cmp) (putQ cmp acc a)).Perm (a :: (L++acc));refine(ih _).trans (((Zfr a acc).append_left L).trans ?_);exact List.perm_middle
theorem Zng (o:CP cmp) (L:List α):∀acc:List α,Asc cmp acc→Asc cmp (L.foldl (putQ cmp) acc):=by
 induction L with
 | nil=>intro acc h;exact h
 | cons a L ih=>intro acc h;exact ih _ (Zju o a h)
theorem Zpd (o:CO cmp) (L:List α):L.foldl (putQ cmp) []=srtQ cmp L :=
 Zfo o (Zng o.cp L [] .nil) (Zbz o.cp L) (by
  have:=Zfl (cmp:=cmp) L [];rw [List.append_nil] at this;exact this.trans (Za2 L).symm)
end
section
variable {α:Type} (cmp:α→α→Int)
def lexL:List α→List α→Int
 | [],[]=>0
 | [],_ :: _=>-1
 | _ :: _,[]=>1
 | a :: l,b :: m=>if cmp a b=0 then lexL l m else cmp a b
def ordL (l m:List α):Int:=if l.length < m.length then -1 else if m.length < l.length then 1 else lexL cmp l m
variable {cmp}
theorem Zb1 (a b:α) (l m:List α):lexL cmp (a :: l) (b :: m)=if cmp a b=0 then lexL cmp l m else cmp a b:=rfl
theorem Zm6 (o:CO cmp):CO (lexL cmp) where
 eqz:=by
  intro l
  induction l with
  | nil=>intro m h;cases m with
    | nil=>rfl
    | cons b m=>exact absurd h (by simp [lexL])
  | cons a l ih=>intro m h;cases m with
    | nil=>exact absurd h (by simp [lexL])
    | cons b m =>
      unfold lexL at h;split at h
      ·rename_i h0;rw [o.eqz a b h0,ih m h]
      ·contradiction
 refl:=by
  intro l
  induction l with
  | nil=>rfl
  | cons a l ih=>unfold lexL;rw [if_pos (o.refl a)];exact ih
 flip:=by
  intro l
  induction l with
  | nil=>intro m;cases m<;>simp [lexL]
  | cons a l ih=>intro m;cases m with
    | nil=>simp [lexL]
    | cons b m =>
      have h1:=o.flip a b;have h2:=o.flip b a;unfold lexL;by_cases h:cmp a b=0
      ·rw [if_pos h,if_pos (by rw [o.eqz a b h];exact o.refl b)];exact ih m
      ·rw [if_neg h,if_neg (by omega)];exact h1
 tr:=by
  intro l
  induction l with
  | nil=>intro m n h k;cases n with
    | nil=>cases m with
      | nil=>exact h
      | cons b m=>simp [lexL] at k
    | cons c n=>simp [lexL]
  | cons a l ih=>intro m n h k;cases m with
    | nil=>simp [lexL] at h
    | cons b m=>cases n with
      | nil=>simp [lexL] at k
      | cons c n =>
        rw [Zb1] at *;by_cases hab:cmp a b=0
        ·rw [if_pos hab] at h;by_cases hbc:cmp b c=0
         ·rw [if_pos hbc] at k;rw [if_pos (by rw [o.eqz a b hab,hbc])];exact ih m n h k
         ·rw [if_neg hbc] at k;rw [o.eqz a b hab,if_neg hbc];exact k
        ·rw [if_neg hab] at h;by_cases hbc:cmp b c=0
         ·rw [←o.eqz b c hbc,if_neg hab];exact h
         ·rw [if_neg hbc] at k;have:=o.tr a b c h k;rw [if_neg (by omega)];exact this
theorem ordL_co (o:CO cmp):CO (ordL cmp) where
 eqz l m h:=by
  unfold ordL at h;split at h
  ·omega
  ·split at h
   ·omega
   ·exact(Zm6 o).eqz l m h
 refl l:=by unfold ordL;rw [if_neg (by omega),if_neg (by omega)];exact(Zm6 o).refl l
 flip l m:=by
  have:=(Zm6 o).flip l m;unfold ordL;by_cases h1:l.length < m.length
  ·rw [if_pos h1,if_neg (by omega),if_pos h1];omega
  ·by_cases h2:m.length < l.length
   ·rw [if_neg h1,if_pos h2,if_pos h2];omega
   ·rw [if_neg h1,if_neg h2,if_neg h2,if_neg h1];exact this
 tr l m n h k:=by
  have:=(Zm6 o).tr l m n;unfold ordL at *;by_cases h1:l.length < m.length
  ·by_cases k1:m.length < n.length
   ·rw [if_pos (by omega)];omega
   ·by_cases k2:n.length < m.length
    ·rw [if_neg k1,if_pos k2] at k;omega
    ·rw [if_pos (by omega)];omega
  ·by_cases h2:m.length < l.length
   ·rw [if_neg h1,if_pos h2] at h;omega
   ·by_cases k1:m.length < n.length
    ·rw [if_pos (by omega)];omega
    ·by_cases k2:n.length < m.length
     ·rw [if_neg k1,if_pos k2] at k;omega
     ·rw [if_neg h1,if_neg h2] at h;rw [if_neg k1,if_neg k2] at k;rw [if_neg (by omega),if_neg (by omega)];exact this h k
end
section
variable {κ:Type} [DecidableEq κ]
def addC:List (Rat × κ)→Rat × κ→List (Rat × κ)
 | [],t=>[t]
 | s :: l,t=>if s.2=t.2 then (s.1+t.1,s.2) :: l else s :: addC l t
theorem cof_addC (l:List (Rat × κ)) (t:Rat × κ) (x:κ):cof (addC l t) x=cof l x+if t.2=x then t.1 else 0:=by
 induction l with
 | nil=>show(if t.2=x then t.1 else 0)+0=0+_;rw [Rat.add_comm]
 | cons s l ih =>
   unfold addC;split
   ·rename_i h;simp only [cof];rw [h];split<;>grind
   ·simp only [cof];rw [ih];grind
theorem addC_key {l:List (Rat × κ)} {t u:Rat × κ} (h:u∈addC l t):u.2=t.2∨∃s∈l,s.2=u.2:=by
 induction l with
 | nil=>rw [List.mem_singleton.1 h];exact .inl rfl
 | cons s l ih =>
   unfold addC at h;split at h
   ·rename_i e;rcases List.mem_cons.1 h with rfl | h
    ·exact .inl e
    ·exact .inr ⟨u,.tail _ h,rfl⟩
   ·rcases List.mem_cons.1 h with rfl | h
    ·exact .inr ⟨u,.head _,rfl⟩
    ·rcases ih h with h | ⟨s',h1,h2⟩
     ·exact .inl h
     ·exact .inr ⟨s',.tail _ h1,h2⟩
def Dst (l:List (Rat × κ)):Prop:=l.Pairwise λs t=>s.2≠t.2
theorem addC_dst {l:List (Rat × κ)} (h:Dst l) (t:Rat × κ):Dst (addC l t):=by
 induction l with
 | nil=>exact List.pairwise_singleton ..
 | cons s l ih =>
   have h':=List.pairwise_cons.1 h;unfold addC;split
   ·exact List.pairwise_cons.2 ⟨λu hu=>h'.1 u hu,h'.2⟩
   ·rename_i hne;refine List.pairwise_cons.2 ⟨λu hu=>?_,ih h'.2⟩;rcases addC_key hu with e | ⟨v,hv,e⟩
    ·rw [e];exact hne
    ·rw [←e];exact h'.1 v hv
theorem Zl5 (l:List (Rat × κ)) (x:κ):cof (l.filter λt=>decide (t.1≠0)) x=cof l x:=by
 induction l with
 | nil=>rfl
 | cons t l ih =>
   rw [List.filter_cons];split
   ·simp only [cof];rw [ih]
   ·rename_i h;have h0:t.1=0:=by simpa using h
    simp only [cof];rw [ih,h0];grind
theorem cof_perm {l m:List (Rat × κ)} (h:l.Perm m) (x:κ):cof l x=cof m x:=by
 induction h with
 | nil=>rfl
 | cons a _ ih=>simp only [cof];rw [ih]
 | swap a b l=>simp only [cof];grind
 | trans _ _ ih1 ih2=>rw [ih1,ih2]
end
section
variable {κ:Type} (cmp:κ→κ→Int)
def sumG (l:List (Rat × κ)):List (Rat × κ):=sumH (λx y=>cmp y x < 0) (l.map λt=>if t.1=0 then [] else [t])
variable {cmp}
theorem Zmk (o:CO cmp):∀{l:List (Rat × κ)},Dst l→(srtQ (λs t:Rat × κ=>cmp s.2 t.2) l).Pairwise λs t=>cmp s.2 t.2 < 0:=by
 intro l hd;have hp:=Za2 (cmp:=λs t:Rat × κ=>cmp s.2 t.2) l
 have hd2:Dst (srtQ (λs t:Rat × κ=>cmp s.2 t.2) l):=by
  refine(List.Perm.pairwise_iff ?_ hp).2 hd;intro a b h e;exact h e.symm
 have ha:(srtQ (λs t:Rat × κ=>cmp s.2 t.2) l).Pairwise λs t=>cmp s.2 t.2≤0:=Zbz (o.cp.key λs:Rat × κ=>s.2) l;exact(ha.and hd2).imp λ{a b} h=>by
  obtain⟨h1,h2⟩:=h;by_cases h0:cmp a.2 b.2=0
  ·exact absurd (o.eqz _ _ h0) h2
  ·omega
theorem Zlp (l:List (Rat × κ)):∀p∈l.map (λt=>if t.1=0 then [] else [t]),Srt (λ_=>True) (λx y=>cmp y x < 0) p:=λp hp=>by
 obtain⟨t,_,rfl⟩:=List.mem_map.1 hp;split
 ·exact .nil
 ·rename_i h;exact Srt.nil.cons h trivial (λu hu=>by cases hu)
theorem Zmf (o:CO cmp) (l:List (Rat × κ)):Srt (λ_=>True) (λx y=>cmp y x < 0) (sumG cmp l):=Zg8 o.ko _ (Zlp l)
end
section
variable {κ:Type} [DecidableEq κ]
variable (cmp:κ→κ→Int)
def sumC (l:List (Rat × κ)):List (Rat × κ):=srtQ (λs t=>cmp s.2 t.2) ((l.foldl addC []).filter λt=>decide (t.1≠0))
variable {cmp}
theorem Zle (L:List (Rat × κ)) (x:κ):∀acc:List (Rat × κ),cof (L.foldl addC acc) x=cof acc x+cof L x:=by
 induction L with
 | nil=>intro acc;show cof acc x=cof acc x+0;rw [Rat.add_zero]
 | cons t L ih =>
   intro acc;show cof (L.foldl addC (addC acc t)) x=cof acc x+((if t.2=x then t.1 else 0)+cof L x);rw [ih,cof_addC,Rat.add_assoc]
theorem Zfm (L:List (Rat × κ)):∀acc:List (Rat × κ),Dst acc→Dst (L.foldl addC acc):=by
 induction L with
 | nil=>intro acc h;exact h
 | cons t L ih=>intro acc h;exact ih _ (addC_dst h t)
theorem sumC_srt (o:CO cmp) (l:List (Rat × κ)):Srt (λ_=>True) (λx y=>cmp y x < 0) (sumC cmp l):=by
 have hd:Dst ((l.foldl addC []).filter λt=>decide (t.1≠0)):=List.Pairwise.sublist (List.filter_sublist ..) (Zfm l [] .nil);refine⟨λt ht=>⟨?_,trivial⟩,Zmk o hd⟩;have:=((Za2 _).mem_iff.1 ht);have:=(List.mem_filter.1 this).2;exact of_decide_eq_true this
theorem sumC_cof (l:List (Rat × κ)) (x:κ):cof (sumC cmp l) x=cof l x:=by
 unfold sumC;rw [cof_perm (Za2 _),Zl5,Zle];show 0+_=_;rw [Rat.zero_add]
theorem Zmg (o:CO cmp) (l:List (Rat × κ)) (x:κ):cof (sumG cmp l) x=cof l x:=by
 unfold sumG;rw [sumH_cof o.ko x _ (Zlp l)]
 induction l with
 | nil=>rfl
 | cons t l ih =>
   show cof _ x+cofL (l.map _) x=(if t.2=x then t.1 else 0)+cof l x;rw [ih];congr 1;show cof (if t.1=0 then [] else [t]) x=_;by_cases h:t.1=0
   ·rw [if_pos h,h];show(0:Rat)=_;split<;>rfl
   ·rw [if_neg h];show _+(0:Rat)=_;rw [Rat.add_zero]
theorem Zmh (o:CO cmp) (l:List (Rat × κ)):sumC cmp l=sumG cmp l:=Ziy o.ko (sumC_srt o l) (Zmf o l) λx=>by rw [sumC_cof,Zmg o]
end
end Go.Pol
end
namespace Go.Proofs.YtpkcophcldjboaaGreatDoor
open Go Go.RowKit Go.Pg Go.Proofs.Tryz
attribute [-bool_to_prop] Bool.and_eq_decide Bool.or_eq_decide Bool.decide_beq_decide decide_eq_decide
theorem Zal:Zhs prog 39=some 32:=by kernel_rfl
theorem Za7:szOf prog 55=some 1:=by kernel_rfl
theorem zSlQ:Zau prog 55=some (.slice none 0 0):=by kernel_rfl
theorem Zlm:szOf prog 95=some 1:=by kernel_rfl
theorem Ztx:Zau prog 95=some (.slice none 0 0):=by kernel_rfl
theorem szQT:szOf prog 57=some 4:=by kernel_rfl
theorem byQT:Zhs prog 57=some 80:=by kernel_rfl
theorem zQT:Zau prog 57=some (.agg #[.bool false,.slice none 0 0,.slice none 0 0,.slice none 0 0]):=by kernel_rfl
theorem Za9:szOf prog 26=some 1:=by kernel_rfl
theorem zSlT:Zau prog 26=some (.slice none 0 0):=by kernel_rfl
theorem szQP:szOf prog 27=some 1:=by kernel_rfl
theorem zQP:Zau prog 27=some (.slice none 0 0):=by kernel_rfl
theorem Zn4:szOf prog 167=some 2:=by kernel_rfl
theorem Zjc:szOf prog 123=some 1:=by kernel_rfl
theorem Zny:Zau prog 123=some (.pointer none):=by kernel_rfl
theorem Zn5:szOf prog 165=some 1:=by kernel_rfl
end Go.Proofs.YtpkcophcldjboaaGreatDoor
namespace Go.Proofs.YtpkcophcldjboaaGreatDoor
open Go Go.RowKit Go.Pg Go.Pol Go.Proofs.Tryz
attribute [-bool_to_prop] Bool.and_eq_decide Bool.or_eq_decide Bool.decide_beq_decide decide_eq_decide
attribute [local go_sem] underlying3 underlying4 underlying5 underlying9 underlying95 underlying39 underlying55 sz3 by3 z3 szB zB Zbh Zcm zStr Zah Zan Zai Bool.and_self Zal szU8 byU8 zU8 Zlm Ztx Za7 zSlQ
abbrev qsA (l:List Qt):AV:=.sl 4 (l.map Qt.av)
def LTq (p q:Qt):Prop:=p.k < q.k∨(p.k=q.k∧(p.a < q.a∨(p.a=q.a∧(p.b < q.b∨(p.b=q.b∧p.c < q.c)))))
theorem Zhe (x y:Int):(ordI x y=-1∧x < y)∨(ordI x y=0∧x=y)∨(ordI x y=1∧y < x):=by
 unfold ordI;split
 ·exact .inl ⟨rfl,by omega⟩
 ·split
  ·exact .inr (.inr ⟨rfl,by omega⟩)
  ·exact .inr (.inl ⟨rfl,by omega⟩)
theorem Zg2 (p q:Qt):(Qt.cmp p q=-1∧LTq p q)∨(Qt.cmp p q=0∧p=q)∨(Qt.cmp p q=1∧LTq q p):=by
 obtain⟨k,a,b,c⟩:=p;obtain⟨k',a',b',c'⟩:=q;unfold Qt.cmp or4 LTq;simp only;rcases Zhe k k' with⟨h,g⟩ | ⟨h,g⟩ | ⟨h,g⟩
 ·rw [h];exact .inl ⟨rfl,by omega⟩
 ·rw [h];rcases Zhe a a' with⟨i,f⟩ | ⟨i,f⟩ | ⟨i,f⟩
  ·rw [i];exact .inl ⟨rfl,by omega⟩
  ·rw [i];rcases Zhe b b' with⟨j,e⟩ | ⟨j,e⟩ | ⟨j,e⟩
   ·rw [j];exact .inl ⟨rfl,by omega⟩
   ·rw [j];rcases Zhe c c' with⟨m,d⟩ | ⟨m,d⟩ | ⟨m,d⟩
    ·rw [m];exact .inl ⟨rfl,by omega⟩
    ·rw [m];exact .inr (.inl ⟨rfl,by rw [g,f,e,d]⟩)
    ·rw [m];exact .inr (.inr ⟨rfl,by omega⟩)
   ·rw [j];exact .inr (.inr ⟨rfl,by omega⟩)
  ·rw [i];exact .inr (.inr ⟨rfl,by omega⟩)
 ·rw [h];exact .inr (.inr ⟨rfl,by omega⟩)
theorem LTq.asymm {p q:Qt} (h:LTq p q) (k:LTq q p):False:=by unfold LTq at *;omega
theorem LTq.irr {p:Qt} (h:LTq p p):False:=h.asymm h
theorem cmp_lt (p q:Qt):Qt.cmp p q < 0↔LTq p q:=by
 rcases Zg2 p q with⟨h,g⟩ | ⟨h,g⟩ | ⟨h,g⟩
 ·rw [h];exact⟨λ_=>g,λ_=>by omega⟩
 ·rw [h];exact⟨λe=>by omega,λe=>by rw [g] at e;exact e.irr.elim⟩
 ·rw [h];exact⟨λe=>by omega,λe=>(g.asymm e).elim⟩
theorem cmp_gt (p q:Qt):0 < Qt.cmp p q↔LTq q p:=by
 rcases Zg2 p q with⟨h,g⟩ | ⟨h,g⟩ | ⟨h,g⟩
 ·rw [h];exact⟨λe=>by omega,λe=>(g.asymm e).elim⟩
 ·rw [h];exact⟨λe=>by omega,λe=>by rw [g] at e;exact e.irr.elim⟩
 ·rw [h];exact⟨λ_=>g,λ_=>by omega⟩
theorem qtO:CO Qt.cmp where
 eqz p q h:=by
  rcases Zg2 p q with⟨e,_⟩ | ⟨_,g⟩ | ⟨e,_⟩
  ·omega
  ·exact g
  ·omega
 refl p:=by
  rcases Zg2 p p with⟨_,g⟩ | ⟨e,_⟩ | ⟨_,g⟩
  ·exact g.irr.elim
  ·exact e
  ·exact g.irr.elim
 flip p q:=by rw [cmp_lt,cmp_gt]
 tr p q r h k:=by rw [cmp_lt] at *;unfold LTq at *;omega
abbrev ordQ:List Qt→List Qt→Int:=ordL Qt.cmp
theorem Zbk:CO ordQ:=ordL_co qtO
abbrev w8 (n:Int):Int:=IntKind.u8.wrap n
def keyN (l:List Qt):List Int:=l.flatMap λq=>[w8 q.k,w8 q.a,w8 q.b,w8 q.c]
def keyS (l:List Qt):ByteArray:=Zgk (keyN l)
abbrev u8A (n:Int):AV:=.v (.int .u8 n)
theorem Zvi (l:List Int):Zmc (l.map u8A)=some l:=by
 induction l with
 | nil=>rfl
 | cons a l ih=>show(Zmc (l.map u8A)).map (a :: ·)=_;rw [ih];rfl
theorem Zx6 (l:List Qt) (q:Qt):keyN (l++[q])=keyN l++[w8 q.k,w8 q.a,w8 q.b,w8 q.c]:=by unfold keyN;rw [List.flatMap_append];simp
theorem Zin (l:List Qt):(keyN l).length=4*l.length:=by
 induction l with
 | nil=>rfl
 | cons a l ih =>
   show([_,_,_,_]++keyN l).length=_;rw [List.length_append,ih];simp only [List.length_cons,List.length_nil];omega
theorem Zp2 (ns:List Int):(Zgk ns).data.toList=ns.map λn=>UInt8.ofNat n.toNat:=by
 have key:∀(ns:List Int) (acc:ByteArray),(ns.foldl (λr n=>r.push (UInt8.ofNat n.toNat)) acc).data.toList=acc.data.toList++ns.map λn=>UInt8.ofNat n.toNat:=by
  intro ns
  induction ns with
  | nil=>intro acc;simp
  | cons n ns ih=>intro acc;rw [List.foldl_cons,ih];simp [ByteArray.push]
 unfold Zgk;rw [key];rfl
theorem Znz {n:Int} (h0:0≤n) (h1:n < 256):w8 n=n:=by unfold w8 IntKind.wrap;simp [IntKind.signed,IntKind.bits];omega
def Qt.b8 (q:Qt):Prop:=(0≤q.k∧q.k < 256)∧(0≤q.a∧q.a < 256)∧(0≤q.b∧q.b < 256)∧0≤q.c∧q.c < 256
theorem ok_b8 {q:Qt} (h:q.ok=true):q.b8:=by
 unfold Qt.ok at h;have h:=of_decide_eq_true h;unfold Qt.b8;omega
theorem Zs3:∀{l m:List Qt},(∀q∈l,q.b8)→(∀q∈m,q.b8)→keyN l=keyN m→l=m
 | [],[],_,_,_=>rfl
 | [],b :: m,_,_,h=>by have:=congrArg List.length h;rw [Zin,Zin] at this;simp at this
 | a :: l,[],_,_,h=>by have:=congrArg List.length h;rw [Zin,Zin] at this;simp at this
 | a :: l,b :: m,hl,hm,h=>by
   have h:w8 a.k :: w8 a.a :: w8 a.b :: w8 a.c :: keyN l=w8 b.k :: w8 b.a :: w8 b.b :: w8 b.c :: keyN m:=h;simp only [List.cons.injEq] at h;obtain⟨h1,h2,h3,h4,h5⟩:=h;obtain⟨⟨a1,a2⟩,⟨a3,a4⟩,⟨a5,a6⟩,a7,a8⟩:=hl a (.head _);obtain⟨⟨b1,b2⟩,⟨b3,b4⟩,⟨b5,b6⟩,b7,b8⟩:=hm b (.head _);rw [Znz a1 a2,Znz b1 b2] at h1;rw [Znz a3 a4,Znz b3 b4] at h2;rw [Znz a5 a6,Znz b5 b6] at h3;rw [Znz a7 a8,Znz b7 b8] at h4;rw [Zs3 (λq hq=>hl q (.tail _ hq)) (λq hq=>hm q (.tail _ hq)) h5];congr 1;obtain⟨_,_,_,_⟩:=a;obtain⟨_,_,_,_⟩:=b;simp only at h1 h2 h3 h4;rw [h1,h2,h3,h4]
theorem keyN_b (l:List Qt):∀n∈keyN l,0≤n∧n < 256:=by
 have hw:∀n,0≤w8 n∧w8 n < 256:=λn=>by unfold w8 IntKind.wrap;simp [IntKind.signed,IntKind.bits];omega
 intro n hn;unfold keyN at hn;simp only [List.mem_flatMap,List.mem_cons,List.not_mem_nil,or_false] at hn;obtain⟨q,_,h | h | h | h⟩:=hn<;>(rw [h];exact hw _)
theorem Zpn:∀{a b:List Int},(∀n∈a,0≤n∧n < 256)→(∀n∈b,0≤n∧n < 256)→(a.map λn:Int=>UInt8.ofNat n.toNat)=(b.map λn:Int=>UInt8.ofNat n.toNat)→a=b
 | [],[],_,_,_=>rfl
 | [],_ :: _,_,_,h=>by simp at h
 | _ :: _,[],_,_,h=>by simp at h
 | x :: a,y :: b,ha,hb,h=>by
   simp only [List.map_cons,List.cons.injEq] at h;obtain⟨h1,h2⟩:=h;obtain⟨x0,x1⟩:=ha x (.head _);obtain⟨y0,y1⟩:=hb y (.head _);have e:=congrArg UInt8.toNat h1;simp only [UInt8.toNat_ofNat'] at e;have:x=y:=by omega
   rw [this,Zpn (λn hn=>ha n (.tail _ hn)) (λn hn=>hb n (.tail _ hn)) h2]
theorem Zs2 {l m:List Qt} (hl:∀q∈l,q.b8) (hm:∀q∈m,q.b8) (h:keyS l=keyS m):l=m:=by
 refine Zs3 hl hm (Zpn (keyN_b l) (keyN_b m) ?_);have:=congrArg (λs:ByteArray=>s.data.toList) h;simp only [keyS,Zp2] at this;exact this
theorem qt_at {l:List Qt} {j:Nat} (h:j < l.length):(l.map Qt.av).getD j .u=Qt.av (l.getD j Qt.zero):=Zyg h
theorem exKey (l:List Qt) (hl:l.length≤1000):Pure prog 148 [qsA l] (strA (keyS l)):=by
 have hlm:(l.map Qt.av).length=l.length:=List.length_map ..;have hg:∀j,j < l.length→(l.map Qt.av).getD j .u=Qt.av (l.getD j Qt.zero):=λj h=>qt_at h;have hz:(4*(l.length:Int)).toNat=4*l.length:=by omega
 show Pure _ _ [.sl 4 (l.map Qt.av)] _;generalize l.map Qt.av=M at *;refine Zaa (tok:=0) func148 rfl ntmps148 results148 call148 (by rfl) (by simp) ?_;(focus (refine wkap (w_2 hlm hz) w_t (w_r 0) ?_;(repeat' first|exact w_t|apply w_l);all_goals intros));refine Zae (ι:=Nat) (λi e m=>i≤l.length∧(∃sv,e 3=.own 9 sv∧m 9=some (.row sv 5 1 ((keyN (l.take i)).map u8A) 0))∧e 10=.sl 4 M∧e 11=iv l.length∧e 12=iv i) (λi=>l.length - i) 0 (by rfl) ?_ ?_
 ·rintro i e m ⟨hi,⟨sv,e3,m9⟩,e10,e11,e12⟩
  by_cases hlt:i < l.length
  ·have hgi:=hg i hlt
   have hs:keyN (l.take (i+1))=keyN (l.take i)++[w8 (l.getD i Qt.zero).k,w8 (l.getD i Qt.zero).a,w8 (l.getD i Qt.zero).b,w8 (l.getD i Qt.zero).c]:=by
    rw [List.take_add_one,List.getElem?_eq_getElem hlt,List.getD_eq_getElem?_getD,List.getElem?_eq_getElem hlt];exact Zx6 _ _
   have hkl:((keyN (l.take i)).map u8A).length=4*i:=by rw [List.length_map,Zin,List.length_take];omega
   have hma:(keyN (l.take (i+1))).map u8A=(keyN (l.take i)).map u8A++[u8A (w8 (l.getD i Qt.zero).k),u8A (w8 (l.getD i Qt.zero).a),u8A (w8 (l.getD i Qt.zero).b),u8A (w8 (l.getD i Qt.zero).c)]:=by rw [hs,List.map_append];rfl
   clear hg hs;generalize (keyN (l.take i)).map u8A=K at *;generalize l.getD i Qt.zero=q at *;obtain⟨k,a,b,c⟩:=q;simp only at *;(focus (refine wkap (w_8 e3 m9 e10 e11 e12 hlm hgi hkl) w_t (w_r 0) ?_;(repeat' first|exact w_t|apply w_l);all_goals intros));exact⟨i+1,⟨by omega,⟨_,by exact gC,by rw [hma];exact gC⟩,by exact gW e10,by exact gW e11,by exact gS⟩,by omega⟩
  ·have hil:i=l.length:=by omega
   subst hil;have hu:Zmc ((keyN l).map u8A)=some (keyN l):=Zvi _;rw [List.take_length] at m9;unfold keyS;generalize (keyN l).map u8A=K at *;(focus (refine wkap (w_6 e3 m9 e10 e11 e12 hu) w_t (w_r 0) ?_;(repeat' first|exact w_t|apply w_l);all_goals intros));all_goals exact gL
 ·exact⟨Nat.zero_le _,⟨_,by exact gC,by exact gC⟩,by exact gC,by exact gW hlm,by exact gC⟩
attribute [local go_sem] underlying149 underlying57 underlying26 underlying27 szQT byQT zQT Za9 zSlT szQP zQP
theorem Zxy {α:Type} {cmp:α→α→Int} {l m:List α} {i:Nat} (hl:i < l.length) (hm:i < m.length):lexL cmp (l.drop i) (m.drop i)=if cmp l[i] m[i]=0 then lexL cmp (l.drop (i+1)) (m.drop (i+1)) else cmp l[i] m[i]:=by
 rw [List.drop_eq_getElem_cons hl,List.drop_eq_getElem_cons hm,Zb1]
abbrev ordT (s t:Rat × List Qt):Int:=ordQ s.2 t.2
abbrev qtA (t:Rat × List Qt):AV:=.agg [.v (.bool (decide (t.1.num < 0))),lim (toL t.1.num.natAbs),lim (toL t.1.den),qsA t.2]
theorem slCmpQ (l m:List Qt) (hl:l.length≤1000000) (he:l.length=m.length):Pure prog 100 [qsA l,qsA m,.fn 43 []] (iv (lexL Qt.cmp l m)):=by
 have hlm:(l.map Qt.av).length=l.length:=List.length_map ..;have hmm:(m.map Qt.av).length=l.length:=by rw [List.length_map];omega
 have hgl:∀j (h:j < l.length),(l.map Qt.av).getD j .u=Qt.av l[j]:=λj h=>Zat Qt.av h;have hgm:∀j (h:j < m.length),(m.map Qt.av).getD j .u=Qt.av m[j]:=λj h=>Zat Qt.av h;show Pure _ _ [.sl 4 (l.map Qt.av),.sl 4 (m.map Qt.av),.fn 43 []] _;generalize l.map Qt.av=A at *;generalize m.map Qt.av=B at *;refine Zaa (tok:=0) func100 rfl ntmps100 results100 call100 (by rfl) (by simp) ?_;(focus (refine wkap (w_2 hlm hmm) w_t (w_r 0) ?_;(repeat' first|exact w_t|apply w_l);all_goals intros));refine Zae (ι:=Nat) (λi e _=>i≤l.length∧lexL Qt.cmp l m=lexL Qt.cmp (l.drop i) (m.drop i)∧e 0=.sl 4 A∧e 1=.sl 4 B∧e 2=.fn 43 []∧e 11=.sl 4 A∧e 12=iv l.length∧e 13=iv i) (λi=>l.length - i) 0 (by rfl) ?_ ?_
 ·rintro i e m' ⟨hi,hx,e0,e1,e2,e11,e12,e13⟩
  by_cases hlt:i < l.length
  ·have g1:=hgl i hlt;have g2:=hgm i (by omega);have hs:=Zxy (cmp:=Qt.cmp) hlt (show i < m.length by omega);have cc:=quCmp l[i].k l[i].a l[i].b l[i].c (m[i]'(by omega)).k (m[i]'(by omega)).a (m[i]'(by omega)).b (m[i]'(by omega)).c;rw [hx,hs];clear hgl hgm;by_cases hz:Qt.cmp l[i] (m[i]'(by omega))=0
   ·rw [if_pos hz];have hx2:lexL Qt.cmp l m=lexL Qt.cmp (l.drop (i+1)) (m.drop (i+1)):=by rw [hx,hs,if_pos hz]
    clear hx hs;rw [←hx2];generalize l[i]=x at *;generalize m[i]'(by omega)=y at *;obtain⟨x1,x2,x3,x4⟩:=x;obtain⟨y1,y2,y3,y4⟩:=y;simp only at *;rw [hz] at cc;(focus (refine wkap (w_10 e0 e1 e2 e11 e12 e13 hlm hmm g1 g2) (w_1 cc) (w_r 0) ?_;(repeat' first|exact w_t|apply w_l);all_goals intros));exact⟨i+1,⟨by omega,hx2,by exact gW e0,by exact gW e1,by exact gW e2,by exact gW e11,by exact gW e12,by exact gS⟩,by omega⟩
   ·rw [if_neg hz];clear hx hs;generalize l[i]=x at *;generalize m[i]'(by omega)=y at *;obtain⟨x1,x2,x3,x4⟩:=x;obtain⟨y1,y2,y3,y4⟩:=y;simp only at *;generalize Qt.cmp _ _=z at *;(focus (refine wkap (w_10 e0 e1 e2 e11 e12 e13 hlm hmm g1 g2) (w_1 cc) (w_r 0) ?_;(repeat' first|exact w_t|apply w_l);all_goals intros));all_goals exact gL
  ·have hil:i=l.length:=by omega
   subst hil;rw [hx,List.drop_of_length_le (Nat.le_refl _),List.drop_of_length_le (by omega)];show _;clear hgl hgm hx;(focus (refine wkap (w_8 e0 e1 e2 e11 e12 e13 hlm hmm) w_t (w_r 0) ?_;(repeat' first|exact w_t|apply w_l);all_goals intros));all_goals (all_goals (try simp (disch:=omega) only [go_sem,lexL,decide_eq_true,decide_eq_false,if_pos,if_neg,Int.reduceAdd,Int.reduceSub,Int.reduceToNat,Int.zero_add]));(all_goals first|done|rfl|(congr 2;first|done|omega|(rw [Bool.eq_iff_iff];simp only [bool_to_prop,Bool.false_eq_true,iff_true,true_iff,iff_false,false_iff];omega))|skip)
 ·exact⟨Nat.zero_le _,rfl,by exact gC,by exact gC,by exact gC,by exact gC,by exact gW hlm,by exact gC⟩
theorem Zys (l m:List Qt) (hl:l.length≤1000000) (hm:m.length≤1000000):Pure prog 44 [qsA l,qsA m] (iv (ordQ l m)):=by
 have hlm:(l.map Qt.av).length=l.length:=List.length_map ..;have hmm:(m.map Qt.av).length=m.length:=List.length_map ..;unfold ordQ ordL;by_cases h1:l.length < m.length
 ·rw [if_pos h1];show Pure _ _ [.sl 4 (l.map Qt.av),.sl 4 (m.map Qt.av)] _;generalize l.map Qt.av=A at *;generalize m.map Qt.av=B at *;refine Zaa (tok:=0) func44 rfl ntmps44 results44 call44 (by rfl) (by simp) ?_;(focus (refine wkap (w_2 hlm hmm) w_t (w_r 0) ?_;(repeat' first|exact w_t|apply w_l);all_goals intros));all_goals exact gL
 ·by_cases h2:m.length < l.length
  ·rw [if_neg h1,if_pos h2];show Pure _ _ [.sl 4 (l.map Qt.av),.sl 4 (m.map Qt.av)] _;generalize l.map Qt.av=A at *;generalize m.map Qt.av=B at *;refine Zaa (tok:=0) func44 rfl ntmps44 results44 call44 (by rfl) (by simp) ?_;(focus (refine wkap (w_2 hlm hmm) w_t (w_r 0) ?_;(repeat' first|exact w_t|apply w_l);all_goals intros));all_goals exact gL
  ·rw [if_neg h1,if_neg h2];have cc:=slCmpQ l m hl (by omega);show Pure _ _ [.sl 4 (l.map Qt.av),.sl 4 (m.map Qt.av)] _;generalize lexL Qt.cmp l m=z at *;have cc:Pure prog 100 [.sl 4 (l.map Qt.av),.sl 4 (m.map Qt.av),.fn 43 []] (iv z):=cc;generalize l.map Qt.av=A at *;generalize m.map Qt.av=B at *;refine Zaa (tok:=0) func44 rfl ntmps44 results44 call44 (by rfl) (by simp) ?_;(focus (refine wkap (w_2 hlm hmm) (w_1 cc) (w_r 0) ?_;(repeat' first|exact w_t|apply w_l);all_goals intros));all_goals exact gL
theorem exCmpT (s t:Rat × List Qt) (hl:s.2.length≤1000000) (hm:t.2.length≤1000000):Pure prog 154 [qtA s,qtA t] (iv (ordT s t)):=by
 have cc:=Zys s.2 t.2 hl hm;obtain⟨a,l⟩:=s;obtain⟨b,m⟩:=t;simp only at *;show Pure _ _ [.agg [.v (.bool (decide (a.num < 0))),lim (toL a.num.natAbs),lim (toL a.den),.sl 4 (l.map Qt.av)],.agg [.v (.bool (decide (b.num < 0))),lim (toL b.num.natAbs),lim (toL b.den),.sl 4 (m.map Qt.av)]] (iv (ordQ l m));have cc:Pure prog 44 [.sl 4 (l.map Qt.av),.sl 4 (m.map Qt.av)] (iv (ordQ l m)):=cc;generalize ordQ l m=z at *;generalize l.map Qt.av=A at *;generalize m.map Qt.av=B at *;generalize toL a.num.natAbs=a1 at *;generalize toL a.den=a2 at *;generalize toL b.num.natAbs=b1 at *;generalize toL b.den=b2 at *
 refine Zaa (tok:=0) func154 rfl ntmps154 results154 call154 (by rfl) (by simp) ?_;(focus (refine wkap w_t (w_1 cc) (w_r 0) ?_;(repeat' first|exact w_t|apply w_l);all_goals intros));all_goals exact gL
theorem rxOrder (l m:List Qt) (hl:l.length≤1000000) (hm:m.length≤1000000):Pure prog 73 [qsA l,qsA m] (iv (ordQ l m)):=by
 have hlm:(l.map Qt.av).length=l.length:=List.length_map ..;have hmm:(m.map Qt.av).length=m.length:=List.length_map ..;have hgl:∀j (h:j < l.length),(l.map Qt.av).getD j .u=Qt.av l[j]:=λj h=>Zat Qt.av h;have hgm:∀j (h:j < m.length),(m.map Qt.av).getD j .u=Qt.av m[j]:=λj h=>Zat Qt.av h;unfold ordQ ordL;show Pure _ _ [.sl 4 (l.map Qt.av),.sl 4 (m.map Qt.av)] _;by_cases h1:l.length < m.length
 ·rw [if_pos h1];clear hgl hgm;generalize l.map Qt.av=A at *;generalize m.map Qt.av=B at *;refine Zaa (tok:=0) func73 rfl ntmps73 results73 call73 (by rfl) (by simp) ?_;(focus (refine wkad (w_2 hlm hmm) w_t w_t ?_;(repeat' first|exact w_t|apply w_l);all_goals intros));all_goals exact gL
 ·by_cases h2:m.length < l.length
  ·rw [if_neg h1,if_pos h2];clear hgl hgm;generalize l.map Qt.av=A at *;generalize m.map Qt.av=B at *;refine Zaa (tok:=0) func73 rfl ntmps73 results73 call73 (by rfl) (by simp) ?_;(focus (refine wkad (w_2 hlm hmm) w_t w_t ?_;(repeat' first|exact w_t|apply w_l);all_goals intros));all_goals exact gL
  ·rw [if_neg h1,if_neg h2];have he:m.length=l.length:=by omega
   rw [he] at hmm;generalize l.map Qt.av=A at *;generalize m.map Qt.av=B at *;refine Zaa (tok:=0) func73 rfl ntmps73 results73 call73 (by rfl) (by simp) ?_;(focus (refine wkad (w_2 hlm hmm) w_t w_t ?_;(repeat' first|exact w_t|apply w_l);all_goals intros));refine Zae (ι:=Nat) (λi e _=>i≤l.length∧lexL Qt.cmp l m=lexL Qt.cmp (l.drop i) (m.drop i)∧e 0=.sl 4 A∧e 1=.sl 4 B∧e 5=iv i) (λi=>l.length - i) 0 (by rfl) ?_ ?_
   ·rintro i e m' ⟨hi,hx,e0,e1,e5⟩
    by_cases hlt:i < l.length
    ·have g1:=hgl i hlt;have g2:=hgm i (by omega);have hs:=Zxy (cmp:=Qt.cmp) hlt (show i < m.length by omega);have cc:=rqCmp l[i].k l[i].a l[i].b l[i].c (m[i]'(by omega)).k (m[i]'(by omega)).a (m[i]'(by omega)).b (m[i]'(by omega)).c;rw [hx,hs];clear hgl hgm;by_cases hz:Qt.cmp l[i] (m[i]'(by omega))=0
     ·rw [if_pos hz];have hx2:lexL Qt.cmp l m=lexL Qt.cmp (l.drop (i+1)) (m.drop (i+1)):=by rw [hx,hs,if_pos hz]
      clear hx hs;rw [←hx2];generalize l[i]=x at *;generalize m[i]'(by omega)=y at *;obtain⟨x1,x2,x3,x4⟩:=x;obtain⟨y1,y2,y3,y4⟩:=y;simp only at *;rw [hz] at cc;(focus (refine wkad (w_7 e0 e1 e5 hlm hmm g1 g2) (w_1 cc) (w_1 (w_d 8 [(8,iv 0)] [] [])) ?_;(repeat' first|exact w_t|apply w_l);all_goals intros));exact⟨i+1,⟨by omega,hx2,by exact gW e0,by exact gW e1,by exact gS⟩,by omega⟩
     ·rw [if_neg hz];clear hx hs;generalize l[i]=x at *;generalize m[i]'(by omega)=y at *;obtain⟨x1,x2,x3,x4⟩:=x;obtain⟨y1,y2,y3,y4⟩:=y;simp only at *;generalize Qt.cmp _ _=z at *;(focus (refine wkad (w_7 e0 e1 e5 hlm hmm g1 g2) (w_1 cc) (w_1 (w_d 8 [(8,iv z)] [] [])) ?_;(repeat' first|exact w_t|apply w_l);all_goals intros));all_goals exact gL
    ·have hil:i=l.length:=by omega
     subst hil;rw [hx,List.drop_of_length_le (Nat.le_refl _),List.drop_of_length_le (by omega)];clear hgl hgm hx;(focus (refine wkad (w_5 e0 e1 e5 hlm hmm) w_t w_t ?_;(repeat' first|exact w_t|apply w_l);all_goals intros));all_goals (all_goals (try simp (disch:=omega) only [go_sem,lexL,decide_eq_true,decide_eq_false,if_pos,if_neg,Int.reduceAdd,Int.reduceSub,Int.reduceToNat,Int.zero_add]));(all_goals first|done|rfl|(congr 2;first|done|omega|(rw [Bool.eq_iff_iff];simp only [bool_to_prop,Bool.false_eq_true,iff_true,true_iff,iff_false,false_iff];omega))|skip)
   ·exact⟨Nat.zero_le _,rfl,by exact gC,by exact gC,by exact gC⟩
end Go.Proofs.YtpkcophcldjboaaGreatDoor
namespace Go.Proofs.YtpkcophcldjboaaGreatDoor
open Go Go.RowKit Go.Pg Go.Proofs.Tryz
attribute [-bool_to_prop] Bool.and_eq_decide Bool.or_eq_decide Bool.decide_beq_decide decide_eq_decide
def expOk (x:Int):Bool:=!decide (x < 0) && !decide (1048576 < x)
def rightB (l:List Int):Bool:=decide (l.length≤64) && !(l.getLast?.getD 1 == 0) && l.all expOk
attribute [local go_sem] underlying3 sz3 by3 z3
def Sm (l:List Int):Prop:=l.length≤1000∧∀j,0≤gI l j∧gI l j≤16777216
def sumT (l:List Int):Nat→Int
 | 0=>0
 | k+1=>sumT l k+gI l k
def expI (l:List Int) (v:Int):Int:=if v < 0 then 0 else gI l v.toNat
theorem toNat_lt {l:List Int} {v:Int} (h0:0≤v) (h:v < l.length):v.toNat < l.length:=by omega
def sgn (n:Int):Int:=if n < 0 then -1 else if 0 < n then 1 else 0
attribute [local go_sem] underlying69
def trimN (l:List Int):Nat→Nat
 | 0=>0
 | n+1=>if gI l n=0 then trimN l n else n+1
def trimI (l:List Int):List Int:=l.take (trimN l l.length)
def zipI (F:Int→Int→Int) (a b:List Int):List Int:=(List.range (max a.length b.length)).map λi=>F (gI a i) (gI b i)
def upto (n k:Nat) (F:Nat→Int):List AV:=(List.range n).map λi=>AV.v (.int .i64 (if i < k then F i else 0))
def Wd (l:List Int):Prop:=l.length≤1000∧∀j,-4503599627370496≤gI l j∧gI l j≤4503599627370496
theorem Sm.wd {l:List Int} (h:Sm l):Wd l:=⟨h.1,λj=>by have:=h.2 j;omega⟩
def divI (a b:List Int):Bool:=(List.range a.length).all λi=>decide (gI a i≤gI b i)
def copI (a b:List Int):Bool:=(List.range a.length).all λi=>decide (gI a i=0∨gI b i=0)
def outL (F:Nat→Int) (k:Nat):List AV:=(List.range k).map λi=>AV.v (.int .i64 (F i))
def quoI (a b:List Int):List Int:=if divI b a=true then trimI (zipI (· - ·) a b) else []
def quoR (a b:List Int):List Int:=if divI b a=true then trimI ((List.range a.length).map λi=>gI a i - gI b i) else []
attribute [local go_sem] underlying4
def normI (l:List Int):List Int:=if rightB (trimI l)=true then trimI l else []
def lt1 (x y:Int):Int:=if x < y then -1 else 1
def lexC (a b:List Int):Nat→Int
 | 0=>0
 | n+1=>if gI a n=gI b n then lexC a b n else lt1 (gI a n) (gI b n)
def cmpI (a b:List Int) (o:Int):Int :=
 if o=1∧sumT a a.length≠sumT b b.length then lt1 (sumT a a.length) (sumT b b.length) else lexC a b (max a.length b.length)
def low (x:Int):Bool:=!decide (262144 < x)
def rightL (ls:List (List Int)):Bool:=ls.all λl=>rightB l && l.all low
def gLs (ls:List (List Int)) (k:Nat):List Int:=ls.getD k []
end Go.Proofs.YtpkcophcldjboaaGreatDoor
namespace Go.Proofs.YtpkcophcldjboaaGreatDoor
open Go Go.RowKit Go.Pg Go.Proofs.Tryz
def Can (l:List Int):Prop:=(∀j,0≤gI l j)∧(l.length=0∨gI l (l.length - 1)≠0)
def LTm (a b:List Int):Prop:=∃k,gI a k < gI b k∧∀j,k < j→gI a j=gI b j
def ltM (a b:List Int):Prop:=lexC a b (max a.length b.length)=-1
instance:DecidableRel ltM:=λa b=>inferInstanceAs (Decidable (lexC a b (max a.length b.length)=-1))
theorem Zxz {a b:List Int}:∀n,lexC a b n=-1↔∃k,k < n∧gI a k < gI b k∧∀j,k < j→j < n→gI a j=gI b j
 | 0=>by
   constructor
   ·intro h;exact absurd h (by show ¬(0:Int)=-1;omega)
   ·rintro ⟨k,h,_⟩;omega
 | n+1=>by
   unfold lexC;by_cases h:gI a n=gI b n
   ·rw [if_pos h,Zxz n];constructor
    ·rintro ⟨k,h1,h2,h3⟩
     exact⟨k,by omega,h2,λj h4 h5=>by by_cases hj:j=n;subst hj;exact h;exact h3 j h4 (by omega)⟩
    ·rintro ⟨k,h1,h2,h3⟩
     have:k≠n:=by rintro rfl;omega
     exact⟨k,by omega,h2,λj h4 h5=>h3 j h4 (by omega)⟩
   ·rw [if_neg h];unfold lt1;constructor
    ·intro h1;by_cases h2:gI a n < gI b n
     ·exact⟨n,by omega,h2,λj h3 h4=>by omega⟩
     ·rw [if_neg h2] at h1;omega
    ·rintro ⟨k,h1,h2,h3⟩
     by_cases hk:k=n
     ·subst hk;rw [if_pos h2]
     ·exact absurd (h3 n (by omega) (by omega)) h
theorem Zi2 {a b:List Int}:ltM a b↔LTm a b:=by
 unfold ltM LTm;rw [Zxz];constructor
 ·rintro ⟨k,h1,h2,h3⟩
  refine⟨k,h2,λj h4=>?_⟩;by_cases hj:j < max a.length b.length
  ·exact h3 j h4 hj
  ·rw [Zew (by omega),Zew (by omega)]
 ·rintro ⟨k,h2,h3⟩
  refine⟨k,?_,h2,λj h4 _=>h3 j h4⟩;by_cases hk:k < max a.length b.length
  ·exact hk
  ·rw [Zew (by omega),Zew (by omega)] at h2;omega
theorem Zly {a b:List Int}:∀n,lexC a b n=0∧(∀j,j < n→gI a j=gI b j)∨lexC a b n=-1∨lexC a b n=1
 | 0=>.inl ⟨rfl,λj h=>by omega⟩
 | n+1=>by
   unfold lexC;by_cases h:gI a n=gI b n
   ·rw [if_pos h];rcases @Zly a b n with⟨h1,h2⟩ | h1
    ·exact .inl ⟨h1,λj hj=>by by_cases e:j=n;subst e;exact h;exact h2 j (by omega)⟩
    ·exact .inr h1
   ·rw [if_neg h];unfold lt1;split
    ·exact .inr (.inl rfl)
    ·exact .inr (.inr rfl)
theorem Zs1 {a b:List Int}:∀n,lexC b a n=- lexC a b n
 | 0=>rfl
 | n+1=>by
   unfold lexC;by_cases h:gI a n=gI b n
   ·rw [if_pos h,if_pos h.symm,Zs1 n]
   ·rw [if_neg h,if_neg (λe=>h e.symm)];unfold lt1;by_cases h1:gI a n < gI b n
    ·rw [if_pos h1,if_neg (by omega)];rfl
    ·rw [if_neg h1,if_pos (by omega)]
theorem can_ext {a b:List Int} (ha:Can a) (hb:Can b) (h:∀j,gI a j=gI b j):a=b:=by
 have hl:a.length=b.length:=by
  have h1:=h (a.length - 1);have h2:=h (b.length - 1);rcases Nat.lt_trichotomy a.length b.length with hl | hl | hl
  ·rcases hb.2 with hb0 | hb0
   ·omega
   ·rw [←h2,Zew (by omega)] at hb0;exact absurd rfl hb0
  ·exact hl
  ·rcases ha.2 with ha0 | ha0
   ·omega
   ·rw [h1,Zew (by omega)] at ha0;exact absurd rfl ha0
 refine List.ext_getElem hl λj h1 h2=>?_;have:=h j
 rwa [Zfk h1,Zfk h2] at this
theorem ordM:Go.Pol.KO Can ltM where
 irr x h:=by obtain⟨k,h1,_⟩:=Zi2.1 h;omega
 tr x y z h g:=by
  obtain⟨k,h1,h2⟩:=Zi2.1 h;obtain⟨i,g1,g2⟩:=Zi2.1 g;rw [Zi2];rcases Nat.lt_trichotomy k i with h3 | h3 | h3
  ·exact⟨i,by rw [h2 i h3];exact g1,λj hj=>by rw [h2 j (by omega),g2 j hj]⟩
  ·subst h3;exact⟨k,by omega,λj hj=>by rw [h2 j hj,g2 j hj]⟩
  ·exact⟨k,by rw [←g2 k h3];exact h1,λj hj=>by rw [h2 j hj,g2 j (by omega)]⟩
 tri x y hx hy:=by
  rcases @Zly x y (max x.length y.length) with⟨_,h⟩ | h | h
  ·refine .inr (.inl (can_ext hx hy λj=>?_));by_cases hj:j < max x.length y.length
   ·exact h j hj
   ·rw [Zew (by omega),Zew (by omega)]
  ·exact .inl h
  ·refine .inr (.inr ?_);unfold ltM;rw [Nat.max_comm,Zs1,h]
theorem Zkz (F:Int→Int→Int) (h0:F 0 0=0) (a b:List Int) (j:Nat):gI (zipI F a b) j=F (gI a j) (gI b j):=by
 by_cases h:j < max a.length b.length
 ·rw [Zfk (by unfold zipI;simpa using h)];unfold zipI;simp only [List.getElem_map,List.getElem_range]
 ·rw [Zew (by unfold zipI;simp only [List.length_map,List.length_range];omega),Zew (by omega),Zew (by omega),h0]
abbrev mulM (a b:List Int):List Int:=zipI (·+·) a b
theorem Zst (a b:List Int):(mulM a b).length=max a.length b.length:=by simp [mulM,zipI]
theorem mulK:Go.Pol.KM Can ltM mulM where
 comm x y:=by
  unfold mulM zipI;rw [Nat.max_comm];exact List.map_congr_left λi _=>Int.add_comm _ _
 dom x y hx hy:=by
  refine⟨λj=>by rw [Zkz _ rfl];have:=hx.1 j;have:=hy.1 j;omega,?_⟩;rw [Zst,Zkz _ rfl];have a1:=hx.1 (max x.length y.length - 1);have b1:=hy.1 (max x.length y.length - 1);rcases Nat.le_total x.length y.length with h | h
  ·rw [Nat.max_eq_right h] at *;rcases hy.2 with h1 | h1
   ·exact .inl h1
   ·exact .inr (by omega)
  ·rw [Nat.max_eq_left h] at *;rcases hx.2 with h1 | h1
   ·exact .inl h1
   ·exact .inr (by omega)
 mono x y z _ _ _ h:=by
  obtain⟨k,h1,h2⟩:=Zi2.1 h;rw [Zi2];exact⟨k,by rw [Zkz _ rfl,Zkz _ rfl];omega,λj hj=>by rw [Zkz _ rfl,Zkz _ rfl,h2 j hj]⟩
def mvN (v:Nat→Rat) (m:List Int):Nat→Rat
 | 0=>1
 | n+1=>mvN v m n*v n ^ (gI m n).toNat
def mv (v:Nat→Rat) (m:List Int):Rat:=mvN v m m.length
end Go.Proofs.YtpkcophcldjboaaGreatDoor
namespace Go.Pol
def evl {α:Type} (φ:α→Rat):List (Rat × α)→Rat
 | []=>0
 | t :: p=>t.1*φ t.2+evl φ p
theorem Zyw {α:Type} (φ:α→Rat) (p q:List (Rat × α)):evl φ (p++q)=evl φ p+evl φ q:=by
 induction p with
 | nil=>show evl φ q=0+evl φ q;rw [Rat.zero_add]
 | cons t p ih=>show _+evl φ (p++q)=(_+evl φ p)+evl φ q;rw [ih,Rat.add_assoc]
section
variable {α:Type} {D:α→Prop} {lt:α→α→Prop} [DecidableRel lt]
theorem Ztf (o:KO D lt) (φ:α→Rat) {p q:List (Rat × α)} (hp:∀t∈p,D t.2) (hq:∀t∈q,D t.2):evl φ (addP lt p q)=evl φ p+evl φ q:=by
 fun_induction addP lt p q with
 | case1 q=>show evl φ q=0+evl φ q;rw [Rat.zero_add]
 | case2 s p=>show evl φ (s :: p)=evl φ (s :: p)+0;rw [Rat.add_zero]
 | case3 s p u q h1 ih =>
   have:=ih (λt h=>hp t (.tail _ h)) hq;simp only [evl] at this ⊢;rw [this];grind
 | case4 s p u q h1 h2 ih =>
   have:=ih hp (λt h=>hq t (.tail _ h));simp only [evl] at this ⊢;rw [this];grind
 | case5 s p u q h1 h2 h3 ih =>
   have e:s.2=u.2:=by rcases o.tri s.2 u.2 (hp s (.head _)) (hq u (.head _)) with h | h | h;exact absurd h h2;exact h;exact absurd h h1
   have:=ih (λt h=>hp t (.tail _ h)) (λt h=>hq t (.tail _ h));simp only [evl] at this ⊢;have e2:s.1*φ s.2+u.1*φ u.2=0:=by rw [e,←Rat.add_mul,h3,Rat.zero_mul]
   rw [this];grind
 | case6 s p u q h1 h2 h3 ih =>
   have e:s.2=u.2:=by rcases o.tri s.2 u.2 (hp s (.head _)) (hq u (.head _)) with h | h | h;exact absurd h h2;exact h;exact absurd h h1
   have:=ih (λt h=>hp t (.tail _ h)) (λt h=>hq t (.tail _ h));simp only [evl] at this ⊢;rw [this,e];grind
end
section
variable {α:Type} {D:α→Prop} {lt:α→α→Prop}
def Zr2 (a:Rat) (p:List (Rat × α)):List (Rat × α):=p.map λs=>(s.1*a,s.2)
theorem Zn9 {a:Rat} {p:List (Rat × α)} (hp:Srt D lt p) (h:a≠0):Srt D lt (Zr2 a p):=by
 refine⟨λu hu=>?_,List.pairwise_map.2 hp.2⟩;obtain⟨s,hs,rfl⟩:=List.mem_map.1 hu;have:=hp.1 s hs;exact⟨by show s.1*a≠0;intro h0;rcases Rat.mul_eq_zero.1 h0 with h1 | h1;exact this.1 h1;exact h h1,this.2⟩
end
section
variable {α:Type} [DecidableEq α]
end
section
variable {α:Type} {D:α→Prop} {lt:α→α→Prop} [DecidableEq α] [DecidableRel lt]
end
section
variable {α:Type} {lt:α→α→Prop} [DecidableRel lt]
end
section
variable {α:Type} {D:α→Prop} {lt:α→α→Prop} [DecidableRel lt]
def subP (lt:α→α→Prop) [DecidableRel lt] (p q:List (Rat × α)):List (Rat × α):=addP lt p (Zr2 (-1) q)
theorem neg1:(-1:Rat)≠0:=by decide
end
section
variable {α:Type} {D:α→Prop} {lt:α→α→Prop} [DecidableEq α] [DecidableRel lt]
end
section
variable {α:Type} {lt:α→α→Prop} [DecidableRel lt]
theorem Zgx {p q:List (Rat × α)} {t:Rat × α} (h:t∈addP lt p q):t∈p∨t∈q∨∃s∈p,∃u∈q,t=(s.1+u.1,s.2):=by
 fun_induction addP lt p q with
 | case1 q=>exact .inr (.inl h)
 | case2 s p=>exact .inl h
 | case3 s p u q h1 ih =>
   rcases List.mem_cons.1 h with rfl | h
   ·exact .inl (.head _)
   ·rcases ih h with h | h | ⟨a,ha,b,hb,e⟩
    ·exact .inl (.tail _ h)
    ·exact .inr (.inl h)
    ·exact .inr (.inr ⟨a,.tail _ ha,b,hb,e⟩)
 | case4 s p u q h1 h2 ih =>
   rcases List.mem_cons.1 h with rfl | h
   ·exact .inr (.inl (.head _))
   ·rcases ih h with h | h | ⟨a,ha,b,hb,e⟩
    ·exact .inl h
    ·exact .inr (.inl (.tail _ h))
    ·exact .inr (.inr ⟨a,ha,b,.tail _ hb,e⟩)
 | case5 s p u q h1 h2 h3 ih =>
   rcases ih h with h | h | ⟨a,ha,b,hb,e⟩
   ·exact .inl (.tail _ h)
   ·exact .inr (.inl (.tail _ h))
   ·exact .inr (.inr ⟨a,.tail _ ha,b,.tail _ hb,e⟩)
 | case6 s p u q h1 h2 h3 ih =>
   rcases List.mem_cons.1 h with rfl | h
   ·exact .inr (.inr ⟨s,.head _,u,.head _,rfl⟩)
   ·rcases ih h with h | h | ⟨a,ha,b,hb,e⟩
    ·exact .inl (.tail _ h)
    ·exact .inr (.inl (.tail _ h))
    ·exact .inr (.inr ⟨a,.tail _ ha,b,.tail _ hb,e⟩)
end
def BQ (D B:Nat) (q:Rat):Prop:=q.den ∣ D∧q.num.natAbs≤B*q.den
theorem Zsw {z:Int} {m:Nat} (hm:m≠0) {D B:Nat} (hd:m ∣ D*Nat.gcd z.natAbs m) (hb:z.natAbs≤B*m):BQ D B (mkRat z m):=by
 have h0:0 < Nat.gcd z.natAbs m:=Nat.gcd_pos_of_pos_right _ (Nat.pos_of_ne_zero hm);obtain⟨c,hc⟩:=Nat.gcd_dvd_right z.natAbs m;obtain⟨a,ha⟩:=Nat.gcd_dvd_left z.natAbs m;unfold BQ;rw [Rat.num_mkRat,Rat.den_mkRat,if_neg hm,Nat.gcd_comm m z.natAbs];generalize Nat.gcd z.natAbs m=g at *;have e1:m/g=c:=by rw [hc];exact Nat.mul_div_cancel_left _ h0
 have e2:(z/(g:Int)).natAbs=a:=by
  rcases Int.natAbs_eq z with h | h
  ·rw [h,ha,show((g*a:Nat):Int)=(g:Int)*(a:Int) from by simp,Int.mul_ediv_cancel_left _ (by omega)];simp
  ·rw [h,ha,show -((g*a:Nat):Int)=(g:Int)*(-(a:Int)) from by simp [Int.mul_neg],Int.mul_ediv_cancel_left _ (by omega)];simp
 rw [e1,if_neg hm,e2];constructor
 ·rw [hc,Nat.mul_comm D] at hd;exact Nat.dvd_of_mul_dvd_mul_left h0 hd
 ·rw [ha,hc,show B*(g*c)=g*(B*c) from by simp only [Nat.mul_left_comm]] at hb;exact Nat.le_of_mul_le_mul_left hb h0
theorem BQ.mono {D B E C:Nat} {q:Rat} (h:BQ D B q) (hd:D ∣ E) (hb:B≤C):BQ E C q:=⟨Nat.dvd_trans h.1 hd,Nat.le_trans h.2 (Nat.mul_le_mul_right _ hb)⟩
theorem BQ.mul {D B E C:Nat} {a b:Rat} (h:BQ D B a) (k:BQ E C b):BQ (D*E) (B*C) (a*b):=by
 rw [Rat.mul_def'];refine Zsw (Nat.mul_ne_zero a.den_nz b.den_nz) (Nat.dvd_trans (Nat.mul_dvd_mul h.1 k.1) (Nat.dvd_mul_right _ _)) ?_;rw [Int.natAbs_mul]
 calc _≤(B*a.den)*(C*b.den):=Nat.mul_le_mul h.2 k.2
  _=B*C*(a.den*b.den):=by simp only [Nat.mul_assoc,Nat.mul_left_comm]
theorem BQ.add {D B C:Nat} {a b:Rat} (h:BQ D B a) (k:BQ D C b):BQ D (B+C) (a+b):=by
 obtain⟨x,hx⟩:=h.1;obtain⟨y,hy⟩:=k.1;have e:a+b=mkRat (a.num*b.den+b.num*a.den) (a.den*b.den):=Rat.add_def' a b;rw [e];refine Zsw (Nat.mul_ne_zero a.den_nz b.den_nz) ?_ ?_
 ·
  rw [←Nat.gcd_mul_left];refine Nat.dvd_gcd ?_ (Nat.dvd_mul_left _ _)
  have e2:((D*(a.num*b.den+b.num*a.den).natAbs:Nat):Int)=((D:Int)*(a.num*b.den+b.num*a.den)).natAbs:=by
   rw [Int.natAbs_mul];simp
  have e3:D*(a.num*b.den+b.num*a.den).natAbs=((D:Int)*(a.num*b.den+b.num*a.den)).natAbs:=by omega
  rw [e3]
  have e4:(D:Int)*(a.num*b.den+b.num*a.den)=((a.den*b.den:Nat):Int)*(x*a.num+y*b.num):=by
   have h1:(D:Int)=a.den*x:=by rw [hx];simp
   have h2:(D:Int)=b.den*y:=by rw [hy];simp
   rw [Int.mul_add,Int.mul_add,show((a.den*b.den:Nat):Int)=(a.den:Int)*b.den from by simp];congr 1
   ·rw [h1];simp only [Int.mul_assoc,Int.mul_left_comm,Int.mul_comm]
   ·rw [h2];simp only [Int.mul_assoc,Int.mul_left_comm,Int.mul_comm]
  rw [e4,Int.natAbs_mul,Int.natAbs_natCast];exact Nat.dvd_mul_right _ _
 ·have h1:=h.2;have h2:=k.2
  calc _≤(a.num*b.den).natAbs+(b.num*a.den).natAbs:=by omega
   _=a.num.natAbs*b.den+b.num.natAbs*a.den:=by rw [Int.natAbs_mul,Int.natAbs_mul,Int.natAbs_natCast,Int.natAbs_natCast]
   _≤(B*a.den)*b.den+(C*b.den)*a.den:=Nat.add_le_add (Nat.mul_le_mul_right _ h1) (Nat.mul_le_mul_right _ h2)
   _=(B+C)*(a.den*b.den):=by rw [Nat.add_mul];simp only [Nat.mul_assoc,Nat.mul_comm b.den]
theorem BQ.neg {D B:Nat} {a:Rat} (h:BQ D B a):BQ D B (-a):=by
 refine⟨h.1,?_⟩;show(-a.num).natAbs≤B*a.den;rw [Int.natAbs_neg];exact h.2
theorem BQ.int (z:Int) {D B:Nat} (h:z.natAbs≤B):BQ D B (z:Rat):=⟨⟨D,(Nat.one_mul D).symm⟩,by show z.natAbs≤B*1;omega⟩
end Go.Pol
namespace Go.Proofs.YtpkcophcldjboaaGreatDoor
open Go Go.RowKit Go.Pg Go.Proofs.Tryz
attribute [-bool_to_prop] Bool.and_eq_decide Bool.or_eq_decide Bool.decide_beq_decide decide_eq_decide
attribute [local go_sem] underlying50 underlying3 underlying128 underlying160 underlying4 underlying52 underlying54 underlying33 sz3 by3 z3 szL byL zL szB zB Zax zNat Zay zInt Zas zRat
structure RQ where
 s:Bool
 l:List Nat
 d:List Nat
def RQ.lm (r:RQ) (k:Nat):Prop:=Lm r.l∧Lm r.d∧r.l.length≤k∧r.d.length≤k
abbrev RQ.av (r:RQ):AV:=.agg [.v (.bool r.s),lim r.l,lim r.d]
def RQ.zok (s:Bool) (l:List Nat):Bool:=valL l && !(s && decide (l.length=0))
def RQ.ok (r:RQ):Bool:=RQ.zok r.s r.l && valL r.d && (Nat.gcd (nv r.l) (nv r.d) == 1) && decide (0 < r.d.length)
def RQ.q (r:RQ):Rat:=mkRat (zI r.s (nv r.l)) (nv r.d)
theorem RQ.ok_av {r:RQ} {k:Nat} (hl:r.lm k) (h:r.ok=true):r.av=ratQ r.q∧Sz r.q k:=by
 obtain⟨s,l,d⟩:=r;obtain⟨h1,h2,h3,h4⟩:=hl;simp only [RQ.ok,RQ.zok,Bool.and_eq_true,decide_eq_true_eq,Bool.not_eq_true',beq_iff_eq] at h;obtain⟨⟨⟨⟨v1,v2⟩,v3⟩,v4⟩,v5⟩:=h;have e1:=(Zh9 h1).1 v1;have e2:=(Zh9 h2).1 v3;simp only [RQ.av,RQ.q] at *;generalize nv l=n at *;generalize nv d=m at *;subst e1;subst e2;have hm:m≠0:=by have:=Za8.1 v5;omega
 have hs:decide (zI s n < 0)=s:=by
  rw [zI_lt];cases s
  ·rfl
  ·have:(toL n).length≠0:=by simpa using v2
   rw [decide_eq_true (Za8.1 (by omega))];rfl
 refine⟨?_,Sz.mk (by rw [Zdz];exact h3) h4 (by omega)⟩;rw [Zqf _ _ hm,Zdz,v4,Nat.div_one,Nat.div_one,hs]
theorem Zpw {a b:Nat}:toL a=toL b↔a=b:=⟨λh=>by rw [←Zao a,h,Zao],λh=>by rw [h]⟩
theorem zRight (s:Bool) (l:List Nat) (hs:l.length≤100000000) (hl:Lm l):Pure prog 161 [.agg [.v (.bool s),lim l]] (.v (.bool (RQ.zok s l))):=by
 have cv:=Zr7 l (by omega) hl;unfold RQ.zok;generalize valL l=v at *;cases v
 ·refine Zaa (tok:=0) func161 rfl ntmps161 results161 call161 (by rfl) (by simp) ?_;(focus (refine wkvp (w_1 @Bool.false_and) (w_1 cv) ?_;(repeat' first|exact w_t|apply w_l);all_goals intros));simp (disch:=omega) only [go_sem,Bool.false_and]
 ·cases s
  ·refine Zaa (tok:=0) func161 rfl ntmps161 results161 call161 (by rfl) (by simp) ?_;(focus (refine wkvp (w_1 @Bool.false_and) (w_1 cv) ?_;(repeat' first|exact w_t|apply w_l);all_goals intros));simp (disch:=omega) only [go_sem,Bool.false_and]
  ·by_cases h0:l.length=0
   ·refine Zaa (tok:=0) func161 rfl ntmps161 results161 call161 (by rfl) (by simp) ?_;(focus (refine wkvp (w_2 h0 @Int.natCast_zero) (w_1 cv) ?_;(repeat' first|exact w_t|apply w_l);all_goals intros));simp (disch:=omega) only [go_sem,h0]
   ·refine Zaa (tok:=0) func161 rfl ntmps161 results161 call161 (by rfl) (by simp) ?_;(focus (refine wkvp w_t (w_1 cv) ?_;(repeat' first|exact w_t|apply w_l);all_goals intros));simp (disch:=omega) only [go_sem,h0,decide_eq_false h0]
theorem Zse (s:Bool) (l d:List Nat) (h1:Lm l) (h2:Lm d) (h3:l.length≤100000000) (h4:d.length≤100000000):Pure prog 101 [.agg [.v (.bool s),lim l,lim d]] (.v (.bool (RQ.ok ⟨s,l,d⟩))):=by
 have cz:=zRight s l h3 h1;have cv:=Zr7 d (by omega) h2;have cg:=refGcd l d (by omega) (by omega) h1 h2
 have hgl:(toL (Nat.gcd (nv l) (nv d))).length≤100000000:=by
  have l1:=Zar h1;have l2:=Zar h2;by_cases hd:nv d=0
  ·rw [hd,Nat.gcd_zero_right];omega
  ·exact Nat.le_trans (Zed (Nat.gcd_le_right _ (by omega))) (by omega)
 have cs:=refSameN (toL (Nat.gcd (nv l) (nv d))) (toL 1) (by omega) (by rw [Zfu];omega) (Zap _) (Zap _);rw [show decide (toL (Nat.gcd (nv l) (nv d))=toL 1)=(Nat.gcd (nv l) (nv d) == 1) from by rw [Bool.eq_iff_iff,decide_eq_true_eq,beq_iff_eq];exact Zpw] at cs;unfold RQ.ok;generalize RQ.zok s l=v at *;simp only;generalize Nat.gcd (nv l) (nv d)=g at *;cases v
 ·refine Zaa (tok:=0) func101 rfl ntmps101 results101 call101 (by rfl) (by simp) ?_;(focus (refine wkvp (w_1 @Bool.false_and) (w_1 cz) ?_;(repeat' first|exact w_t|apply w_l);all_goals intros));simp (disch:=omega) only [go_sem,Bool.false_and]
 ·generalize valL d=v at *;cases v
  ·refine Zaa (tok:=0) func101 rfl ntmps101 results101 call101 (by rfl) (by simp) ?_;(focus (refine wkvp (w_1 @Bool.false_and) (w_2 cz cv) ?_;(repeat' first|exact w_t|apply w_l);all_goals intros));simp (disch:=omega) only [go_sem,Bool.false_and]
  ·by_cases hg:g=1
   ·have hgb:(g == 1)=true:=by rw [beq_iff_eq];exact hg
    rw [hgb] at cs ⊢;by_cases hd:0 < d.length
    ·rw [decide_eq_true hd];refine Zaa (tok:=0) func101 rfl ntmps101 results101 call101 (by rfl) (by simp) ?_;(focus (refine wkvp w_t (w_5 cz cv cg (Zoe 1 (by omega)) cs) ?_;(repeat' first|exact w_t|apply w_l);all_goals intros));simp (disch:=omega) only [go_sem]
    ·rw [decide_eq_false hd];refine Zaa (tok:=0) func101 rfl ntmps101 results101 call101 (by rfl) (by simp) ?_;(focus (refine wkvp w_t (w_5 cz cv cg (Zoe 1 (by omega)) cs) ?_;(repeat' first|exact w_t|apply w_l);all_goals intros));simp (disch:=omega) only [go_sem,Bool.and_false]
   ·have hgb:(g == 1)=false:=by rw [beq_eq_false_iff_ne];exact hg
    rw [hgb] at cs ⊢;refine Zaa (tok:=0) func101 rfl ntmps101 results101 call101 (by rfl) (by simp) ?_;(focus (refine wkvp (w_2 @Bool.and_false @Bool.false_and) (w_5 cz cv cg (Zoe 1 (by omega)) cs) ?_;(repeat' first|exact w_t|apply w_l);all_goals intros));simp (disch:=omega) only [go_sem,Bool.and_false,Bool.false_and]
section
variable {N n:Nat} {cs:List AV}
theorem agN16:Zg5 prog 128=false:=by kernel_rfl
theorem cs16:prog.cellsOf 128=1:=by kernel_rfl
theorem shNat (h:Zb5 prog N n 50 cs):∃l:List Nat,cs=[lim l]∧Lm l∧l.length≤N:=by
 obtain⟨bs,rfl,hl,hq⟩:=Zcs (g:=λk:Nat=>[AV.v (.int .u16 (k:Int))]) (Q:=λk=>k < 65536) underlying50 h λm x hx=>by
  obtain⟨i,rfl,hw⟩:=Zb7 underlying128 hx;have:=wf_u16 hw;exact⟨i.toNat,by rw [Int.toNat_of_nonneg this.1],by omega⟩
 refine⟨bs,?_,hq,hl⟩;rw [cs16];have:(bs.map λb:Nat=>Zcv prog 128 [AV.v (.int .u16 (b:Int))])=u16s bs:=List.map_congr_left λb _=>Zj7 agN16 _;rw [this]
theorem shInt (h:Zb5 prog N n 52 cs):∃(s:Bool) (l:List Nat),cs=[.v (.bool s),lim l]∧Lm l∧l.length≤N:=by
 obtain⟨m,rfl,hs⟩:=Zb0 underlying52 (by kernel_rfl) h;obtain⟨x,y,rfl,h1,hs⟩:=hs.inv;obtain⟨z,y,rfl,h2,hs⟩:=hs.inv;obtain rfl:=hs.inv0;obtain⟨s,rfl⟩:=Zt4 underlying4 h1;obtain⟨l,rfl,h3,h4⟩:=shNat h2;exact⟨s,l,rfl,h3,h4⟩
theorem shRat (h:Zb5 prog N n 54 cs):∃r:RQ,cs=[.v (.bool r.s),lim r.l,lim r.d]∧r.lm N:=by
 obtain⟨m,rfl,hs⟩:=Zb0 underlying54 (by kernel_rfl) h;obtain⟨x,y,rfl,h1,hs⟩:=hs.inv;obtain⟨z,y,rfl,h2,hs⟩:=hs.inv;obtain rfl:=hs.inv0;obtain⟨s,l,rfl,h3,h4⟩:=shInt h1;obtain⟨d,rfl,h5,h6⟩:=shNat h2;exact⟨⟨s,l,d⟩,rfl,h3,h5,h4,h6⟩
structure RP where
 x:RQ
 y:RQ
abbrev RP.av (p:RP):AV:=.agg [.v (.bool p.x.s),lim p.x.l,lim p.x.d,.v (.bool p.y.s),lim p.y.l,lim p.y.d]
def RP.lm (p:RP) (k:Nat):Prop:=p.x.lm k∧p.y.lm k
end
end Go.Proofs.YtpkcophcldjboaaGreatDoor
namespace Go.Proofs.YtpkcophcldjboaaGreatDoor
open Go Go.RowKit Go.Pg Go.Pol Go.Proofs.Tryz
attribute [-bool_to_prop] Bool.and_eq_decide Bool.or_eq_decide Bool.decide_beq_decide decide_eq_decide
abbrev Tm:=Rat × List Int
abbrev Po:=List Tm
abbrev tmA (t:Tm):AV:=.agg [.v (.bool (decide (t.1.num < 0))),lim (toL t.1.num.natAbs),lim (toL t.1.den),ivs t.2]
abbrev poA (p:Po):AV:=.sl 4 (p.map tmA)
abbrev SrtM (p:Po):Prop:=Srt Can ltM p
abbrev addM (p q:Po):Po:=addP ltM p q
abbrev subM (p q:Po):Po:=subP ltM p q
abbrev mlM (p q:Po):Po:=mulR ltM mulM p q
def sclM (a:Rat) (p:Po):Po:=if a=0 then [] else Zr2 a p
def PK (p:Po) (k e:Nat):Prop:=∀t∈p,Sz t.1 k∧t.2.length≤1000∧∀j,0≤gI t.2 j∧gI t.2 j≤(e:Int)
theorem PK.mono {p:Po} {k j e f:Nat} (h:PK p k e) (hk:k≤j) (he:e≤f):PK p j f:=λt ht=>⟨(h t ht).1.mono hk,(h t ht).2.1,λi=>by have:=(h t ht).2.2 i;omega⟩
theorem PK.sm {p:Po} {k e:Nat} (h:PK p k e) (he:e≤16777216) {t:Tm} (ht:t∈p):Sm t.2:=⟨(h t ht).2.1,λi=>by have:=(h t ht).2.2 i;omega⟩
theorem PK.nil {k e:Nat}:PK [] k e:=λt ht=>by simp at ht
theorem PK.tail {t:Tm} {p:Po} {k e:Nat} (h:PK (t :: p) k e):PK p k e:=λu hu=>h u (.tail _ hu)
theorem PK.drop {p:Po} {k e:Nat} (h:PK p k e) (i:Nat):PK (p.drop i) k e:=λu hu=>h u (List.mem_of_mem_drop hu)
theorem PK.add {p q:Po} {j k e:Nat} (hp:PK p j e) (hq:PK q k e):PK (addM p q) (j+k+1) e:=λt ht=>by
 rcases Zgx ht with h | h | ⟨s,hs,u,hu,rfl⟩
 ·exact⟨(hp t h).1.mono (by omega),(hp t h).2⟩
 ·exact⟨(hq t h).1.mono (by omega),(hq t h).2⟩
 ·exact⟨(hp s hs).1.add (hq u hu).1,(hp s hs).2⟩
def Zjn (v:Nat):List Int:=List.replicate v 0++[1]
theorem Zgn (v:Nat):(Zjn v).length=v+1:=by simp [Zjn]
theorem Zne (v j:Nat):gI (Zjn v) j=if j=v then 1 else 0:=by
 by_cases h:j < v+1
 ·rw [Zfk (by rw [Zgn];exact h)];unfold Zjn;rw [List.getElem_append];by_cases hj:j < v
  ·rw [dif_pos (by simpa using hj),List.getElem_replicate,if_neg (by omega)]
  ·rw [dif_neg (by simpa using hj),if_pos (by omega)];simp
 ·rw [Zew (by rw [Zgn];omega),if_neg (by omega)]
theorem can_unit (v:Nat):Can (Zjn v):=by
 refine⟨λj=>by rw [Zne];split<;>omega,.inr ?_⟩;rw [Zgn,Zne,if_pos (by omega)];omega
def varM (v:Nat):Po:=if v < 64 then [(1,Zjn v)] else []
theorem Zrp (v:Nat):SrtM (varM v):=by
 unfold varM;split
 ·exact Srt.nil.cons (by show(1:Rat)≠0;decide) (can_unit v) (by simp)
 ·exact .nil
structure RS where
 k:Int
 nm:ByteArray
 ar:List Int
 r:RQ
structure RG where
 k:Int
 ar:List Int
 r:RQ
abbrev RS.av (s:RS):AV:=.agg [iv s.k,strA s.nm,ivs s.ar,.v (.bool s.r.s),lim s.r.l,lim s.r.d]
abbrev RG.av (g:RG):AV:=.agg [iv g.k,ivs g.ar,.v (.bool g.r.s),lim g.r.l,lim g.r.d]
abbrev figA (ss:List RS) (gs:List RG):AV:=.agg [.sl 6 (ss.map RS.av),.sl 5 (gs.map RG.av)]
def RQ.none (r:RQ):Bool:=!r.s && (decide (r.l.length=0) && decide (r.d.length=0))
structure FS where
 cs:List (Po × Po)
 vs:List Vt
 fr:Nat
abbrev coA (c:Po × Po):AV:=.agg [poA c.1,poA c.2]
def FS.at (f:FS) (s:RS) (k:Nat):Po × Po:=f.cs.getD (gI s.ar k).toNat ([],[])
def FS.nxt (f:FS) (i:Nat) (s:RS):List Vt × (Po × Po) :=
 let v:=f.vs.length
 let a:=f.at s 0
 let b:=f.at s 1
 let c:=f.at s 2
 if s.k=1 then
  (if f.fr=0 then ([],([],[]))
   else if f.fr=1 then ([(1,(i:Int),0)],(varM v,[]))
   else ([(1,(i:Int),0),(1,(i:Int),1)],(varM v,varM (v+1))))
 else if s.k=2 then ([],(addM a.1 (sclM s.r.q (subM b.1 a.1)),addM a.2 (sclM s.r.q (subM b.2 a.2))))
 else if s.k=3 then ([],(addM a.1 (subM c.1 b.1),addM a.2 (subM c.2 b.2)))
 else if s.k=4 then ([],(addM a.1 (subM b.2 c.2),addM a.2 (subM c.1 b.1)))
 else if s.k=5 then ([(1,(i:Int),0)],(addM a.1 (mlM (subM b.1 a.1) (varM v)),addM a.2 (mlM (subM b.2 a.2) (varM v))))
 else if s.k=6 then ([(1,(i:Int),0),(2,(i:Int),1),(2,(i:Int),2)],(varM (v+1),varM (v+2)))
 else ([(2,(i:Int),0),(2,(i:Int),1)],(varM v,varM (v+1)))
def FS.push (f:FS) (i:Nat) (s:RS):FS:=⟨f.cs++[(f.nxt i s).2],f.vs++(f.nxt i s).1,if s.k=1 then f.fr+1 else f.fr⟩
def frN (ss:List RS):Nat→FS
 | 0=>⟨[],[],0⟩
 | i+1=>(frN ss i).push i (ss.getD i ⟨0,.empty,[],⟨false,[],[]⟩⟩)
def bigN (ss:List RS) (i:Nat):Bool :=
 decide (64 < (frN ss (i+1)).vs.length) || decide (4000 < ((frN ss i).nxt i (ss.getD i ⟨0,.empty,[],⟨false,[],[]⟩⟩)).2.1.length) || decide (4000 < ((frN ss i).nxt i (ss.getD i ⟨0,.empty,[],⟨false,[],[]⟩⟩)).2.2.length)
def BB (n:Nat):Nat:=65536 ^ (3*n)
theorem BB_pos (n:Nat):1≤BB n:=Nat.one_le_pow _ _ (by omega)
theorem BB_succ (n:Nat):BB (n+1)=BB n*65536 ^ 3:=by unfold BB;rw [←Nat.pow_add];rfl
def GP (n D v:Nat) (p:Po):Prop:=SrtM p∧∀t∈p,BQ D (BB n) t.1∧t.2.length≤v∧∀j,gI t.2 j≤1
theorem GP.nil {n D v:Nat}:GP n D v []:=⟨.nil,λt h=>by simp at h⟩
theorem GP.mono {n D v m E w:Nat} {p:Po} (h:GP n D v p) (hn:n≤m) (hd:D ∣ E) (hv:v≤w):GP m E w p :=
 ⟨h.1,λt ht=>⟨(h.2 t ht).1.mono hd (Nat.pow_le_pow_right (by omega) (by omega)),by have:=(h.2 t ht).2.1;omega,(h.2 t ht).2.2⟩⟩
theorem bq_sz {D B d b:Nat} {q:Rat} (h:BQ D B q) (h0:D≠0) (hd:D < 65536 ^ d) (hb:B < 65536 ^ b):Sz q (d+b):=by
 have h1:q.den≤D:=Nat.le_of_dvd (Nat.pos_of_ne_zero h0) h.1;refine⟨Zaf.2 ?_,Nat.le_trans (Zaf.2 (Nat.lt_of_le_of_lt h1 hd)) (by omega)⟩;have hp:0 < q.den:=q.den_pos
 calc q.num.natAbs≤B*q.den:=h.2
  _≤B*D:=Nat.mul_le_mul_left _ h1
  _ < 65536 ^ b*65536 ^ d:=Nat.mul_lt_mul_of_lt_of_lt hb hd
  _=65536 ^ (d+b):=by rw [Nat.mul_comm,←Nat.pow_add]
theorem GP.pk {n D v:Nat} {p:Po} (h:GP n D v p) (hv:v≤1000) (h0:D≠0) (hd:D < 65536 ^ (2*n+1)) (hn:n≤20):PK p 110 1:=λt ht=>by
 obtain⟨h1,h2,h3⟩:=h.2 t ht;refine⟨(bq_sz (b:=3*n+1) h1 h0 hd (by unfold BB;exact Nat.pow_lt_pow_right (by omega) (by omega))).mono (by omega),by omega,λj=>⟨(h.1.1 t ht).2.1 j,h3 j⟩⟩
def GB (B D v:Nat) (p:Po):Prop:=SrtM p∧∀t∈p,BQ D B t.1∧t.2.length≤v∧∀j,gI t.2 j≤1
theorem GB.mono {B D v C E w:Nat} {p:Po} (h:GB B D v p) (hn:B≤C) (hd:D ∣ E) (hv:v≤w):GB C E w p :=
 ⟨h.1,λt ht=>⟨(h.2 t ht).1.mono hd hn,by have:=(h.2 t ht).2.1;omega,(h.2 t ht).2.2⟩⟩
theorem GB.add {B C D v:Nat} {p q:Po} (h:GB B D v p) (k:GB C D v q):GB (B+C) D v (addM p q):=by
 refine⟨Zc1 ordM h.1 k.1,λt ht=>?_⟩;rcases Zgx ht with h1 | h1 | ⟨s,hs,u,hu,rfl⟩
 ·exact⟨(h.2 t h1).1.mono (Nat.dvd_refl _) (by omega),(h.2 t h1).2⟩
 ·exact⟨(k.2 t h1).1.mono (Nat.dvd_refl _) (by omega),(k.2 t h1).2⟩
 ·exact⟨(h.2 s hs).1.add (k.2 u hu).1,(h.2 s hs).2⟩
theorem GB.neg {B D v:Nat} {p:Po} (h:GB B D v p):GB B D v (Zr2 (-1) p):=by
 refine⟨Zn9 h.1 neg1,λt ht=>?_⟩;obtain⟨s,hs,rfl⟩:=List.mem_map.1 ht;refine⟨?_,(h.2 s hs).2⟩;have e:s.1*-1=-s.1:=by grind
 show BQ D B (s.1*-1);rw [e];exact(h.2 s hs).1.neg
theorem GB.sub {B C D v:Nat} {p q:Po} (h:GB B D v p) (k:GB C D v q):GB (B+C) D v (subM p q):=h.add k.neg
theorem GB.scl {B C D E v:Nat} {p:Po} {a:Rat} (h:GB B D v p) (ha:BQ E C a):GB (B*C) (D*E) v (sclM a p):=by
 unfold sclM;split
 ·exact⟨.nil,λt h=>by simp at h⟩
 ·rename_i h0;refine⟨Zn9 h.1 h0,λt ht=>?_⟩;obtain⟨s,hs,rfl⟩:=List.mem_map.1 ht;exact⟨(h.2 s hs).1.mul ha,(h.2 s hs).2⟩
theorem mul_var (p:Po) (v:Nat):mlM p (varM v)=if v < 64 then Zj8 mulM p (1,Zjn v) else []:=by
 unfold varM;split
 ·show addP ltM [] (Zj8 mulM p (1,Zjn v))=_;simp [addP]
 ·rfl
theorem GB.var {B D v:Nat} {p:Po} (h:GB B D v p):GB B D (v+1) (mlM p (varM v)):=by
 refine⟨mulR_srt ordM mulK h.1 (Zrp v),λt ht=>?_⟩;rw [mul_var] at ht;split at ht
 ·obtain⟨s,hs,rfl⟩:=List.mem_map.1 ht;obtain⟨h1,h2,h3⟩:=h.2 s hs;refine⟨by show BQ D B (s.1*1);rw [Rat.mul_one];exact h1,by show(mulM s.2 (Zjn v)).length≤v+1;rw [Zst,Zgn];omega,λj=>?_⟩;show gI (mulM s.2 (Zjn v)) j≤1;rw [Zkz _ rfl,Zne];split
  ·rename_i hj;rw [Zew (by omega)];omega
  ·have:=h3 j;omega
 ·simp at ht
theorem GB.one {B D v w:Nat} (hB:1≤B) (h:v < w):GB B D w (varM v):=by
 refine⟨Zrp v,λt ht=>?_⟩;unfold varM at ht;split at ht
 ·rw [List.mem_singleton] at ht;subst ht;refine⟨BQ.int 1 (by simpa using hB),by show(Zjn v).length≤w;rw [Zgn];omega,λj=>?_⟩;show gI (Zjn v) j≤1;rw [Zne];split<;>omega
 ·simp at ht
theorem GB.nil {B D v:Nat}:GB B D v []:=⟨.nil,λt h=>by simp at h⟩
structure FI (f:FS) (n D:Nat):Prop where
 D0:D≠0
 Dl:D < 65536 ^ (2*n+1)
 nv:f.vs.length≤64
 cs:∀c∈f.cs,GP n D f.vs.length c.1∧GP n D f.vs.length c.2
 ln:∀c∈f.cs,c.1.length≤4000∧c.2.length≤4000
theorem FI.at {f:FS} {n D:Nat} (h:FI f n D) (s:RS) (k:Nat):(GP n D f.vs.length (f.at s k).1∧GP n D f.vs.length (f.at s k).2)∧(f.at s k).1.length≤4000∧(f.at s k).2.length≤4000:=by
 unfold FS.at;by_cases hk:(gI s.ar k).toNat < f.cs.length
 ·have:=getD_mem (d:=(([],[]):Po × Po)) hk;exact⟨h.cs _ this,h.ln _ this⟩
 ·rw [List.getD_eq_getElem?_getD,List.getElem?_eq_none (by omega)];exact⟨⟨.nil,.nil⟩,by simp,by simp⟩
def RQ.bd (r:RQ):Prop:=r.ok=true→r.q.den < 65536 ^ 2∧r.q.num.natAbs < 65536 ^ 2
theorem FI.nxt {f:FS} {n D:Nat} (h:FI f n D) (i:Nat) (s:RS) (hr:s.k=2→s.r.ok=true) (hb:s.r.bd) :
 ∃E,E≠0∧D ∣ E∧E < 65536 ^ (2*(n+if s.k=1 then 0 else 1)+1) ∧
  GP (n+if s.k=1 then 0 else 1) E (f.vs++(f.nxt i s).1).length (f.nxt i s).2.1∧GP (n+if s.k=1 then 0 else 1) E (f.vs++(f.nxt i s).1).length (f.nxt i s).2.2:=by
 obtain⟨⟨a1,a2⟩,-⟩:=h.at s 0;obtain⟨⟨b1,b2⟩,-⟩:=h.at s 1;obtain⟨⟨c1,c2⟩,-⟩:=h.at s 2;have hB:=BB_pos n;have hS:=BB_succ n;unfold FS.nxt;simp only;have one:∀v w,v < w→GP n D w (varM v):=λv w hv=>GB.one hB hv;have up:∀{E v:Nat} {p:Po} {C:Nat},GB C E v p→C≤BB n*65536 ^ 3→GP (n+1) E v p:=λh hc=>GB.mono h (by rw [hS];exact hc) (Nat.dvd_refl _) (Nat.le_refl _);have dl:D < 65536 ^ (2*(n+1)+1):=Nat.lt_of_lt_of_le h.Dl (Nat.pow_le_pow_right (by omega) (by omega))
 have b3:BB n+(BB n+BB n)≤BB n*65536 ^ 3:=by
  have:BB n*3≤BB n*65536 ^ 3:=Nat.mul_le_mul_left _ (by decide);omega
 by_cases k1:s.k=1
 ·rw [if_pos k1,if_pos k1];refine⟨D,h.D0,Nat.dvd_refl _,h.Dl,?_⟩;split
  ·exact⟨.nil,.nil⟩
  ·split
   ·exact⟨one _ _ (by simp),.nil⟩
   ·exact⟨one _ _ (by simp),one _ _ (by simp)⟩
 ·rw [if_neg k1,if_neg k1];by_cases k2:s.k=2
  ·rw [if_pos k2];obtain⟨h1,h2⟩:=hb (hr k2);refine⟨D*s.r.q.den,Nat.mul_ne_zero h.D0 s.r.q.den_nz,Nat.dvd_mul_right _ _,?_,?_⟩
   ·calc D*s.r.q.den < 65536 ^ (2*n+1)*65536 ^ 2:=Nat.mul_lt_mul_of_lt_of_lt h.Dl h1
     _=65536 ^ (2*(n+1)+1):=by rw [←Nat.pow_add];congr 1
   ·have hq:BQ s.r.q.den (65536 ^ 2) s.r.q:=⟨Nat.dvd_refl _,by have:=s.r.q.den_pos;have:=Nat.le_mul_of_pos_right (65536 ^ 2) this;omega⟩
    have bd:BB n+(BB n+BB n)*65536 ^ 2≤BB n*65536 ^ 3:=by
     have e1:(BB n+BB n)*65536 ^ 2=BB n*(2*65536 ^ 2):=by rw [←Nat.mul_two,Nat.mul_assoc]
     rw [e1];have:BB n*(1+2*65536 ^ 2)≤BB n*65536 ^ 3:=Nat.mul_le_mul_left _ (by decide);omega
    rw [List.append_nil];exact⟨up ((GB.mono a1 (Nat.le_refl _) (Nat.dvd_mul_right _ _) (Nat.le_refl _)).add ((GB.sub b1 a1).scl hq)) bd,up ((GB.mono a2 (Nat.le_refl _) (Nat.dvd_mul_right _ _) (Nat.le_refl _)).add ((GB.sub b2 a2).scl hq)) bd⟩
  ·rw [if_neg k2];refine⟨D,h.D0,Nat.dvd_refl _,dl,?_⟩;have one':∀v w,v < w→GP (n+1) D w (varM v):=λv w hv=>GB.one (BB_pos _) hv;by_cases k3:s.k=3
   ·rw [if_pos k3,List.append_nil];exact⟨up (GB.add a1 (GB.sub c1 b1)) b3,up (GB.add a2 (GB.sub c2 b2)) b3⟩
   ·rw [if_neg k3];by_cases k4:s.k=4
    ·rw [if_pos k4,List.append_nil];exact⟨up (GB.add a1 (GB.sub b2 c2)) b3,up (GB.add a2 (GB.sub c1 b1)) b3⟩
    ·rw [if_neg k4];by_cases k5:s.k=5
     ·rw [if_pos k5];have e:(f.vs++[(1,(i:Int),0)]).length=f.vs.length+1:=by simp
      rw [e];exact⟨up (GB.add (GB.mono a1 (Nat.le_refl _) (Nat.dvd_refl _) (by omega)) (GB.sub b1 a1).var) b3,up (GB.add (GB.mono a2 (Nat.le_refl _) (Nat.dvd_refl _) (by omega)) (GB.sub b2 a2).var) b3⟩
     ·rw [if_neg k5];by_cases k6:s.k=6
      ·rw [if_pos k6];exact⟨one' _ _ (by simp),one' _ _ (by simp)⟩
      ·rw [if_neg k6];exact⟨one' _ _ (by simp),one' _ _ (by simp)⟩
def nfN (ss:List RS):Nat→Nat
 | 0=>0
 | i+1=>nfN ss i+if (ss.getD i ⟨0,.empty,[],⟨false,[],[]⟩⟩).k=1 then 0 else 1
end Go.Proofs.YtpkcophcldjboaaGreatDoor
namespace Go.Pg
open Go Go.RowKit
mutual
def AV.sh:AV→AV
 | .agg cs=>.agg (AV.shL cs)
 | .tup cs=>.tup (AV.shL cs)
 | .fn f cs=>.fn f (AV.shL cs)
 | .ifc t x=>.ifc t (AV.sh x)
 | .own k sv=>.own (k+1000) sv
 | .prow k sv m i off=>.prow (k+1000) sv m i off
 | .pbox k g off=>.pbox (k+1000) g off
 | .view k sv m i len=>.view (k+1000) sv m i len
 | .mp k g=>.mp (k+1000) g
 | .v x=>.v x
 | .sl m es=>.sl m es
 | .pimm cs=>.pimm cs
 | .u=>.u
def AV.shL:List AV→List AV
 | []=>[]
 | a :: r=>AV.sh a :: AV.shL r
end
theorem AV.shL_len:∀(l:List AV),(AV.shL l).length=l.length
 | []=>rfl
 | a :: r=>by simp only [AV.shL,List.length_cons,AV.shL_len r]
theorem AV.shL_at:∀(l:List AV) (j:Nat),(AV.shL l)[j]?=(l[j]?).map AV.sh
 | [],j=>by simp [AV.shL]
 | a :: r,0=>by simp [AV.shL]
 | a :: r,j+1=>by simp only [AV.shL,List.getElem?_cons_succ];exact AV.shL_at r j
theorem AV.sh_one (a:AV):a.sh.one=a.one:=by cases a<;>simp only [AV.sh]<;>rfl
theorem Sub.agg (aS bs:List AV) (hl:aS.length=bs.length) (h:∀(j:Nat) (a b:AV),aS[j]?=some a→bs[j]?=some b→Sub a b):Sub (.agg aS) (.agg bs):=λw imm x hx=>by
 obtain⟨vs,rfl,h1,h2⟩:=hx.agg_inv;refine .agg _ _ (by omega) λj b y hb hy=>?_;have hj:j < aS.length:=by rw [hl];exact(List.getElem?_eq_some_iff.1 hb).1
 exact h j aS[j] b (List.getElem?_eq_getElem hj) hb w imm y (h2 j aS[j] y (List.getElem?_eq_getElem hj) hy)
theorem Sub.fn (f:FuncId) (aS bs:List AV) (hl:aS.length=bs.length) (h:∀(j:Nat) (a b:AV),aS[j]?=some a→bs[j]?=some b→Sub a b):Sub (.fn f aS) (.fn f bs):=λw imm x hx=>by
 obtain⟨vs,rfl,h1,h2⟩:=hx.fn_inv;refine .fn _ _ _ (by omega) λj b y hb hy=>?_;have hj:j < aS.length:=by rw [hl];exact(List.getElem?_eq_some_iff.1 hb).1
 exact h j aS[j] b (List.getElem?_eq_getElem hj) hb w imm y (h2 j aS[j] y (List.getElem?_eq_getElem hj) hy)
theorem Sub.ifc (t:TypeId) {a b:AV} (h:Sub a b):Sub (.ifc t a) (.ifc t b):=λw imm x hx=>by
 obtain⟨y,rfl,h1⟩:=hx.ifc_inv;exact .ifc _ _ _ (h w imm y h1)
mutual
theorem AV.sub_sh:∀(a:AV),Sub a a.sh∧Sub a.sh a
 | .agg cs=>by
   have h:=AV.subL_sh cs;refine⟨Sub.agg _ _ (AV.shL_len cs).symm λj a b h1 h2=>?_,Sub.agg _ _ (AV.shL_len cs) λj a b h1 h2=>?_⟩
   ·rw [AV.shL_at,h1] at h2;cases h2;exact(h a (List.mem_of_getElem? h1)).1
   ·rw [AV.shL_at,h2] at h1;cases h1;exact(h b (List.mem_of_getElem? h2)).2
 | .tup cs=>by
   have h:=AV.subL_sh cs;refine⟨Sub.tup _ _ (AV.shL_len cs).symm λj a b h1 h2=>?_,Sub.tup _ _ (AV.shL_len cs) λj a b h1 h2=>?_⟩
   ·rw [AV.shL_at,h1] at h2;cases h2;exact(h a (List.mem_of_getElem? h1)).1
   ·rw [AV.shL_at,h2] at h1;cases h1;exact(h b (List.mem_of_getElem? h2)).2
 | .fn f cs=>by
   have h:=AV.subL_sh cs;refine⟨Sub.fn _ _ _ (AV.shL_len cs).symm λj a b h1 h2=>?_,Sub.fn _ _ _ (AV.shL_len cs) λj a b h1 h2=>?_⟩
   ·rw [AV.shL_at,h1] at h2;cases h2;exact(h a (List.mem_of_getElem? h1)).1
   ·rw [AV.shL_at,h2] at h1;cases h1;exact(h b (List.mem_of_getElem? h2)).2
 | .ifc t x=>⟨Sub.ifc t (AV.sub_sh x).1,Sub.ifc t (AV.sub_sh x).2⟩
 | .own k sv=>⟨Sub.own _ _ _,Sub.own _ _ _⟩
 | .prow k sv m i off=>⟨Sub.prow _ _ _ _ _ _,Sub.prow _ _ _ _ _ _⟩
 | .pbox k g off=>⟨Sub.pbox _ _ _ _,Sub.pbox _ _ _ _⟩
 | .view k sv m i len=>⟨Sub.view _ _ _ _ _ _,Sub.view _ _ _ _ _ _⟩
 | .mp k g=>⟨Sub.mp _ _ _,Sub.mp _ _ _⟩
 | .v x=>⟨Sub.refl _,Sub.refl _⟩
 | .sl m es=>⟨Sub.refl _,Sub.refl _⟩
 | .pimm cs=>⟨Sub.refl _,Sub.refl _⟩
 | .u=>⟨Sub.refl _,Sub.refl _⟩
theorem AV.subL_sh:∀(l:List AV) (a:AV),a∈l→Sub a a.sh∧Sub a.sh a
 | [],a,h=>by simp at h
 | b :: r,a,h=>by
   by_cases e:a=b
   ·rw [e];exact AV.sub_sh b
   ·exact AV.subL_sh r a ((List.mem_cons.1 h).resolve_left e)
end
def Ent.sh:Ent→Ent
 | .row sv e m es pub=>.row sv e m es pub
 | .box g e cs pub=>.box g e (AV.shL cs) pub
 | .map g es=>.map g es
theorem Ent.sh_blk (e:Ent):e.sh.blk=e.blk:=by cases e<;>rfl
theorem Ent.sh_ok {B:Nat} {w:World} {imm:Imm} {e:Ent} (h:EntOk B w imm e):EntOk B w imm e.sh:=by
 cases e with
 | row=>exact h
 | box g e cs pub =>
   obtain⟨cur,h1,h2,h3,h4,h5,h6,h7⟩:=h;refine⟨cur,h1,h2,by rw [AV.shL_len];exact h3,λx hx=>?_,λj a x ha hx=>?_,h6,λhp off ho=>h7 hp off (by rw [AV.shL_len] at ho;exact ho)⟩
   ·obtain⟨j,hj⟩:=List.mem_iff_getElem?.1 hx;rw [AV.shL_at] at hj;obtain⟨y,hy,rfl⟩:=Option.map_eq_some_iff.1 hj;rw [AV.sh_one];exact h4 y (List.mem_of_getElem? hy)
   ·rw [AV.shL_at] at ha;obtain⟨y,hy,rfl⟩:=Option.map_eq_some_iff.1 ha;exact(AV.sub_sh y).1 w imm x (h5 j y x hy hx)
 | map=>exact h
theorem Ent.of_sh {B:Nat} {w:World} {imm:Imm} {e:Ent} (h:EntOk B w imm e.sh):EntOk B w imm e:=by
 cases e with
 | row=>exact h
 | box g e cs pub =>
   obtain⟨cur,h1,h2,h3,h4,h5,h6,h7⟩:=h;refine⟨cur,h1,h2,by rw [AV.shL_len] at h3;exact h3,λx hx=>?_,λj a x ha hx=>?_,h6,λhp off ho=>h7 hp off (by rw [AV.shL_len];exact ho)⟩
   ·obtain⟨j,hj⟩:=List.mem_iff_getElem?.1 hx;have h8:=h4 x.sh (List.mem_of_getElem? (i:=j) (by rw [AV.shL_at,hj];rfl));rw [AV.sh_one] at h8;exact h8
   ·exact(AV.sub_sh a).2 w imm x (h5 j a.sh x (by rw [AV.shL_at,ha];rfl) hx)
 | map=>exact h
def Zd5 (σ:Mem):Mem:=λk=>if k < 1000 then none else (σ (k - 1000)).map Ent.sh
theorem Zco {σ:Mem} {k:Nat} {e:Ent} (h:σ k=some e):Zd5 σ (k+1000)=some e.sh:=by
 unfold Zd5;rw [if_neg (by omega),Nat.add_sub_cancel,h];rfl
theorem Zdw {σ:Mem} {k:Nat} (h:k < 1000):Zd5 σ k=none:=by unfold Zd5;rw [if_pos h]
def Agr (m σ:Mem):Prop:=∀k,m (k+1000)=(σ k).map Ent.sh
theorem Agr.start (σ:Mem):Agr (Zd5 σ) σ:=λk=>by unfold Zd5;rw [if_neg (by omega),Nat.add_sub_cancel]
theorem Agr.own {m σ:Mem} (h:Agr m σ) {t:Nat} {x:Option Ent} (ht:t < 1000):Agr (upd m t x) σ:=λk=>by
 rw [Zam,if_neg (by omega)];exact h k
theorem Agr.mark {m σ:Mem} (h:Agr m σ) {t:Nat} (ht:t < 1000):Agr (mark m t) σ:=h.own ht
theorem Agr.put {m σ:Mem} (h:Agr m σ) {t k:Nat} {e e':Ent} (ht:t=k+1000) (he:e'=e.sh):Agr (upd m t (some e')) (upd σ k (some e)):=λj=>by
 subst ht;subst he;rw [Zam,Zam];by_cases hj:j=k
 ·subst hj;rw [if_pos rfl,if_pos rfl];rfl
 ·rw [if_neg (by omega),if_neg hj];exact h j
theorem Agr.same {m σ:Mem} (h:Agr m σ) {t k:Nat} {e e':Ent} (ht:t=k+1000) (hk:σ k=some e) (he:e'=e.sh):Agr (upd m t (some e')) σ:=by
 have:=h.put (k:=k) (e:=e) ht he
 rwa [show upd σ k (some e)=σ from by funext j;rw [Zam];split;(subst_vars;exact hk.symm);rfl] at this
def BackS (R:AV→Mem→Prop) (b:AV) (m:Mem):Prop:=∃(r:AV) (σ':Mem),Sub b r∧R r σ'∧Agr m σ'
theorem Zu8 {R:AV→Mem→Prop} {b r:AV} {m σ':Mem} (h:Sub b r) (hR:R r σ') (ha:Agr m σ'):BackS R b m:=⟨r,σ',h,hR,ha⟩
theorem Zdu {P:Program} {f n:Nat} {fn:Func} {code:Code} {rs:List ResultVar} {args:List AV} {σ:Mem} {R:AV→Mem→Prop} (hf:P.funcs[f]?=some fn) (hb:fn.body=some code) (hn:fn.ntmps=n) (hrs:fn.results=rs.toArray)
 (hc:∀(vs:Array Value) (w:World),(callFunc f vs).run P w=.ok (.enter f vs) w) (hfit:Zbj n code=true) (hal:args.length≤n)
 (h:Za3 P 0 n code (Done P rs λst b=>BackS R b st.mem) ⟨λt=>(AV.shL args).getD t .u,Zd5 σ⟩):ACall P f args σ R:=by
 have key:=Zbu (σ:=Zd5 σ) (R:=BackS R) hf hb hn hrs hc hfit (by rw [AV.shL_len];exact hal) h;refine⟨hc,λc w imm vs hm hl hr=>?_⟩
 have hm':Mx c (Zd5 σ) w imm:=by
  refine⟨⟨λk e hk=>?_,λk k' e e' b h1 h2 h3 h4=>?_,hm.ok.lt,hm.ok.spot⟩,hm.below,hm.lt,hm.old,hm.new,hm.cells⟩
  ·unfold Zd5 at hk;split at hk
   ·cases hk
   ·obtain⟨e0,h0,rfl⟩:=Option.map_eq_some_iff.1 hk;exact Ent.sh_ok (hm.ok.ent _ _ h0)
  ·unfold Zd5 at h1 h2;split at h1
   ·cases h1
   ·split at h2
    ·cases h2
    ·obtain⟨e0,k0,rfl⟩:=Option.map_eq_some_iff.1 h1;obtain⟨e1,k1,rfl⟩:=Option.map_eq_some_iff.1 h2;rw [Ent.sh_blk] at h3 h4;have:=hm.ok.apart _ _ _ _ b k0 k1 h3 h4;omega
 refine(key.2 c w imm vs hm' (by rw [AV.shL_len];exact hl) λj a x h1 h2=>?_).mono λe w' he=>?_
 ·rw [AV.shL_at] at h1;obtain⟨y,hy,rfl⟩:=Option.map_eq_some_iff.1 h1;exact(AV.sub_sh y).1 w imm x (hr j y x hy h2)
 ·obtain⟨b,m,imm',x,rfl,⟨r,σ',h1,h2,h3⟩,h5,h6,h7⟩:=he;refine⟨r,σ',imm',x,rfl,h2,h1 _ _ _ h5,⟨⟨λk e hk=>?_,λk k' e e' b h1 h2 k3 k4=>?_,h6.ok.lt,h6.ok.spot⟩,h6.below,h6.lt,h6.old,h6.new,h6.cells⟩,h7⟩
  ·have:=h3 k;rw [hk] at this;exact Ent.of_sh (h6.ok.ent _ _ this)
  ·have e1:=h3 k;have e2:=h3 k';rw [h1] at e1;rw [h2] at e2;have:=h6.ok.apart _ _ _ _ b e1 e2 (by rw [Ent.sh_blk];exact k3) (by rw [Ent.sh_blk];exact k4);omega
theorem Frz.nilBox {n:Nat} {e:Nat→AV} {m:Mem} {k g:Nat} {bt:TypeId} {cs:List AV} (j t mm:Nat) (ty:TypeId) (hm:m k=some (.box g bt cs false)) (hj:cs[j]?=some (.v (.slice none 0 0))) (ht:t≠k) :
 Frz n ⟨e,m⟩ ⟨e,upd (upd m k (some (.box g bt (cs.set j (.own t (.slice none 0 0))) false))) t (some (.row (.slice none 0 0) ty mm [] 0))⟩:=by
 intro c a w imm h
 have h1:Mx c (upd m k (some (.box g bt (cs.set j (.own t (.slice none 0 0))) false))) w imm:=by
  have hk:=h.mem.ok.ent k _ hm;obtain⟨cur,k1,k2,k3,k4,k5,k6,k7⟩:=hk;refine(Zdf h.mem (World.grownBy.refl w none) (Nat.le_refl _) (by simp) (λ_ _=>rfl) k (.box g bt (cs.set j (.own t (.slice none 0 0))) false) ⟨cur,k1,k2,by simpa using k3,λx hx=>?_,λi a x ha hx=>?_,k6,λhp=>by cases hp⟩ λj2 e2 b h1 h2 h3=>⟨by simp,?_⟩).1
  ·rcases List.mem_or_eq_of_mem_set hx with h1 | h1
   ·exact k4 x h1
   ·subst h1;rfl
  ·rw [List.getElem?_set] at ha;split at ha
   ·rename_i hij;subst hij;split at ha
    ·simp only [Option.some.injEq] at ha;subst ha;have:=(k5 j _ x hj hx).v_inv;subst this;exact .own _ _ rfl
    ·cases ha
   ·exact k5 i a x ha hx
  ·show some g≠some b;intro hb;exact h1 (h.mem.ok.apart j2 k e2 _ b h2 hm h3 hb)
 refine⟨imm,h.env,h.size,h.defers,?_⟩;exact(Zdf h1 (World.grownBy.refl w none) (Nat.le_refl _) (by simp) (λ_ _=>rfl) t (.row (.slice none 0 0) ty mm [] 0) ⟨[],World.ownsRow_nil w c.B ty mm,by simp,by simp,by simp [flat],by simp,λad _ h2=>by simp [Value.ownBlock] at h2,λg off h1 _=>by simp [Value.ownBlock] at h1⟩ λj e2 b _ _ _=>⟨by simp,by simp [Ent.blk,Value.ownBlock]⟩).1
attribute [go_sem] AV.sh AV.shL Ent.sh
end Go.Pg
namespace Go.Pg
open Go Go.RowKit Go.Lib
section
variable {P:Program} {n:Nat}
theorem Zrj {x y:Code} {Q:AE→St→Prop} {st:St} (h:AWP P n x (AE.then (AWP P n y Q) Q) st):AWP P n (.seq x y) Q st:=λc a w imm hr=>by
 refine wp_seq (Code.wp_mono (λe a' w' hp=>?_) (h c a w imm hr));obtain⟨ae,st',imm',rfl,h2,h3⟩:=hp
 cases ae with
 | normal=>exact h2 c a' w' imm' h3
 | exit id=>exact⟨.exit id,st',imm',rfl,h2,h3⟩
 | ret=>exact⟨.ret,st',imm',rfl,h2,h3⟩
theorem Zty {o:Oper} {a:Act} {w w':World} {ops:Array Oper} {Qp:Exit→Act→World→Prop} {l:List Oper} {y:Value} (hg:o.guard=none) (hr:(execOp a.eval o).run P w=.ok (.value y) w') (h:wpList P ops Qp l (a.put o.dst y) w'):wpList P ops Qp (o :: l) a w:=by
 unfold wpList;rw [if_pos (by simp [Region.wanted,hg])];refine .inl ?_;unfold Oper.wp;rw [hr];exact h
theorem rebase {c:Cx} {e:Nat→AV} {a:Act} {w:World} {imm:Imm} (h:Rel c n ⟨e,Zag⟩ a w imm):Rel ⟨w.heap.size,w,imm⟩ n ⟨e,Zag⟩ a w imm :=
 ⟨h.env,h.size,h.defers,⟨⟨λk e hk=>by simp [Zag] at hk,λk k' e e' b hk=>by simp [Zag] at hk,h.mem.ok.lt,h.mem.ok.spot⟩,Blw.refl _ _,Nat.le_refl _,λ_ h1=>h1,λ_ h1=>.inl h1,λ_ _=>rfl⟩⟩
theorem unbase {c:Cx} {st':St} {a':Act} {w w':World} {imm imm':Imm} (hm:Mx c Zag w imm) (h:Rel ⟨w.heap.size,w,imm⟩ n st' a' w' imm') (h0:st'.mem=Zag):Rel c n st' a' w' imm':=by
 refine⟨h.env,h.size,h.defers,?_⟩;have hm':=h.mem;rw [h0] at hm' ⊢;exact⟨⟨λk e hk=>by simp [Zag] at hk,λk k' e e' b hk=>by simp [Zag] at hk,hm'.ok.lt,hm'.ok.spot⟩,hm.below.trans (hm'.below.mono hm.lt),Nat.le_trans hm.lt hm'.lt,λad h1=>hm'.old ad (hm.old ad h1),λad h1=>(hm'.new ad h1).elim (hm.new ad) (λh2=>.inr (Nat.le_trans hm.lt h2)),λad h1=>(hm'.cells ad (hm.old ad h1)).trans (hm.cells ad h1)⟩
structure ItS (c:Cx) (n:Nat) (s:ByteArray) (tI:Nat) (J:Nat→(Nat→AV)→Prop) (pos:Nat) (a:Act) (w:World):Prop where
 h:∃e imm g,Rel c n ⟨e,Zag⟩ a w imm∧w.heap[g]?=some (.stringIter s pos)∧c.B≤g∧(∀ad,imm ad→ad.block≠g)∧e tI=.v (.pointer (some ⟨g,0,none⟩))∧J pos e
theorem Zzr {s:ByteArray} {id1 id2 bid d1 tI d2 d3:Nat} {x:Operand} {ty1 ty2 ty3 ty4 tys:TypeId} {p1 p2 p3 p4:String} {f1 f2 f3 f4:Array Edge} {r2:Code} {Q:AE→St→Prop} {e:Nat→AV}
 (hx:St.ev ⟨e,Zag⟩ x=.v (.string s)) (hty:P.underlying tys=some .string) (h1:d1 < n) (hI:tI < n) (h2:d2 < n) (h3:d3 < n) (hne:tI≠d2) (hne3:tI≠d3) (hne1:d2≠d3) (hf:Zbj n r2=true)
 (J:Nat→(Nat→AV)→Prop) (h0:∀pv,J 0 (upd (upd e d1 (.v (.string s))) tI (.v pv)))
 (hstep:∀pos e pv,J pos e→e tI=.v pv→pos < s.size→Za3 P 0 n r2 (AE.then (λst'=>st'.mem=Zag∧J (pos+(Utf8.decode s pos).2) st'.env∧st'.env tI=.v pv) λae st'=>st'.mem=Zag∧AE.inBlock bid Q ae st')
  ⟨upd (upd e d2 (.tup [.v (.bool true),.v (.int .i64 pos),.v (.int .i32 (Utf8.decode s pos).1)])) d3 (.v (.bool true)),Zag⟩)
 (hw:∀pos,pos < s.size→0 < (Utf8.decode s pos).2)
 (hend:∀pos e pv,J pos e→e tI=.v pv→¬pos < s.size→Za3 P 0 n r2 (AE.then (λ_=>False) λae st'=>st'.mem=Zag∧AE.inBlock bid Q ae st')
  ⟨upd (upd e d2 (.tup [.v (.bool false)])) d3 (.v (.bool false)),Zag⟩) :
 AWP P n (.seq (.region id1 #[⟨some d1,.move x,ty1,p1,f1,none⟩,⟨some tI,.range tys (.tmp d1),ty2,p2,f2,none⟩] false)
  (.block bid (.loop (.seq (.region id2 #[⟨some d2,.next (.tmp tI) true,ty3,p3,f3,none⟩,⟨some d3,.extract (.tmp d2) 0,ty4,p4,f4,none⟩] false) r2)))) Q ⟨e,Zag⟩:=by
 intro c a w imm hr;refine wp_seq (wp_region_list ?_);have ex:=hr.ev x;rw [hx] at ex;have ex:=ex.v_inv;refine Zty rfl (y:=.string s) (w':=w) (by simp [execOp,ex]) ?_;have r1:=hr.step (dst:=some d1) (av:=.v (.string s)) (x:=.string s) (Keeps.refl w imm) hr.mem (λd hd=>by cases hd;exact h1) (.pure (.v _));have e1:=(r1.ev (.tmp d1))
 have e1:(a.put (some d1) (.string s)).eval (.tmp d1)=.string s:=by
  have h9:St.ev (St.put ⟨e,Zag⟩ (some d1) (.v (.string s))) (.tmp d1)=.v (.string s):=by simp [St.ev,St.put,Zam]
  rw [h9] at e1;exact e1.v_inv
 refine Zty rfl (y:=.pointer (some ⟨w.heap.size,0,none⟩)) (w':=w.iter s 0) (by
  simp only [execOp,e1];exact Zjp (run_range_string w tys s hty)) ?_
 have hcell:∀ad,imm ad→(w.iter s 0).cell? ad=w.cell? ad:=λad h9=>World.cell?_alloc_lt w _ ad (hr.mem.ok.lt ad h9);have hm2:Mx c Zag (w.iter s 0) imm:=⟨⟨λk e hk=>by simp [Zag] at hk,λk k' e e' b hk=>by simp [Zag] at hk,λad h9=>Nat.lt_of_lt_of_le (hr.mem.ok.lt ad h9) (World.grownBy_alloc w (.stringIter s 0) none).size,hr.mem.ok.spot⟩,
  hr.mem.below.grown (World.grownBy_alloc w (.stringIter s 0) none) (Nat.le_refl _) hr.mem.lt (λg hg=>by cases hg),Nat.le_trans hr.mem.lt (World.grownBy_alloc w (.stringIter s 0) none).size,hr.mem.old,hr.mem.new,λad h9=>(hcell ad (hr.mem.old ad h9)).trans (hr.mem.cells ad h9)⟩
 have r2':=r1.step (dst:=some tI) (av:=.v (.pointer (some ⟨w.heap.size,0,none⟩))) (x:=.pointer (some ⟨w.heap.size,0,none⟩)) (w':=w.iter s 0) (imm':=imm) (λad h9=>⟨h9,hcell ad h9⟩) hm2 (λd hd=>by cases hd;exact hI) (.pure (.v _));show(Code.block bid _).wp P (post c n Q) _ _;refine wp_block ?_;have start:ItS c n s tI J 0 ((a.put (some d1) (.string s)).put (some tI) (.pointer (some ⟨w.heap.size,0,none⟩))) (w.iter s 0) :=
  ⟨_,imm,w.heap.size,r2',World.iter_heap w s 0,hr.mem.lt,λad h9=>Nat.ne_of_lt (hr.mem.ok.lt ad h9),by simp [St.put,Zam],h0 _⟩
 generalize (a.put (some d1) (.string s)).put (some tI) (.pointer (some ⟨w.heap.size,0,none⟩))=a1 at start;generalize w.iter s 0=w1 at start;clear r2' r1 hm2 hcell e1 ex hr
 let Qp:Exit→Act→World→Prop:=Exit.inBlock bid (post c n Q)
 have lift:∀(ae:AE) (st':St) (a':Act) (w w':World) (imm imm':Imm),Mx c Zag w imm→Rel ⟨w.heap.size,w,imm⟩ n st' a' w' imm'→st'.mem=Zag→AE.inBlock bid Q ae st'→ae≠.normal→Qp ae.to a' w':=by
  intro ae st' a' w w' imm imm' hm hr h9 hq hn;have hr':=unbase hm hr h9
  cases ae with
  | normal=>exact absurd rfl hn
  | exit i =>
    show Exit.inBlock bid (post c n Q) (.exit i) a' w';simp only [AE.inBlock] at hq;by_cases hi:i=bid
    ·subst hi;rw [if_pos rfl] at hq;simp only [Exit.inBlock,if_true];exact⟨.normal,st',imm',rfl,hq,hr'⟩
    ·rw [if_neg hi] at hq;simp only [Exit.inBlock,if_neg hi];exact⟨.exit i,st',imm',rfl,hq,hr'⟩
  | ret=>exact⟨.ret,st',imm',rfl,hq,hr'⟩
 have round:∀pos a w,ItS c n s tI J pos a w→(Code.seq (.region id2 #[⟨some d2,.next (.tmp tI) true,ty3,p3,f3,none⟩,⟨some d3,.extract (.tmp d2) 0,ty4,p4,f4,none⟩] false) r2).wp P
  (Exit.then (λa w=>∃pos',ItS c n s tI J pos' a w∧s.size - pos' < s.size - pos) Qp) a w:=by
  rintro pos a w ⟨e,imm,g,hr,hg,hB,hng,heI,hJ⟩
  have eI:=hr.ev (.tmp tI)
  have eI:a.eval (.tmp tI)=.pointer (some ⟨g,0,none⟩):=by
   rw [show St.ev ⟨e,Zag⟩ (.tmp tI)=_ from heI] at eI;exact eI.v_inv
  refine wp_seq (wp_region_list ?_);have glt:g < w.heap.size:=(Array.getElem?_eq_some_iff.1 hg).1;by_cases hp:pos < s.size
  ·refine Zty rfl (y:=.tuple #[.bool true,.int .i64 pos,.int .i32 (Utf8.decode s pos).1]) (w':=w.iterAt g s (pos+(Utf8.decode s pos).2)) (by
    simp only [execOp,eI];exact Zjp (run_next_any_at w g s pos _ hg hp)) ?_
   have hgrow:w.grownBy (w.iterAt g s (pos+(Utf8.decode s pos).2)) (some g):=by
    refine⟨rfl,rfl,rfl,?_,λk hk hne=>?_⟩
    ·simp [World.iterAt]
    ·simp only [World.iterAt];rw [Array.getElem?_setIfInBounds_ne (λh9=>hne (by rw [h9]))]
   have hcell:∀ad,imm ad→(w.iterAt g s (pos+(Utf8.decode s pos).2)).cell? ad=w.cell? ad:=λad h9=>Zc5 hgrow (hr.mem.ok.lt ad h9) (λh8=>hng ad h9 (by cases h8;rfl));have hm2:Mx c Zag (w.iterAt g s (pos+(Utf8.decode s pos).2)) imm:=⟨⟨λk e hk=>by simp [Zag] at hk,λk k' e e' b hk=>by simp [Zag] at hk,λad h9=>Nat.lt_of_lt_of_le (hr.mem.ok.lt ad h9) hgrow.size,hr.mem.ok.spot⟩,
    hr.mem.below.grown hgrow (Nat.le_refl _) hr.mem.lt (λg' hg'=>by cases hg';exact hB),Nat.le_trans hr.mem.lt hgrow.size,hr.mem.old,hr.mem.new,λad h9=>(hcell ad (hr.mem.old ad h9)).trans (hr.mem.cells ad h9)⟩
   have q1:=hr.step (dst:=some d2) (av:=.tup [.v (.bool true),.v (.int .i64 pos),.v (.int .i32 (Utf8.decode s pos).1)]) (x:=.tuple #[.bool true,.int .i64 pos,.int .i32 (Utf8.decode s pos).1]) (imm':=imm) (λad h9=>⟨h9,hcell ad h9⟩) hm2 (λd hd=>by cases hd;exact h2)
    (.pure (.tup _ _ rfl λj a x k1 k2=>by
     match j with
     | 0=>simp at k1 k2;subst k1;subst k2;exact .v _
     | 1=>simp at k1 k2;subst k1;subst k2;exact .v _
     | 2=>simp at k1 k2;subst k1;subst k2;exact .v _
     | j+3=>simp at k1))
   have v2:=q1.env d2
   have v2:(a.put (some d2) (.tuple #[.bool true,.int .i64 pos,.int .i32 (Utf8.decode s pos).1])).eval (.tmp d2)=.tuple #[.bool true,.int .i64 pos,.int .i32 (Utf8.decode s pos).1]:=by
    show(a.put (some d2) _).tmps.getD d2 undef=_;rw [Act.put_getD a d2 _ (by rw [hr.size];exact h2),if_pos rfl]
   refine Zty rfl (y:=.bool true) (w':=w.iterAt g s (pos+(Utf8.decode s pos).2)) (by
    simp only [execOp,v2];simp [Instr.extract]) ?_
   have q2:=q1.step (dst:=some d3) (av:=.v (.bool true)) (x:=.bool true) (Keeps.refl _ imm) hm2 (λd hd=>by cases hd;exact h3) (.pure (.v _));have hst:=hstep pos e _ hJ heI hp;have q3:=rebase q2;refine Code.wp_mono (λee a' w' hpost=>?_) (Zbc r2 _ _ hf hst _ _ _ _ q3);obtain⟨ae,st',imm',rfl,hq,hrel⟩:=hpost
   cases ae with
   | normal =>
     obtain⟨hm,hJ',hpv⟩:=hq;have hr':=unbase hm2 hrel hm;refine⟨pos+(Utf8.decode s pos).2,⟨st'.env,imm',g,?_,?_,hB,λad h9=>?_,hpv,hJ'⟩,by have:=hw pos hp;omega⟩
     ·obtain⟨en,me⟩:=st';simp only at hm;subst hm;exact hr'
     ·rw [hrel.mem.below.block g (Nat.lt_of_lt_of_le glt hgrow.size)];exact iterAt_heap w g s pos _ hg
     ·rcases hrel.mem.new ad h9 with h8 | h8
      ·exact hng ad h8
      ·have:(w.iterAt g s (pos+(Utf8.decode s pos).2)).heap.size≤ad.block:=h8;have:=hgrow.size;omega
   | exit i=>exact lift (.exit i) st' a' _ w' imm imm' hm2 hrel hq.1 hq.2 (by simp)
   | ret=>exact lift .ret st' a' _ w' imm imm' hm2 hrel hq.1 hq.2 (by simp)
  ·refine Zty rfl (y:=.tuple #[.bool false]) (w':=w) (by
    simp only [execOp,eI];exact Zjp (run_next_end_at w g s pos _ hg hp)) ?_
   have q1:=hr.step (dst:=some d2) (av:=.tup [.v (.bool false)]) (x:=.tuple #[.bool false]) (Keeps.refl w imm) hr.mem (λd hd=>by cases hd;exact h2)
    (.pure (.tup _ _ rfl λj a x k1 k2=>by
     match j with
     | 0=>simp at k1 k2;subst k1;subst k2;exact .v _
     | j+1=>simp at k1))
   have v2:(a.put (some d2) (.tuple #[.bool false])).eval (.tmp d2)=.tuple #[.bool false]:=by
    show(a.put (some d2) _).tmps.getD d2 undef=_;rw [Act.put_getD a d2 _ (by rw [hr.size];exact h2),if_pos rfl]
   refine Zty rfl (y:=.bool false) (w':=w) (by
    simp only [execOp,v2];simp [Instr.extract]) ?_
   have q2:=q1.step (dst:=some d3) (av:=.v (.bool false)) (x:=.bool false) (Keeps.refl _ imm) hr.mem (λd hd=>by cases hd;exact h3) (.pure (.v _));have hst:=hend pos e _ hJ heI hp;have q3:=rebase q2;refine Code.wp_mono (λee a' w' hpost=>?_) (Zbc r2 _ _ hf hst _ _ _ _ q3);obtain⟨ae,st',imm',rfl,hq,hrel⟩:=hpost
   cases ae with
   | normal=>exact hq.elim
   | exit i=>exact lift (.exit i) st' a' _ w' imm imm' hr.mem hrel hq.1 hq.2 (by simp)
   | ret=>exact lift .ret st' a' _ w' imm imm' hr.mem hrel hq.1 hq.2 (by simp)
 intro b k cs;have key:∀m pos a w,s.size - pos=m→ItS c n s tI J pos a w →
  ∃ee a' w',Qp ee a' w'∧Arrives P (lone (b.at a (.code (Code.seq (.region id2 #[⟨some d2,.next (.tmp tI) true,ty3,p3,f3,none⟩,⟨some d3,.extract (.tmp d2) 0,ty4,p4,f4,none⟩] false) r2) :: .inLoop (Code.seq (.region id2 #[⟨some d2,.next (.tmp tI) true,ty3,p3,f3,none⟩,⟨some d3,.extract (.tmp d2) 0,ty4,p4,f4,none⟩] false) r2) :: k)) cs w) b k cs ee a' w':=by
  intro m
  induction m using Nat.strongRecOn with
  | _ m ih =>
    intro pos a w hm hI';obtain⟨ee,a₁,w₁,hq,harr⟩:=round pos a w hI' b (.inLoop _ :: k) cs
    cases ee with
    | normal =>
      obtain⟨pos',h8,h9⟩:=hq;obtain⟨e₂,a₂,w₂,hq₂,harr₂⟩:=ih (s.size - pos') (hm ▸ h9) pos' a₁ w₁ rfl h8;exact⟨e₂,a₂,w₂,hq₂,.of_steps (Steps.trans harr (.one step_inLoop)) harr₂⟩
    | exit id=>exact⟨.exit id,a₁,w₁,hq,.pass (x:=.inLoop _) rfl (λ_ _=>.inl (by simp)) harr⟩
    | goto l=>exact⟨.goto l,a₁,w₁,hq,.pass (x:=.inLoop _) rfl (λ_ _=>.inl (by simp)) harr⟩
    | ret=>exact⟨.ret,a₁,w₁,hq,.pass (x:=.inLoop _) rfl (λ_ _=>.inl (by simp)) harr⟩
    | panic ch=>exact⟨.panic ch,a₁,w₁,hq,.pass (x:=.inLoop _) rfl (λ_ _=>.inl (by simp)) harr⟩
    | outgrown=>exact⟨.outgrown,a₁,w₁,hq,.pass (x:=.inLoop _) rfl (λ_ _=>.inl (by simp)) harr⟩
 obtain⟨ee,a',w',hq,harr⟩:=key _ 0 a1 w1 rfl start;exact⟨ee,a',w',hq,.of_steps (.one step_loop) harr⟩
theorem Zqg {f:FuncId} {fn:Func} {code:Code} {rs:List ResultVar} {args:List AV} {r:AV} (hf:P.funcs[f]?=some fn) (hb:fn.body=some code) (hn:fn.ntmps=n) (hrs:fn.results=rs.toArray)
 (hc:∀(vs:Array Value) (w:World),(callFunc f vs).run P w=.ok (.enter f vs) w) (hal:args.length≤n)
 (h:AWP P n code (Done P rs λst=>Zwu st r) ⟨λt=>args.getD t .u,Zag⟩):Pure P f args r:=by
 refine⟨hc,λw imm vs himm hl hr=>?_⟩;refine calls_of_wp hf hb ?_
 let c:Cx:=⟨w.heap.size,w,imm⟩
 have hrel:Rel c n ⟨λt=>args.getD t .u,Zag⟩ { tmps:=vs++Array.replicate (fn.ntmps - vs.size) undef,defers:=[] } w imm:=by
  refine⟨λt=>?_,by simp [hn];omega,rfl,⟨⟨λk e hk=>by simp [Zag] at hk,λk k' e e' b hk=>by simp [Zag] at hk,λad h1=>(himm ad h1).1,λad h1=>(himm ad h1).2⟩,Blw.refl _ _,Nat.le_refl _,λ_ h1=>h1,λ_ h1=>.inl h1,λ_ _=>rfl⟩⟩;simp only [List.getD_eq_getElem?_getD];rcases Nat.lt_or_ge t args.length with ht | ht
  ·have ht2:t < vs.size:=by omega
   rw [List.getElem?_eq_getElem ht,Array.getD_eq_getD_getElem?,Array.getElem?_append_left ht2,Array.getElem?_eq_getElem ht2];exact .pure (hr t _ _ (List.getElem?_eq_getElem ht) (Array.getElem?_eq_getElem ht2))
  ·rw [List.getElem?_eq_none ht];exact .pure (.u _)
 refine Code.wp_mono (λe a' w' hp=>?_) (h c _ w imm hrel);obtain⟨ae,st',imm',rfl,hdone,hrel'⟩:=hp;have hret:=Znm hdone;have hae:∀id,ae≠.exit id:=by rintro id rfl;exact hdone
 obtain⟨y,b,hrun,⟨hpo,hpv⟩,hrs'⟩:=Zqa hrs hrel' hret;obtain⟨i2,hm2,hk2⟩:=Zc0 b.toks hrel'.mem;have hrd:=Zgt hm2 (hk2.rs hrs') hpo;rw [hpv] at hrd;have fin:a'.defers=[]∧∃v,(results fn a'.tmps).run P w'=.ok v w'∧(λe w'=>∃x imm',e=Ending.returned x∧Rd w' imm' r x∧(∀ad,imm ad→imm' ad)∧(∀ad,imm' ad→(imm ad∨w.heap.size≤ad.block)∧ad.block < w'.heap.size∧ad.spot=none)∧Blw w.heap.size w w') (Ending.returned v) w' :=
  ⟨hrel'.defers,y,hrun,y,i2,rfl,hrd,hm2.old,λad h1=>⟨hm2.new ad h1,hm2.ok.lt ad h1,hm2.ok.spot ad h1⟩,hm2.below⟩
 cases ae with
 | normal=>exact fin
 | ret=>exact fin
 | exit id=>exact absurd rfl (hae id)
theorem Zu1 (s:ByteArray) (i:Nat):0 < (Utf8.decode s i).2:=by
 unfold Utf8.decode;simp only
 repeat' split
 all_goals simp
end
end Go.Pg
namespace Go.Proofs.YtpkcophcldjboaaGreatDoor
open Go Go.RowKit Go.Pg Go.Proofs.Tryz
attribute [-bool_to_prop] Bool.and_eq_decide Bool.or_eq_decide Bool.decide_beq_decide decide_eq_decide
attribute [local go_sem] underlying3 underlying4 underlying5 underlying9 underlying45 sz3 by3 z3 Zbh Zcm zStr
def kwL:List ByteArray:=[
 ⟨#[97,110,103,108,101]⟩,
 ⟨#[97,112,101,120]⟩,
 ⟨#[98,105,115,101,99,116,111,114]⟩,
 ⟨#[99,101,110,116,101,114]⟩,
 ⟨#[99,105,114,99,108,101]⟩,
 ⟨#[99,105,114,99,117,109]⟩,
 ⟨#[99,111,108,108,105,110,101,97,114]⟩,
 ⟨#[99,111,109,109,111,110]⟩,
 ⟨#[99,111,110,99,121,99,108,105,99]⟩,
 ⟨#[99,111,110,103,114,117,101,110,116]⟩,
 ⟨#[99,114,111,115,115]⟩,
 ⟨#[99,117,116]⟩,
 ⟨#[100,105,118,105,100,101]⟩,
 ⟨#[102,111,111,116]⟩,
 ⟨#[108,105,110,101]⟩,
 ⟨#[109,101,101,116]⟩,
 ⟨#[109,105,100,112,111,105,110,116]⟩,
 ⟨#[109,105,114,114,111,114]⟩,
 ⟨#[111,110]⟩,
 ⟨#[111,116,104,101,114]⟩,
 ⟨#[112,97,114,97,108,108,101,108]⟩,
 ⟨#[112,101,114,112,101,110,100,105,99,117,108,97,114]⟩,
 ⟨#[112,111,105,110,116,115]⟩,
 ⟨#[112,114,111,118,101]⟩,
 ⟨#[114,97,116,105,111]⟩,
 ⟨#[114,101,102,108,101,99,116]⟩,
 ⟨#[115,97,109,101]⟩,
 ⟨#[115,104,105,102,116]⟩,
 ⟨#[116,117,114,110]⟩]
def letB (c:Nat):Bool:=decide (97≤c∧c≤122) || decide (65≤c∧c≤90)
def digB (c:Nat):Bool:=decide (48≤c∧c≤57)
def gB (s:ByteArray) (k:Nat):Nat:=(s.data.toList.getD k 0).toNat
theorem gB_lt (s:ByteArray) (k:Nat):gB s k < 256:=UInt8.toNat_lt _
def namB (s:ByteArray):Bool:=decide (0 < s.size∧s.size≤20) && (letB (gB s 0) && ((List.range s.size).all (λk=>letB (gB s k) || digB (gB s k)) && !(kwL.any λw=>w.toList == s.toList)))
theorem Zj9 (s:ByteArray):(s.toList == (⟨#[]⟩:ByteArray).toList)=decide (s.size=0):=by
 rw [ByteArray.toList_eq,ByteArray.toList_eq,Bool.eq_iff_iff,beq_iff_eq,decide_eq_true_eq];constructor
 ·intro h;have:=congrArg List.length h;exact this
 ·intro h;exact List.length_eq_zero_iff.1 h
theorem gB_at (s:ByteArray) (k:Nat):((s.data.toList.getD k 0).toNat:Int)=(gB s k:Int):=rfl
theorem Zl3 (s:ByteArray):∀n,n≤s.size→∃k,k≤n∧(∀j,j < k→(letB (gB s j) || digB (gB s j))=true)∧(k < n→(letB (gB s k) || digB (gB s k))=false)
 | 0,_=>⟨0,by omega,λj h=>by omega,λh=>by omega⟩
 | n+1,h=>by
   obtain⟨k,h1,h2,h3⟩:=Zl3 s n (by omega);by_cases hk:k < n
   ·exact⟨k,by omega,h2,λ_=>h3 hk⟩
   ·have:k=n:=by omega
    subst this
    cases hb:(letB (gB s k) || digB (gB s k)) with
    | true=>exact⟨k+1,by omega,λj hj=>by by_cases e:j=k;rw [e];exact hb;exact h2 j (by omega),λh=>by omega⟩
    | false=>exact⟨k,by omega,h2,λ_=>hb⟩
theorem rnKeys:Pure prog 220 [] (.sl 1 (kwL.map strA)):=by
 unfold kwL;refine Zaa (tok:=0) func220 rfl ntmps220 results220 call220 (by rfl) (by simp) ?_;(focus (refine wklp w_t w_t w_t (w_r 0) ?_;(repeat' first|exact w_t|apply w_l);all_goals intros))
theorem Zr4 (c:Nat) (hc:c < 256):Pure prog 218 [.v (.int .u8 (c:Int))] (.v (.bool (letB c))):=by
 unfold letB;refine Zaa (tok:=0) func218 rfl ntmps218 results218 call218 (by rfl) (by simp) ?_;(focus (refine wklp w_t w_t w_t (w_r 0) ?_;(repeat' first|exact w_t|apply w_l);all_goals intros))
theorem rnDigit (c:Nat) (hc:c < 256):Pure prog 219 [.v (.int .u8 (c:Int))] (.v (.bool (digB c))):=by
 unfold digB;refine Zaa (tok:=0) func219 rfl ntmps219 results219 call219 (by rfl) (by simp) ?_;(focus (refine wklp w_t w_t w_t (w_r 0) ?_;(repeat' first|exact w_t|apply w_l);all_goals intros))
end Go.Proofs.YtpkcophcldjboaaGreatDoor
namespace Go.Proofs.YtpkcophcldjboaaGreatDoor
open Go Go.RowKit Go.Pg Go.Pol Go.Proofs.Tryz
attribute [-bool_to_prop] Bool.and_eq_decide Bool.or_eq_decide Bool.decide_beq_decide decide_eq_decide
def arS (k:Int):Int :=
 if k=1 then 0 else if k=2∨k=5∨k=6∨k=14 then 2 else if k=3∨k=4∨k=7∨k=8∨k=10∨k=11 then 3 else if k=9∨k=12∨k=13 then 4 else -1
def arG (k:Int):Int :=
 if k=8 then 2 else if k=1∨k=5 then 3 else if k=2∨k=3∨k=4∨k=6∨k=9 then 4 else if k=7 then 8 else 0
def outB (n:Int) (l:List Int):Bool:=l.any λa=>decide (a < 0) || decide (n≤a)
abbrev RS.zero:RS:=⟨0,.empty,[],⟨false,[],[]⟩⟩
def errS (ss:List RS) (i:Nat):Int :=
 let s:=ss.getD i RS.zero
 if arS s.k < 0 then 8
 else if (s.ar.length:Int)≠arS s.k then 1
 else if outB (i:Int) s.ar=true then 2
 else if (s.k=2∧s.r.ok=false)∨(s.k≠2∧s.r.none=false) then 1
 else if s.nm.size=0 then 0
 else if namB s.nm=false then 6
 else if (ss.take i).any (λt=>t.nm.toList == s.nm.toList)=true then 7
 else 0
def errG (g:RG) (n:Nat):Int :=
 if arG g.k=0 then 8
 else if (g.ar.length:Int)≠arG g.k then 1
 else if outB (n:Int) g.ar=true then 2
 else if (g.k=9∧g.r.ok=false)∨(g.k≠9∧g.r.none=false) then 1
 else 0
def fstE (f:Nat→Int):Nat→Int
 | 0=>0
 | n+1=>if fstE f n≠0 then fstE f n else f n
theorem Ziq {f:Nat→Int}:∀{n:Nat},(∀j,j < n→f j=0)→fstE f n=0
 | 0,_=>rfl
 | n+1,h=>by
   unfold fstE;rw [if_neg (by rw [Ziq λj hj=>h j (by omega)];simp)];exact h n (by omega)
theorem Zrb {f:Nat→Int} {i:Nat} (h:∀j,j < i→f j=0) (hi:f i≠0):∀{n:Nat},i < n→fstE f n=f i
 | 0,hn=>by omega
 | n+1,hn=>by
   unfold fstE;by_cases e:i=n
   ·subst e;rw [if_neg (by rw [Ziq h];simp)]
   ·have:=Zrb h hi (n:=n) (by omega);rw [this,if_pos hi]
theorem Znf {f:Nat→Int}:∀{n:Nat},fstE f n=0→∀j,j < n→f j=0
 | 0,_,j,hj=>by omega
 | n+1,h,j,hj=>by
   unfold fstE at h;split at h
   ·rename_i h1;exact absurd h h1
   ·rename_i h1;by_cases e:j=n
    ·subst e;exact h
    ·exact Znf (n:=n) (by rcases Decidable.em (fstE f n=0) with h2 | h2;exact h2;exact absurd h2 h1) j (by omega)
def figE (ss:List RS) (gs:List RG):Int :=
 if 40 < ss.length∨8 < gs.length then 4
 else if fstE (errS ss) ss.length≠0 then fstE (errS ss) ss.length
 else fstE (λi=>errG (gs.getD i ⟨0,[],⟨false,[],[]⟩⟩) ss.length) gs.length
def frame (ss:List RS) (gs:List RG):List (Po × Po) × List Vt × Int :=
 if figE ss gs≠0 then ([],[],figE ss gs)
 else if (List.range ss.length).any (bigN ss)=true then ([],[],4)
 else ((frN ss ss.length).cs,(frN ss ss.length).vs,0)
theorem Zw1 {n:Int} {l:List Int} (h:outB n l=false) {k:Nat} (hk:k < l.length):0≤gI l k∧gI l k < n:=by
 unfold outB at h;rw [List.any_eq_false] at h;have:=h (gI l k) (by rw [Zfk hk];exact List.getElem_mem hk);simp only [Bool.or_eq_true,decide_eq_true_eq] at this;omega
theorem Znk {ss:List RS} {i:Nat} (hi:i < ss.length) (h:errS ss i=0):0≤arS ss[i].k∧(ss[i].ar.length:Int)=arS ss[i].k∧(∀k,k < ss[i].ar.length→0≤gI ss[i].ar k∧gI ss[i].ar k < (i:Int))∧(ss[i].k=2→ss[i].r.ok=true):=by
 unfold errS at h;rw [show ss.getD i RS.zero=ss[i] from by rw [List.getD_eq_getElem?_getD,List.getElem?_eq_getElem hi];rfl] at h;generalize ss[i]=s at *;simp only at h;split at h
 ·omega
 ·split at h
  ·omega
  ·split at h
   ·omega
   ·split at h
    ·omega
    ·rename_i h1 h2 h3 h4;refine⟨by omega,by omega,λk hk=>Zw1 (by simpa using h3) hk,λh5=>?_⟩
     cases h6:s.r.ok with
     | true=>rfl
     | false=>exact absurd (.inl ⟨h5,h6⟩) h4
attribute [local go_sem] underlying3 underlying4 underlying54 underlying52 underlying50 sz3 by3 z3 Zas zRat Zay zInt Zax zNat
theorem Ze8 {q:Rat}:(q.num.sign=0)=(q=0):=by rw [Int.sign_eq_zero_iff_zero,Rat.num_eq_zero]
section
attribute [local go_sem] underlying3 underlying4 underlying54 underlying52 underlying50 sz3 by3 z3 Zas zRat Zay zInt Zax zNat
end
end Go.Proofs.YtpkcophcldjboaaGreatDoor
namespace Go.Proofs.YtpkcophcldjboaaGreatDoor
open Go Go.RowKit Go.Pg Go.Proofs.Tryz
attribute [-bool_to_prop] Bool.and_eq_decide Bool.or_eq_decide Bool.decide_beq_decide decide_eq_decide
attribute [local go_sem] underlying3 underlying2 underlying160 underlying128 underlying4 underlying54 underlying50 underlying52 sz3 by3 z3 szL byL zL Zas zRat Zax zNat Zay zInt
theorem intOfM:Pure prog 116 [iv (-1)] (intZ (-1)):=by
 have hm:=Zi4 true 1 (by rw [Zfu];omega);have hn:=natOf 1 (by omega);rw [show zI true 1=-1 from rfl] at hm;rw [show intZ (-1)=.agg [.v (.bool true),lim (toL 1)] from rfl] at hm ⊢;generalize toL 1=l at *;refine Zaa (tok:=0) func116 rfl ntmps116 results116 call116 (by rfl) (by simp) ?_;(focus (refine wklp w_t (w_2 hn hm) w_t (w_r 0) ?_;(repeat' first|exact w_t|apply w_l);all_goals intros))
theorem ratOfM:Pure prog 56 [iv (-1)] (ratQ (-1)):=by
 have c:=intOfM;rw [show intZ (-1)=.agg [.v (.bool true),lim (toL 1)] from rfl] at c;rw [show ratQ (-1)=.agg [.v (.bool true),lim (toL 1),lim (toL 1)] from rfl];have u:=Zqe;generalize toL 1=l at *;refine Zaa (tok:=0) func56 rfl ntmps56 results56 call56 (by rfl) (by simp) ?_;(focus (refine wklp w_t (w_2 c u) w_t (w_r 0) ?_;(repeat' first|exact w_t|apply w_l);all_goals intros))
end Go.Proofs.YtpkcophcldjboaaGreatDoor
namespace Go.Proofs.YtpkcophcldjboaaGreatDoor
open Go Go.RowKit Go.Pg Go.Pol Go.Proofs.Tryz
attribute [-bool_to_prop] Bool.and_eq_decide Bool.or_eq_decide Bool.decide_beq_decide decide_eq_decide
section
attribute [local go_sem] underlying3 underlying4 underlying54 underlying52 underlying50 sz3 by3 z3 Zas zRat Zay zInt Zax zNat
end
attribute [local go_sem] underlying3 underlying4 underlying54 underlying52 underlying50 sz3 by3 z3 Zas zRat Zay zInt Zax zNat
theorem qSign (q:Rat) {k:Nat} (h:Sz q k) (hk:k≤10000000):Pure prog 102 [ratQ q] (.v (.int .i64 q.num.sign)):=by
 have c:=zSign q.num (by have:=h.1;omega);have cn:=qNorm q h hk;generalize q.num.sign=z at *;refine Zaa (tok:=0) func102 rfl ntmps102 results102 call102 (by rfl) (by simp) ?_;(focus (refine wklp w_t (w_2 cn c) w_t (w_r 0) ?_;(repeat' first|exact w_t|apply w_l);all_goals intros))
attribute [local go_sem] underlying128 underlying39 underlying55 underlying57 underlying26 underlying27 szB zB Zah Zan Zai Bool.and_self Zal Za7 zSlQ szQT byQT zQT Za9 zSlT szQP zQP
abbrev QTs:=List (Rat × List Qt)
abbrev qpA (p:QTs):AV:=.sl 4 (p.map qtA)
abbrev Za6 (p q:QTs):QTs:=addP (λx y=>ordQ y x < 0) p q
def QK (p:QTs) (j n:Nat):Prop:=∀t∈p,Sz t.1 j∧t.2.length≤n
theorem QK.mono {p:QTs} {j n k m:Nat} (h:QK p j n) (hj:j≤k) (hn:n≤m):QK p k m:=λt ht=>⟨(h t ht).1.mono hj,Nat.le_trans (h t ht).2 hn⟩
theorem Zx7 {p q:QTs} {i k:Nat} (hi:i < p.length) (hk:k < q.length):Za6 (p.drop i) (q.drop k) =
 if ordQ p[i].2 q[k].2 < 0 then p[i] :: Za6 (p.drop (i+1)) (q.drop k) else if ordQ q[k].2 p[i].2 < 0 then q[k] :: Za6 (p.drop i) (q.drop (k+1))
 else if p[i].1+q[k].1=0 then Za6 (p.drop (i+1)) (q.drop (k+1)) else (p[i].1+q[k].1,p[i].2) :: Za6 (p.drop (i+1)) (q.drop (k+1)):=by
 rw [List.drop_eq_getElem_cons hi,List.drop_eq_getElem_cons hk];rw [show Za6 (p[i] :: p.drop (i+1)) (q[k] :: q.drop (k+1))=_ from by unfold Za6;rw [addP]]
theorem Zio {p q:QTs} {i k:Nat} (h:p.length≤i∨q.length≤k):Za6 (p.drop i) (q.drop k)=p.drop i++q.drop k:=by
 rcases h with h | h
 ·rw [List.drop_eq_nil_of_le h];simp [Za6,addP]
 ·rw [List.drop_eq_nil_of_le h,List.append_nil];exact Ztt _
theorem join_QK {p q:QTs} {j k n:Nat} (hp:QK p j n) (hq:QK q k n):QK (Za6 p q) (j+k+1) n:=λt ht=>by
 rcases Zgx ht with h | h | ⟨s,hs,u,hu,rfl⟩
 ·exact⟨(hp t h).1.mono (by omega),(hp t h).2⟩
 ·exact⟨(hq t h).1.mono (by omega),(hq t h).2⟩
 ·exact⟨(hp s hs).1.add (hq u hu).1,(hp s hs).2⟩
theorem Zw4 (l m:List Qt):(ordQ l m=-1∧ordQ l m < 0)∨(ordQ l m=0∧¬ordQ l m < 0∧¬ordQ m l < 0)∨(ordQ l m=1∧¬ordQ l m < 0∧ordQ m l < 0):=by
 have hf:=Zbk.flip m l
 have h3:ordQ l m=-1∨ordQ l m=0∨ordQ l m=1:=by
  unfold ordQ ordL;split
  ·exact .inl rfl
  ·split
   ·exact .inr (.inr rfl)
   ·clear hf;rename_i h1 h2;clear h1 h2
    induction l generalizing m with
    | nil=>cases m<;>simp [lexL]
    | cons a l ih=>cases m with
      | nil=>simp [lexL]
      | cons b m =>
        rw [Zb1];split
        ·exact ih m
        ·rcases Zg2 a b with⟨h,_⟩ | ⟨h,_⟩ | ⟨h,_⟩
         ·exact .inl h
         ·exact .inr (.inl h)
         ·exact .inr (.inr h)
 rcases h3 with h | h | h
 ·exact .inl ⟨h,by omega⟩
 ·exact .inr (.inl ⟨h,by omega,by omega⟩)
 ·exact .inr (.inr ⟨h,by omega,by omega⟩)
end Go.Proofs.YtpkcophcldjboaaGreatDoor
