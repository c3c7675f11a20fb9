/- Contracts of the functions that the law reaches, and the rules by which they are walked. They say what a call hands back for every input within the bounds that each names; no other condition. -/
import Derived.Test.YtenfejhaohihoaaGreatBm4
set_option linter.unusedSimpArgs false
set_option linter.unusedVariables false
set_option maxRecDepth 20000
set_option maxHeartbeats 16000000
namespace Go.Proofs.YtenfejhaohihoaaGreat
open Go Go.RowKit Go.Pg Go.Proofs.Tryz
attribute [-bool_to_prop] Bool.and_eq_decide Bool.or_eq_decide Bool.decide_beq_decide decide_eq_decide
attribute [go_sem] underlying9 underlying5 underlying232
theorem Zpi (x:Nat) (hx:x < 65536):Pure prog 225 [.v (.int .u16 (x:Int))] (.v (.int .i64 (Zfh x:Nat))):=by
 refine Zaa (tok:=0) (rs:=[.tmp 2]) func225 rfl ntmps225 results225 call225 zr zs ?_;by_cases h:256≤x
 ·have b:=Zmu (i:=x/256) zo;have e:Zfh x=8+len8 (x/256):=Zx5 h
  (repeat' (first|(apply o_tab (g:=len8) (n:=256) zk zk zo)|(with_reducible first|refine stp ?_|apply gx1|apply gx2|apply gx3|apply gx4|apply gx5|apply gx6|apply gx7)|(with_reducible refine Zcv ?_;intro _)|((with_reducible refine gE ?_);(try simp (disch:=omega) only [go_sem])<;>first|rfl|omega)|with_reducible refine Zag zd ?_))
  simp (disch:=omega) only [go_sem,e,Int.natCast_add,Int.cast_ofNat_Int]
 ·have b:=Zmu (i:=x) zo;have e:Zfh x=len8 x:=Zx4 h
  (repeat' (first|(apply o_tab (g:=len8) (n:=256) zk zk zo)|(with_reducible first|refine stp ?_|apply gx1|apply gx2|apply gx3|apply gx4|apply gx5|apply gx6|apply gx7)|(with_reducible refine Zcv ?_;intro _)|((with_reducible refine gE ?_);(try simp (disch:=omega) only [go_sem])<;>first|rfl|omega)|with_reducible refine Zag zd ?_))
  simp (disch:=omega) only [go_sem,e,Zyh]
theorem bitsLz16 (x:Nat) (hx:x < 65536):Pure prog 234 [.v (.int .u16 (x:Int))] (.v (.int .i64 ((16 - Zfh x:Nat):Int))):=by
 refine Zaa (tok:=0) (rs:=[.tmp 2]) func234 rfl ntmps234 results234 call234 zr zs ?_;have b:=Zio hx;have w:(16:Int) - (Zfh x:Int)=((16 - Zfh x:Nat):Int):=zo
 (refine wkvp (w_1 w) (w_1 (Zpi x hx)) (w_s ?_);intros)
 simp (disch:=omega) only [go_sem]
def Znd (n:Nat):Nat:=if n=0 then 0 else 16*((toL n).length - 1)+Zfh (gN (toL n) ((toL n).length - 1))
theorem Zhl {n:Nat}:Znd n=0↔n=0:=by
 constructor
 ·intro h;unfold Znd at h;split at h
  ·assumption
  ·rename_i h0;have h1:=Zer h0;have:=(Zio (Zbw (Zal n) ((toL n).length - 1))).2 h1.2;omega
 ·rintro rfl;rfl
theorem natBits (l:List Nat) (hs:l.length≤10000000000000) (hl:Lm l):Pure prog 188 [lim l] (.v (.int .i64 (Znd (nv l):Nat))):=by
 have h1:=Zan hl;refine Zaa (tok:=0) (rs:=[.tmp 2]) func188 rfl ntmps188 results188 call188 zr zs ?_;by_cases h0:nv l=0
 ·have h2:=Za8.2 h0;have h3:=Zhl.2 h0
  (refine wkvp (w_1 h2) (w_1 (Zay l hs hl)) (w_s ?_);intros)
  simp (disch:=omega) only [go_sem,h3];rfl
 ·obtain⟨h2,h3⟩:=Zer h0;have hb:Znd (nv l)=16*((toL (nv l)).length - 1)+Zfh (gN (toL (nv l)) ((toL (nv l)).length - 1)):=Zx4 h0;have b:=Zio (Zbw (Zal (nv l)) ((toL (nv l)).length - 1));have w:(16:Int)*(((toL (nv l)).length:Int) - 1)+(Zfh (gN (toL (nv l)) ((toL (nv l)).length - 1)):Nat)=(Znd (nv l):Nat):=zo
  (repeat' (first|(with_reducible first|refine stp ?_|apply gx1|apply gx2|apply gx3|apply gx4|apply gx5|apply gx6|apply gx7|refine gw0 (Zay l hs hl) ?_ ?_|refine gw0 (Zpi (gN (toL (nv l)) ((toL (nv l)).length - 1)) (Zbw (Zal (nv l)) _)) ?_ ?_)|(with_reducible refine Zcv ?_;intro _)|((with_reducible refine gE ?_);(try simp (disch:=omega) only [go_sem,w])<;>first|rfl|omega)|with_reducible refine Zag zd ?_))
  simp (disch:=omega) only [go_sem,w]
theorem Zwf (a:List Nat) (d:Nat) (ha:a.length≤10000000000000) (la:Lm a) (hd0:0 < d) (hd:d < 65536):Pure prog 233 [lim a,.v (.int .u16 (d:Int))] (.tup [lim (toL (nv a/d)),.v (.int .u16 ((nv a%d:Nat):Int))]):=by
 refine Zaa (tok:=0) (rs:=[.tmp 4,.tmp 5]) func233 rfl ntmps233 results233 call233 zr zs ?_
 (refine wkvp w_t w_t (w_s ?_);intros)
 refine Zad (ι:=Nat) (λk e m=>k≤a.length∧(e 0=lim a∧e 1=.v (.int .u16 (d:Int))∧e 8=.v (.int .i64 ((k:Int) - 1)))∧∃sv q r,(e 6=.own 11 sv∧e 7=.v (.int .u32 (r:Nat))∧m 11=some (.row sv 184 1 (u16s q) 0))∧q.length=a.length∧Lm q∧r < d∧(∀j,j < k→gN q j=0)∧nv (a.drop k)=d*nv (q.drop k)+r) (λk=>k) a.length zr ?_ ?_
 ·rintro k e m ⟨hk,⟨e0,e1,e8⟩,sv,q,r,⟨e6,e7,em⟩,hql,hLq,hr,hz,hv⟩
  by_cases h0:k=0
  ·subst h0;rw [Zz6,Zz6] at hv;have h2:nv a/d=nv q:=by rw [hv,Nat.mul_add_div hd0,ZCt hr,Zzf]
   have h3:nv a%d=r:=by rw [hv,Nat.mul_add_mod,ZAd hr]
   (refine wkax (w_7 e0 e1 e8 e6 e7 em hql) w_t w_t (w_1 (Zay q zo hLq)) w_t w_t w_y (w_r 0) (w_s ?_);intros)
   simp (disch:=omega) only [go_sem,h2,h3]
  ·have ga:=Zbw la (k - 1);have hd1:=div_step (x:=gN a (k - 1)) rfl hv
   have w1:(r*65536+gN a (k - 1))/d < 65536:=by
    rw [ZA7 hd0];have:(r+1)*65536≤d*65536:=Zy5 _ hr;rw [Zy9 65536 d];omega
   have w2:(r*65536+gN a (k - 1))%d < d:=Zzu _ hd0;have hk1:k - 1+1=k:=zo;have hrr:r < 65536:=zo;have w3:((r*65536+gN a (k - 1))/d)%65536=(r*65536+gN a (k - 1))/d:=ZAd w1
   (refine wkvp (w_11 e0 e1 e8 e6 e7 em hql @Zdh @Zd8 @Zbd w3) w_t (w_s ?_);intros)
   refine⟨k - 1,⟨zo,⟨gW e0,gW e1,by(simp (disch:=omega) only [go_sem,e8];congr 2;omega)⟩,sv,_,_,⟨gW e6,gC,gC⟩,by simpa using hql,hLq.set _ w1,w2,λj hj=>?_,?_⟩,zo⟩
   ·rw [Zfz zo,Zx4 zo];exact hz j zo
   ·rw [Zb2,hk1,hd1,Zb2 (q.set _ _),hk1,Zfz zo,Zx5 rfl,List.drop_set_of_lt zo]
 ·exact⟨Zx7 _,gC,_,List.replicate a.length 0,0,⟨gC,gC,gC⟩,by simp,Lm.zeros _,hd0,λj hj=>Zhi _ _,by rw [Zzw (Zx7 _),Zzw zs];simp [nv]⟩
theorem natUint (l:List Nat) (hs:l.length≤10000000000000) (hl:Lm l):Pure prog 231 [lim l] (.tup [.v (.int .u64 (if nv l < 18446744073709551616 then (nv l:Int) else 0)),.v (.bool (decide (nv l < 18446744073709551616)))]):=by
 have h1:=Zan hl;have hk:=Zac (n:=nv l) (k:=4);have va:=Zak (nv l);have ma:=Zal (nv l);refine Zaa (tok:=0) (rs:=[.tmp 2,.tmp 3]) func231 rfl ntmps231 results231 call231 zr zs ?_;by_cases hb:nv l < 18446744073709551616
 ·have h4:=hk.2 hb;generalize hA:toL (nv l)=A at *
  (refine wkvp (w_1 hA) (w_1 (Zay l hs hl)) (w_s ?_);intros)
  rw [hA];refine Zad (ι:=Nat) (λk e m=>k≤A.length∧(e 12=lim A∧e 13=.v (.int .i64 A.length)∧e 14=.v (.int .i64 k)∧e 4=.v (.int .u64 (nv (A.take k):Nat)))) (λk=>A.length - k) 0 zr ?_ ?_
  ·rintro k e m ⟨hk,⟨e12,e13,e14,e4⟩⟩
   have ga:=Zbw ma k;by_cases hlt:k < A.length
   ·have b1:nv (A.take k) < 65536 ^ k:=Zzz (Zhp (ma.take k)) (Zzj zo (by rw [Zyp];omega));rw [Zn7] at b1;have w:=orS_64 (n:=nv (A.take k)) (x:=gN A k) (s:=16*k) b1 zo ga;rw [←Zn7,←Zaq,Zn7] at w
    have w2:shlI .u64 (gN A k:Int) ((16:Int)*(k:Int))=((gN A k*2 ^ (16*k):Nat):Int):=by
     have e:(16:Int)*(k:Int)=((16*k:Nat):Int):=zo;rw [e];refine Zu4 zo ?_;have:(2:Nat) ^ (16*k)≤2 ^ 48:=Zzj zo zo;have h5:gN A k*2 ^ (16*k)≤65535*2 ^ 48:=ZA2 zo this;omega
    (refine wkvp (w_6 e12 e13 e14 e4 w2 w) w_t (w_s ?_);intros)
    exact⟨k+1,⟨zo,gV (And.intro e12 (And.intro e13 (And.intro e14 e4)))⟩,zo⟩
   ·rw [Zbj zo,va] at e4
    (refine wkvp (w_4 e12 e13 e14 e4) w_t (w_s ?_);intros)
    simp (disch:=omega) only [go_sem,Zx5 hb,Zx8 hb]
  ·exact⟨Zyi _,gC⟩
 ·have h4:4 < (toL (nv l)).length:=by
   rcases Zyr 4 (toL (nv l)).length with h | h
   ·exact h
   ·exact absurd (hk.1 h) hb
  (refine wkvp w_t (w_1 (Zay l hs hl)) (w_s ?_);intros)
  simp (disch:=omega) only [go_sem,Zx4 hb,Zx6 hb]
theorem natRight (a:List Nat) (n:Nat) (ha:a.length≤10000000000000) (la:Lm a) (hn:n≤1048576):Pure prog 253 [lim a,.v (.int .i64 (n:Int))] (lim (toL (nv a/2 ^ n))):=by
 have hns:n=16*(n/16)+n%16:=zo;have q1:(n:Int).tdiv 16=((n/16:Nat):Int):=Zdh n 16;have q2:(n:Int).tmod 16=((n%16:Nat):Int):=Zd8 n 16;have hs:n%16 < 16:=Zzu _ zo;rw [hns,Ztq,Zwc la,←hns];generalize n/16=l at *;generalize n%16=s at *;by_cases hl:a.length≤l
 ·have hz:toL (nv (a.drop l)/2 ^ s)=[]:=by rw [Zzw hl];simp [nv,Zas]
  rw [slN hz];refine Pure.wk (r:=.v (.slice none 0 0)) ?_ (.nil 1);refine Zaa (tok:=0) (rs:=[.tmp 4]) func253 rfl ntmps253 results253 call253 zr zs ?_
  (refine wkvp (w_2 q1 q2) w_t (w_s ?_);intros)
  simp (disch:=omega) only [go_sem]
 ·have hc:(a.length:Int) - (l:Int)=((a.length - l:Nat):Int):=zo;refine Zaa (tok:=0) (rs:=[.tmp 4]) func253 rfl ntmps253 results253 call253 zr zs ?_
  (refine wkvp (w_3 q1 q2 hc) w_t (w_s ?_);intros)
  refine Zad (ι:=Nat) (λk e m=>k≤a.length - l∧(e 0=lim a∧e 5=.v (.int .i64 (l:Int))∧e 6=.v (.int .i64 (s:Int))∧e 24=.v (.int .i64 (a.length - l:Nat))∧e 25=.v (.int .i64 (k:Int)))∧∃sv o,(e 7=.own 22 sv∧m 22=some (.row sv 184 1 (u16s o) 0))∧o.length=a.length - l∧Lm o∧nv (o.take k)=(nv (a.drop l)/2 ^ s)%65536 ^ k) (λk=>a.length - l - k) 0 zr ?_ ?_
  ·rintro k e m ⟨hk,⟨e0,e5,e6,e24,e25⟩,sv,o,⟨e7,em⟩,hol,hLo,hv⟩
   by_cases hlt:k < a.length - l
   ·have ga:=Zbw la (k+l);have gb:=Zbw la (k+l+1)
    have hd:((gN a (k+l)+65536*gN a (k+l+1))/2 ^ s)%65536=(nv (a.drop l)/65536 ^ k/2 ^ s)%65536:=by
     rw [Zwc (la.drop l),ZBc,Zb2,Zb2 a (l+k+1),shr_dig zo,ZAx l k]
    have hst:=shr_step hv hd;have w0:((gN a (k+l)+65536*gN a (k+l+1))/2 ^ s)%65536 < 65536:=Zzu _ zo;have sh:=λx=>shr_32 (x:=x) (s:=s) zo;by_cases hmore:k+l+1 < a.length
    ·(repeat' (first|(with_reducible first|refine stp ?_|apply gx1|apply gx2|apply gx3|apply gx4|apply gx5|apply gx6|apply gx7)|(with_reducible refine Zcv ?_;intro _)|((with_reducible refine gE ?_);(try simp (disch:=omega) only [go_sem,e0,e5,e6,e24,e25,e7,em,hol,Zax,Zbm,Zbd,or16_32',sh])<;>first|rfl|omega)|with_reducible refine Zag zd ?_))
     exact⟨k+1,⟨zo,gV (And.intro e0 (And.intro e5 (And.intro e6 (And.intro e24 e25)))),sv,_,⟨gW e7,gC⟩,by simpa using hol,hLo.set _ w0,by rw [Zdp zo];exact hst⟩,zo⟩
    ·have g0:gN a (k+l+1)=0:=Zew zo;simp only [g0,ZAg,Zzf] at hst w0
     (refine wkvp (w_12 e0 e5 e6 e24 e25 e7 em hol @Zax @Zbm @Zbd sh) w_t (w_s ?_);intros)
     exact⟨k+1,⟨zo,gV (And.intro e0 (And.intro e5 (And.intro e6 (And.intro e24 e25)))),sv,_,⟨gW e7,gC⟩,by simpa using hol,hLo.set _ w0,by rw [Zdp zo];exact hst⟩,zo⟩
   ·rw [Zbj zo] at hv;have h5:=Zhp (la.drop l);rw [Zzx] at h5;have hk2:k=a.length - l:=zo;rw [ZAd (ZBj (ZCv _ _) (by rw [hk2];exact h5))] at hv
    (refine wkax (w_8 e0 e5 e6 e24 e25 e7 em hol) w_t w_t (w_1 (Zay o zo hLo)) w_t w_t w_y (w_r 0) (w_s ?_);intros)
    simp (disch:=omega) only [go_sem,hv]
  ·exact⟨Zyi _,gC,_,List.replicate (a.length - l) 0,⟨gC,gC⟩,by simp,Lm.zeros _,by simp [nv,Nat.mod_one]⟩
theorem Zts (σ:Mem) (K:Nat) (sv:Value) (l:List Nat) (hs:l.length≤10000000000000) (hl:Lm l) (hσ:σ K=some (.row sv 184 1 (u16s l) 0)) :
 ACall prog 209 [.own K sv] σ λr σ'=>r=.view K sv 1 0 (toL (nv l)).length∧σ'=σ:=by
 refine Zda (tok:=0) (rs:=[.tmp 2]) func209 rfl ntmps209 results209 call209 zr zs ?_
 (refine wkvp (w_1 hσ) w_t (w_s ?_);intros)
 refine Zad (ι:=Nat) (λk e m=>k≤l.length∧e 0=.own K sv∧e 3=.v (.int .i64 (k:Int))∧m=σ∧∀j,k≤j→gN l j=0) (λk=>k) l.length zr ?_ ?_
 ·rintro k e m ⟨hk,e0,e3,rfl,hz⟩
  have gl:=Zbw hl (k - 1);have fin:(k=0∨0 < gN l (k - 1))→k=(toL (nv l)).length:=λh=>by
   rw [←Zkl hl hk hz h,Zyp,ZAf hk]
  by_cases h0:k=0
  ·subst h0;have f:=fin (.inl rfl)
   (refine wkvp (w_3 e0 e3 hσ) w_t (w_s ?_);intros)
   simp (disch:=omega) only [go_sem,←f]
  ·by_cases h1:gN l (k - 1)=0
   ·(refine wkvp (w_3 e0 e3 hσ) w_t (w_s ?_);intros)
    exact⟨k - 1,⟨zo,gW e0,by(simp (disch:=omega) only [go_sem,e3];congr 2;omega),rfl,λj hj=>by
     rcases Zyr j k with h2 | h2
     ·rw [show j=k - 1 by omega];exact h1
     ·exact hz j h2⟩,zo⟩
   ·have f:=fin (.inr zo)
    (refine wkvp (w_3 e0 e3 hσ) w_t (w_s ?_);intros)
    simp (disch:=omega) only [go_sem,←f,ZA5]
 ·exact⟨Zx7 _,gC,gC,rfl,λj hj=>Zew hj⟩
theorem Zok (σ:Mem) (a:List Nat) (n:Nat) (ha:a.length≤4000000000000) (la:Lm a) (hn:n≤1048576) (h0:nv a≠0) :
 ACall prog 235 [lim a,.v (.int .i64 (n:Int))] σ λr σ'=>∃sv o,r=.view 44 sv 1 0 (toL (nv a*2 ^ n)).length∧σ'=upd σ 44 (some (.row sv 184 1 (u16s o) 0))∧o.length=(toL (nv a)).length+n/16+1∧Lm o∧nv o=nv a*2 ^ n:=by
 have hns:n=16*(n/16)+n%16:=zo;have q1:(n:Int).tdiv 16=((n/16:Nat):Int):=Zdh n 16;have q2:(n:Int).tmod 16=((n%16:Nat):Int):=Zd8 n 16;have hs:n%16 < 16:=Zzu _ zo
 have hnv:nv a*2 ^ n=nv a*2 ^ (n%16)*65536 ^ (n/16):=by
  have:=Ztp (a:=nv a) (l:=n/16) (s:=n%16)
  rwa [←hns] at this
 have h1:=Zan la;have h2:=(Zer h0).1;have va:=Zak (nv a);have ma:=Zal (nv a);have h16:n/16≤65536:=zo;clear hns;generalize hl:n/16=l at *;generalize hss:n%16=s at *;generalize hA:toL (nv a)=A at *;refine Zda (tok:=0) (rs:=[.tmp 4]) func235 rfl ntmps235 results235 call235 zr zs ?_
 (refine wkvp (w_5 q1 q2 hA @Zax @Zbm) (w_1 (Zay a zo la)) (w_s ?_);intros)
 rw [hA];have e1:((A.length+l:Nat):Int)+3=((A.length+l+3:Nat):Int):=zo
 (refine wkvp (w_4 hA @Zax @Zbm e1) w_t (w_s ?_);intros)
 refine Zad (ι:=Nat) (λk e m=>k≤A.length∧(e 5=.v (.int .i64 (l:Int))∧e 6=.v (.int .i64 (s:Int))∧e 45=lim A∧e 46=.v (.int .i64 A.length)∧e 47=.v (.int .i64 (k:Int)))∧∃sv o,(e 7=.own 44 sv∧m=upd σ 44 (some (.row sv 184 1 (u16s o) 0)))∧o.length=A.length+l+1∧Lm o∧gN o (k+l) < 2 ^ s∧(∀j,k+l < j→gN o j=0)∧nv o=nv (A.take k)*2 ^ s*65536 ^ l) (λk=>A.length - k) 0 zr ?_ ?_
 ·rintro k e m ⟨hk,⟨e5,e6,e45,e46,e47⟩,sv,o,⟨e7,rfl⟩,hol,hLo,hg,hz,hv⟩
  by_cases hlt:k < A.length
  ·have gx:=Zbw ma k
   have p16:(2:Nat) ^ s≤32768:=by
    have:(2:Nat) ^ s≤2 ^ 15:=Zzj zo zo;omega
   have bx:gN A k*2 ^ s≤65535*32768:=ZA2 zo p16;have sh:=shl_32 (x:=gN A k) (s:=s) zo zo;have lo:=low_mul (x:=gN A k) (s:=s) zo;have hlo:(gN A k*2 ^ s)%65536 < 65536:=Zzu _ zo;rw [lo] at hlo;have hor:=or_16 (b:=gN o (k+l)) zo hg hlo;rw [←lo] at hor
   have hhi:gN A k*2 ^ s/65536 < 2 ^ s:=by
    rw [ZA7 zo,Zy9];exact Nat.mul_lt_mul_of_pos_left gx (ZBu s)
   have hsum:gN o (k+l)+(gN A k*2 ^ s)%65536 < 65536:=by
    rw [lo];have h5:(gN A k%2 ^ (16 - s)+1)*2 ^ s≤2 ^ (16 - s)*2 ^ s:=Zy5 _ (Zzu _ (ZBu _));rw [←Zzo,ZCs zo,Zy4,Zz4] at h5;omega
   have hcut:gN A k*2 ^ s/65536%65536=gN A k*2 ^ s/65536:=ZAd zo
   (refine wkvp (w_14 e5 e6 e45 e46 e47 e7 hol @Zax @Zbm @Zbd sh hor hcut @l_set) w_t (w_s ?_);intros)
   refine⟨k+1,⟨zo,gV (And.intro e5 (And.intro e6 (And.intro e45 (And.intro e46 e47)))),sv,_,⟨gW e7,by(simp (disch:=omega) only [go_sem,Zhz]<;>repeat' first|rfl|refine⟨?_,?_⟩)⟩,by simpa using hol,(hLo.set _ hsum).set _ zo,?_,λj hj=>?_,?_⟩,zo⟩
   ·rw [Zfz (by simp;omega),Zx5 zo];exact hhi
   ·rw [Zfz (by simp;omega),Zx4 zo,Zfz zo,Zx4 zo];exact hz j zo
   ·have h3:=Zoh (o:=o) (j:=k+l) zo (gN o (k+l)+(gN A k*2 ^ s)%65536);have h4:=Zoh (o:=o.set (k+l) (gN o (k+l)+(gN A k*2 ^ s)%65536)) (j:=k+l+1) (by simp;omega) (gN A k*2 ^ s/65536);rw [Zfz zo,Zx4 zo,hz (k+l+1) zo,ZAg,Zzf] at h4;rw [h4,Zaq,Zy4,Zy4,←hv]
    have h5:65536 ^ (k+l)*(gN A k*2 ^ s%65536)+65536 ^ (k+l+1)*(gN A k*2 ^ s/65536)=65536 ^ k*gN A k*2 ^ s*65536 ^ l:=by
     rw [Zzi,Zzm (65536 ^ (k+l)),←Zza,Nat.mod_add_div,Zzo];simp only [Zzm,ZBk,Zy9]
    rw [Zza] at h3;omega
  ·have hkA:k=A.length:=zo;subst hkA;rw [Zbj (Zx7 _),va,←hnv] at hv;have ct:=Zts (upd σ 44 (some (.row sv 184 1 (u16s o) 0))) 44 sv o zo hLo (by simp only [Zau,Zy2]);rw [hv] at ct
   (repeat' (first|(with_reducible first|refine stp ?_|apply gx1|apply gx2|apply gx3|apply gx4|apply gx5|apply gx6|apply gx7|refine Zr6 (ct) ?_)|(with_reducible refine Zcv ?_;intro _)|((with_reducible refine gE ?_);(try simp (disch:=omega) only [go_sem,e5,e6,e45,e46,e47,e7])<;>first|rfl|omega)|with_reducible refine Zag zd ?_))
   simp (disch:=omega) only [go_sem];exact⟨sv,o,rfl,rfl,hol,hLo,hv⟩
 ·refine⟨Zyi _,gC,_,List.replicate (A.length+l+1) 0,⟨gC,gC⟩,by simp,Lm.zeros _,?_,λj _=>Zhi _ _,by simp [nv,Zmp]⟩;rw [Zhi];exact ZBu s
theorem natShl (a:List Nat) (n:Nat) (ha:a.length≤4000000000000) (la:Lm a) (hn:n≤1048576):Pure prog 235 [lim a,.v (.int .i64 (n:Int))] (lim (toL (nv a*2 ^ n))):=by
 by_cases h0:nv a=0
 ·have h2:=Za8.2 h0;rw [slN (show toL (nv a*2 ^ n)=[] by rw [h0,ZCl,Zas])];refine Pure.wk (r:=.v (.slice none 0 0)) ?_ (.nil 1);refine Zaa (tok:=0) (rs:=[.tmp 4]) func235 rfl ntmps235 results235 call235 zr zs ?_
  (refine wkvp (w_1 h2) (w_1 (Zay a zo la)) (w_s ?_);intros)
  simp (disch:=omega) only [go_sem]
 ·refine Zmi (Zok Zae a n ha la hn h0) λr σ' ⟨sv,o,hr,hσ,hol,hLo,hv⟩=>?_;subst hr;subst hσ;have hlen:=Zan hLo;rw [hv] at hlen;refine⟨by simp (disch:=omega) only [go_sem],?_⟩;simp (disch:=omega) only [go_sem,Zy8];obtain⟨k,h1,h2⟩:=Zl3 hLo;rw [hv] at h2;have h3:k=(toL (nv a*2 ^ n)).length:=by rw [←h2,Zyp];omega
  rw [←h3,h2]
theorem natShr (a:List Nat) (n:Nat) (ha:a.length≤4000000000000) (la:Lm a) (h0:0 < n) (hn:n≤1048576):Pure prog 235 [lim a,.v (.int .i64 (-(n:Int)))] (lim (toL (nv a/2 ^ n))):=by
 by_cases hz:nv a=0
 ·have h2:=Za8.2 hz;rw [slN (show toL (nv a/2 ^ n)=[] by rw [hz,Nat.zero_div,Zas])];refine Pure.wk (r:=.v (.slice none 0 0)) ?_ (.nil 1);refine Zaa (tok:=0) (rs:=[.tmp 4]) func235 rfl ntmps235 results235 call235 zr zs ?_
  (refine wkvp (w_1 h2) (w_1 (Zay a zo la)) (w_s ?_);intros)
  simp (disch:=omega) only [go_sem]
 ·have h2:=(Zer hz).1;have h1:=Zan la;have hr:=natRight (toL (nv a)) n zo (Zal _) hn;rw [Zak] at hr;have w:(0:Int) - -(n:Int)=(n:Int):=zo;refine Zaa (tok:=0) (rs:=[.tmp 4]) func235 rfl ntmps235 results235 call235 zr zs ?_
  (refine wkvp (w_1 w) (w_2 (Zay a zo la) hr) (w_s ?_);intros)
  simp (disch:=omega) only [go_sem]
theorem Zqn (σ:Mem) (K:Nat) (sv:Value) (pre w post v:List Nat) (d:Nat) (hσ:σ K=some (.row sv 184 1 (u16s (pre++(w++post))) 0)) (hwv:w.length=v.length+1) (hsz:(pre++(w++post)).length≤10000000000000) (lw:Lm w) (lv:Lm v) (hd:d < 65536) :
 ACall prog 255 [.view K sv 1 pre.length w.length,lim v,.v (.int .u32 (d:Int))] σ λr σ'=>∃(w':List Nat) (b:Nat),r=.v (.bool (decide (0 < (b:Int))))∧σ'=upd σ K (some (.row sv 184 1 (u16s (pre++(w'++post))) 0))∧w'.length=w.length∧Lm w'∧b≤1∧nv w'+d*nv v=nv w+65536 ^ w.length*b:=by
 have hsz2:pre.length+(w.length+post.length)≤10000000000000:=by simpa using hsz
 refine Zda (tok:=0) (rs:=[.tmp 6]) func255 rfl ntmps255 results255 call255 zr zs ?_
 (refine wkvp w_t w_t (w_s ?_);intros)
 refine Zad (ι:=Nat) (λk e m=>k≤w.length∧(e 0=.view K sv 1 pre.length w.length∧e 1=lim v∧e 2=.v (.int .u32 (d:Int))∧e 12=.v (.int .i64 w.length)∧e 13=.v (.int .i64 (k:Int)))∧∃w' c r,(e 7=.v (.int .u32 (c:Nat))∧e 8=.v (.int .i32 (r:Nat))∧m=upd σ K (some (.row sv 184 1 (u16s (pre++(w'++post))) 0)))∧w'.length=w.length∧Lm w'∧c < 65536∧(v.length < k→c=0)∧r≤1∧(∀j,k≤j→gN w' j=gN w j)∧nv (w'.take k)+d*nv (v.take k)=nv (w.take k)+65536 ^ k*(c+r)) (λk=>w.length - k) 0 zr ?_ ?_
 ·rintro k e m ⟨hk,⟨e0,e1,e2,e12,e13⟩,w',c,r,⟨e7,e8,rfl⟩,hwl,hLw,hc,hcz,hr,hsame,hv⟩
  by_cases hlt:k < w.length
  ·have gw:=Zbw lw k;have gv:=Zbw lv k;have hgw:=hsame k (Zx7 _);have mid:=gN_mid (pre:=pre) (post:=post) (show k < w'.length by omega);have smid:=λx=>Zu6 (pre:=pre) (post:=post) (show k < w'.length by omega) x;have hln:(pre++(w'++post)).length=pre.length+(w'.length+post.length):=by simp
   have bd:=Zon hd gv;have step:∀(x r' c1:Nat),c1=c+d*gN v k→x+c1%65536+r=gN w k+65536*r'→x < 65536→r'≤1 →
    (w'.set k x).length=w.length∧Lm (w'.set k x)∧c1/65536 < 65536∧(v.length < k+1→c1/65536=0)∧r'≤1∧(∀j,k+1≤j→gN (w'.set k x) j=gN w j)∧nv ((w'.set k x).take (k+1))+d*nv (v.take (k+1))=nv (w.take (k+1))+65536 ^ (k+1)*(c1/65536+r'):=by
    intro x r' c1 h1 h2 h3 h4;have h5:=Zpz hv h1 h2;refine⟨by simpa using hwl,hLw.set k h3,zo,λh6=>?_,h4,λj hj=>?_,?_⟩
    ·have:gN v k=0:=Zew zo;rw [this,ZAg] at h1;omega
    ·rw [Zfz zo,Zx4 zo];exact hsame j zo
    ·rw [Zdp zo,Zaq,Zaq,Zzi];exact h5
   by_cases hkv:k < v.length
   ·generalize hxy:d*gN v k=xy at *;by_cases hneg:gN w k < (c+xy)%65536+r
    ·have hs:=step (gN w k+65536 - (c+xy)%65536 - r) 1 (c+xy) rfl zo zo zo;have wv:(gN w k:Int) - ((c+xy)%65536:Nat) - r+65536=((gN w k+65536 - (c+xy)%65536 - r:Nat):Int):=zo;have wm:(gN w k+65536 - (c+xy)%65536 - r)%65536=gN w k+65536 - (c+xy)%65536 - r:=ZAd zo
     (refine wkvp (w_18 e0 e1 e2 e12 e13 e7 e8 hln hwl mid smid hgw @Zax @Zh4 @Zbd hxy wv wm) w_t (w_s ?_);intros)
     exact⟨k+1,⟨zo,gV (And.intro e0 (And.intro e1 (And.intro e2 (And.intro e12 e13)))),_,_,1,⟨gC,gC,by(simp (disch:=omega) only [go_sem,Zhz]<;>repeat' first|rfl|refine⟨?_,?_⟩)⟩,hs⟩,zo⟩
    ·have hs:=step (gN w k - (c+xy)%65536 - r) 0 (c+xy) rfl zo zo zo;have wv:(gN w k:Int) - ((c+xy)%65536:Nat) - r=((gN w k - (c+xy)%65536 - r:Nat):Int):=zo;have wm:(gN w k - (c+xy)%65536 - r)%65536=gN w k - (c+xy)%65536 - r:=ZAd zo
     (refine wkvp (w_18 e0 e1 e2 e12 e13 e7 e8 hln hwl mid smid hgw @Zax @Zh4 @Zbd hxy wv wm) w_t (w_s ?_);intros)
     exact⟨k+1,⟨zo,gV (And.intro e0 (And.intro e1 (And.intro e2 (And.intro e12 e13)))),_,_,0,⟨gC,gC,by(simp (disch:=omega) only [go_sem,Zhz]<;>repeat' first|rfl|refine⟨?_,?_⟩)⟩,hs⟩,zo⟩
   ·have g0:gN v k=0:=Zew zo;have hcm:c%65536=c:=ZAd hc;simp only [g0,ZAg,Zzf] at step;by_cases hneg:gN w k < c+r
    ·have hs:=step (gN w k+65536 - c - r) 1 c rfl zo zo zo;have wv:(gN w k:Int) - (c:Nat) - r+65536=((gN w k+65536 - c - r:Nat):Int):=zo;have wm:(gN w k+65536 - c - r)%65536=gN w k+65536 - c - r:=ZAd zo
     (refine wkvp (w_16 e0 e1 e2 e12 e13 e7 e8 hln hwl mid smid hgw @Zbd hcm wv wm) w_t (w_s ?_);intros)
     exact⟨k+1,⟨zo,gV (And.intro e0 (And.intro e1 (And.intro e2 (And.intro e12 e13)))),_,_,1,⟨gC,gC,by(simp (disch:=omega) only [go_sem,Zhz]<;>repeat' first|rfl|refine⟨?_,?_⟩)⟩,hs⟩,zo⟩
    ·have hs:=step (gN w k - c - r) 0 c rfl zo zo zo;have wv:(gN w k:Int) - (c:Nat) - r=((gN w k - c - r:Nat):Int):=zo;have wm:(gN w k - c - r)%65536=gN w k - c - r:=ZAd zo
     (refine wkvp (w_16 e0 e1 e2 e12 e13 e7 e8 hln hwl mid smid hgw @Zbd hcm wv wm) w_t (w_s ?_);intros)
     exact⟨k+1,⟨zo,gV (And.intro e0 (And.intro e1 (And.intro e2 (And.intro e12 e13)))),_,_,0,⟨gC,gC,by(simp (disch:=omega) only [go_sem,Zhz]<;>repeat' first|rfl|refine⟨?_,?_⟩)⟩,hs⟩,zo⟩
  ·have hkw:k=w.length:=zo;subst hkw;have hc0:=hcz zo;subst hc0;rw [Zbj zo,Zbj zo,Zbj (Zx7 _),Zy8] at hv
   (refine wkvp (w_7 e0 e1 e2 e12 e13 e7 e8) w_t (w_s ?_);intros)
   simp (disch:=omega) only [go_sem];refine⟨w',r,?_,?_,hwl,hLw,hr,hv⟩<;>rfl
 ·exact⟨Zyi _,gC,w,0,0,⟨gC,gC,by rw [Zrd hσ]⟩,rfl,lw,zo,λ_=>rfl,zo,λ_ _=>rfl,by simp [nv]⟩
theorem Ztt (σ:Mem) (K:Nat) (sv:Value) (pre w post v:List Nat) (hσ:σ K=some (.row sv 184 1 (u16s (pre++(w++post))) 0)) (hwv:v.length≤w.length) (hsz:(pre++(w++post)).length≤10000000000000) (lw:Lm w) (lv:Lm v) :
 ACall prog 256 [.view K sv 1 pre.length w.length,lim v] σ λr σ'=>∃(w':List Nat) (c:Nat),r=.tup []∧σ'=upd σ K (some (.row sv 184 1 (u16s (pre++(w'++post))) 0))∧w'.length=w.length∧Lm w'∧c≤1∧nv w'+65536 ^ w.length*c=nv w+nv v:=by
 have hsz2:pre.length+(w.length+post.length)≤10000000000000:=by simpa using hsz
 refine Zda (tok:=0) (rs:=[]) func256 rfl ntmps256 results256 call256 zr zs ?_
 (refine wkvp w_t w_t (w_s ?_);intros)
 refine Zad (ι:=Nat) (λk e m=>k≤w.length∧(e 0=.view K sv 1 pre.length w.length∧e 1=lim v∧e 7=.v (.int .i64 w.length)∧e 8=.v (.int .i64 (k:Int)))∧∃w' c,(e 4=.v (.int .u32 (c:Nat))∧m=upd σ K (some (.row sv 184 1 (u16s (pre++(w'++post))) 0)))∧w'.length=w.length∧Lm w'∧c≤1∧(∀j,k≤j→gN w' j=gN w j)∧nv (w'.take k)+65536 ^ k*c=nv (w.take k)+nv (v.take k)) (λk=>w.length - k) 0 zr ?_ ?_
 ·rintro k e m ⟨hk,⟨e0,e1,e7,e8⟩,w',c,⟨e4,rfl⟩,hwl,hLw,hc,hsame,hv⟩
  by_cases hlt:k < w.length
  ·have gw:=Zbw lw k;have gv:=Zbw lv k;have hgw:=hsame k (Zx7 _);have mid:=gN_mid (pre:=pre) (post:=post) (show k < w'.length by omega);have smid:=λx=>Zu6 (pre:=pre) (post:=post) (show k < w'.length by omega) x;have hln:(pre++(w'++post)).length=pre.length+(w'.length+post.length):=by simp
   have hs:=Zng (x:=gN w k) (y:=gN v k) hv;have w1:(c+gN w k+gN v k)/65536≤1:=zo;have w2:(c+gN w k+gN v k)%65536 < 65536:=zo;have hsm:∀x j,k+1≤j→gN (w'.set k x) j=gN w j:=λx j hj=>by
    rw [Zfz zo,Zx4 zo];exact hsame j zo
   rw [←Zdp (o:=w') zo,←Zzi,←Zaq,←Zaq] at hs;by_cases hkv:k < v.length
   ·(refine wkvp (w_12 e0 e1 e7 e8 e4 hln hwl mid smid hgw @Zax @Zbd) w_t (w_s ?_);intros)
    exact⟨k+1,⟨zo,gV (And.intro e0 (And.intro e1 (And.intro e7 e8))),_,_,⟨gC,by(simp (disch:=omega) only [go_sem,Zhz]<;>repeat' first|rfl|refine⟨?_,?_⟩)⟩,by simpa using hwl,hLw.set k w2,w1,hsm _,hs⟩,zo⟩
   ·have g0:gN v k=0:=Zew zo;simp only [g0,Zzf] at hs w1 w2
    (refine wkvp (w_12 e0 e1 e7 e8 e4 hln hwl mid smid hgw @Zax @Zbd) w_t (w_s ?_);intros)
    exact⟨k+1,⟨zo,gV (And.intro e0 (And.intro e1 (And.intro e7 e8))),_,_,⟨gC,by(simp (disch:=omega) only [go_sem,Zhz]<;>repeat' first|rfl|refine⟨?_,?_⟩)⟩,by simpa using hwl,hLw.set k w2,w1,hsm _,hs⟩,zo⟩
  ·have hkw:k=w.length:=zo;subst hkw;rw [Zbj zo,Zbj (Zx7 _),Zbj hwv] at hv
   (refine wkvp (w_5 e0 e1 e7 e8 e4) w_t (w_s ?_);intros)
   simp (disch:=omega) only [go_sem];refine⟨w',c,?_,hwl,hLw,hc,hv⟩<;>rfl
 ·exact⟨Zyi _,gC,w,0,⟨gC,by rw [Zrd hσ]⟩,rfl,lw,zo,λ_ _=>rfl,by simp [nv]⟩
theorem Zqm (σ:Mem) (sv:Value) (g2 g3 g5 g7 g9 g10:Nat) (U post v:List Nat) (d r j:Nat) (h2:σ 2=some (.box g2 55 [.view 44 sv 1 0 U.length] false)) (h3:σ 3=some (.box g3 55 [lim v] false)) (h5:σ 5=some (.box g5 3 [.v (.int .i64 v.length)] false))
 (h7:σ 7=some (.box g7 3 [.v (.int .i64 (j:Int))] false)) (h9:σ 9=some (.box g9 136 [.v (.int .u64 (d:Int))] false)) (h10:σ 10=some (.box g10 136 [.v (.int .u64 (r:Int))] false)) (h44:σ 44=some (.row sv 184 1 (u16s (U++post)) 0))
 (hn:2≤v.length) (hj:j+v.length < U.length) (hsz:U.length+post.length≤10000000000000) (lv:Lm v) (lU:Lm U) (hr:r < 65536) :
 ACall prog 254 [.pbox 9 g9 0,.pbox 3 g3 0,.pbox 5 g5 0,.pbox 10 g10 0,.pbox 2 g2 0,.pbox 7 g7 0] σ λx σ'=>x=.v (.bool (decide (65536≤d) || decide (r*65536+gN U (j+v.length - 2) < d*gN v (v.length - 2))))∧σ'=σ:=by
 refine Zda (tok:=0) (rs:=[.tmp 6]) func254 rfl ntmps254 results254 call254 zr zs ?_;by_cases hd:65536≤d
 ·(refine wkad (w_7 h2 h3 h5 h7 h9 h10 h44) w_t w_t (w_s ?_);intros)
  simp (disch:=omega) only [go_sem,Zx8 hd]
 ·have gv:=Zbw lv (v.length - 2);have gu:=Zbw lU (j+v.length - 2);have bd:=Zon (x:=d) zo gv;have e1:(v.length:Int) - 2=((v.length - 2:Nat):Int):=zo;have e2:((j+v.length:Nat):Int) - 2=((j+v.length - 2:Nat):Int):=zo;have hg:gN (U++post) (j+v.length - 2)=gN U (j+v.length - 2):=Zqz zo;have hl:(U++post).length=U.length+post.length:=Zy0;generalize hxy:d*gN v (v.length - 2)=xy at *;by_cases ht:r*65536+gN U (j+v.length - 2) < xy
  ·(refine wkad (w_15 h2 h3 h5 h7 h9 h10 h44 e1 e2 hg hl @Zax @Zh4 hxy @Zy8) w_t w_t (w_s ?_);intros)
   simp (disch:=omega) only [go_sem,Zx8 ht]
  ·(refine wkad (w_15 h2 h3 h5 h7 h9 h10 h44 e1 e2 hg hl @Zax @Zh4 hxy @Zy8) w_t w_t (w_s ?_);intros)
   simp (disch:=omega) only [go_sem,Zx6 hd,Zx6 ht]
attribute [go_sem] szQ zQ
theorem Zmn {P:Program} {t d f:Nat} {args:List AV} {K:St→Prop} {e:Nat→AV} {m:Mem} {R:AV→Mem→Prop} (c:ACall P f args m R) (h:∀r σ',R r σ'→K ⟨upd e d r,σ'⟩):aRes P t (some d) (.call f args) K ⟨e,m⟩:=c.mono h
theorem Zoj {σ:Mem} {K:Nat} {sv:Value} {pre w post v:List Nat} {d i len:Nat} (hi:pre.length=i) (hw:w.length=len) (hσ:σ K=some (.row sv 184 1 (u16s (pre++(w++post))) 0)) (hwv:len=v.length+1) (hsz:(pre++(w++post)).length≤10000000000000) (lw:Lm w) (lv:Lm v) (hd:d < 65536) :
 ACall prog 255 [.view K sv 1 i len,lim v,.v (.int .u32 (d:Int))] σ λr σ'=>∃(w':List Nat) (b:Nat),r=.v (.bool (decide (0 < (b:Int))))∧σ'=upd σ K (some (.row sv 184 1 (u16s (pre++(w'++post))) 0))∧w'.length=len∧Lm w'∧b≤1∧nv w'+d*nv v=nv w+65536 ^ len*b:=by
 subst hi;subst hw;exact Zqn σ K sv pre w post v d hσ hwv hsz lw lv hd
theorem Zqo {σ:Mem} {K:Nat} {sv:Value} {pre w post v:List Nat} {i len:Nat} (hi:pre.length=i) (hw:w.length=len) (hσ:σ K=some (.row sv 184 1 (u16s (pre++(w++post))) 0)) (hwv:v.length≤len) (hsz:(pre++(w++post)).length≤10000000000000) (lw:Lm w) (lv:Lm v) :
 ACall prog 256 [.view K sv 1 i len,lim v] σ λr σ'=>∃(w':List Nat) (c:Nat),r=.tup []∧σ'=upd σ K (some (.row sv 184 1 (u16s (pre++(w'++post))) 0))∧w'.length=len∧Lm w'∧c≤1∧nv w'+65536 ^ len*c=nv w+nv v:=by
 subst hi;subst hw;exact Ztt σ K sv pre w post v hσ hwv hsz lw lv
structure LongInv (U v q U':List Nat) (k:Nat):Prop where
 ql:q.length=U.length - v.length
 qL:Lm q
 qz:∀j,j < k→gN q j=0
 ul:U'.length=U.length
 uL:Lm U'
 eq:nv U'+nv v*nv (q.drop k)*65536 ^ k=nv U
 lt:nv (U'.drop k) < nv v
theorem LongInv.step {U v q U' w'':List Nat} {j n:Nat} (h:LongInv U v q U' (j+1)) (hn:v.length=n) (lv:Lm v) (hj:j+n < U.length) (hw:w''.length=n+1) (hwL:Lm w'')
 (hwv:nv w''=nv ((U'.drop j).take (n+1))%nv v) (hd:nv ((U'.drop j).take (n+1))/nv v < 65536) :
 LongInv U v (q.set j (nv ((U'.drop j).take (n+1))/nv v)) (U'.take j++(w''++U'.drop (j+n+1))) j:=by
 have hV:0 < nv v:=ZBj (Zyi _) h.lt;have hz:=drop_zero lv hn h.lt;rw [ZBc,show j+1+n=j+n+1 by omega] at hz;have hql:=h.ql;have hul:=h.ul;have hlj:(U'.take j).length=j:=by rw [Zyp];omega
 have hj1:nv (U'.drop j)=nv ((U'.drop j).take (n+1)):=by
  have:=Zb0 (U'.drop j) (n+1);rw [ZBc,show j+(n+1)=j+n+1 by omega,hz] at this;omega
 have hw2:nv (w''++U'.drop (j+n+1))=nv w'':=by rw [Zd1,hz];omega
 have hdr:nv ((U'.take j++(w''++U'.drop (j+n+1))).drop j)=nv w'':=by
  rw [List.drop_append_of_le_length zo,Zzw zo,ZBg,hw2]
 refine⟨by simpa using hql,h.qL.set j hd,λi hi=>?_,by simp;omega,(h.uL.take j).append (hwL.append (h.uL.drop _)),?_,by rw [hdr,hwv];exact Zzu _ hV⟩
 ·rw [Zfz zo,Zx4 zo];exact h.qz i zo
 ·have h1:=h.eq;have h2:=Zb0 U' j;have h3:=ZA6 (nv ((U'.drop j).take (n+1))) (nv v);rw [Zd1,hlj,hw2,hwv,Zb2 (q.set j _),Zfz zo,Zx5 rfl,List.drop_set_of_lt zo];rw [←h1,h2,hj1,Zza,Zy4,Zzi];generalize nv ((U'.drop j).take (n+1))=W at *;generalize nv (q.drop (j+1))=Q at *
  have e1:nv v*(W/nv v)*65536 ^ j+65536 ^ j*(W%nv v)=65536 ^ j*W:=by
   rw [Zy9 (nv v*(W/nv v)),←Zza,h3]
  have e2:nv v*(65536*Q)*65536 ^ j=nv v*Q*(65536 ^ j*65536):=by
   simp only [Zzm,ZBk,Zy9]
  omega
theorem natLong (σ:Mem) (sv:Value) (U post v:List Nat) (n:Nat) (hvn:v.length=n) (h44:σ 44=some (.row sv 184 1 (u16s (U++post)) 0)) (hn:2≤n) (hlen:n < U.length) (hsz:U.length+post.length≤10000000000000) (lU:Lm U) (lp:Lm post) (lv:Lm v)
 (hvt:0 < gN v (n - 1)) (hlt:nv (U.drop (U.length - n)) < nv v) :
 ACall prog 236 [.view 44 sv 1 0 U.length,lim v] σ λr σ'=>∃U':List Nat,r=lim (toL (nv U/nv v))∧σ' 44=some (.row sv 184 1 (u16s (U'++post)) 0)∧U'.length=U.length∧Lm U'∧nv U'=nv U%nv v:=by
 have hc:(U.length:Int) - (n:Int)=((U.length - n:Nat):Int):=zo;refine Zda (tok:=0) (rs:=[.tmp 4]) func236 rfl ntmps236 results236 call236 zr zs ?_
 (refine wkvp (w_2 hvn hc) w_t (w_s ?_);intros)
 refine Zad (ι:=Nat) (λk e m=>k≤U.length - n∧∃g2 g3 g5 g7 svo q U',(e 2=.pbox 2 g2 0∧e 3=.pbox 3 g3 0∧e 5=.pbox 5 g5 0∧e 6=.own 18 svo∧e 7=.pbox 7 g7 0)∧m 2=some (.box g2 55 [.view 44 sv 1 0 U.length] false)∧m 3=some (.box g3 55 [lim v] false)∧m 5=some (.box g5 3 [.v (.int .i64 n)] false)∧m 7=some (.box g7 3 [.v (.int .i64 ((k:Int) - 1))] false) ∧
  m 18=some (.row svo 184 1 (u16s q) 0)∧m 44=some (.row sv 184 1 (u16s (U'++post)) 0)∧LongInv U v q U' k) (λk=>k) (U.length - n) zr ?_ ?_
 ·rintro k e m ⟨hk,g2,g3,g5,g7,svo,q,U',⟨e2,e3,e5,e6,e7⟩,m2,m3,m5,m7,m18,m44,inv⟩
  have hql:=inv.ql;rw [hvn] at hql;have hul:=inv.ul;rcases Zzk k with h0 | h0
  ·subst h0;have h1:=inv.eq;have h2:=inv.lt;rw [Zz6] at h1 h2;rw [ZCw,ZA1] at h1;have hq:nv U/nv v=nv q:=by rw [←h1,ZAx,Nat.mul_add_div zo,ZCt h2,Zzf]
   have hr:nv U'=nv U%nv v:=by rw [←h1,ZAx,Nat.mul_add_mod,ZAd h2]
   (repeat' (first|(with_reducible first|refine stp ?_|apply gx1|apply gx2|apply gx3|apply gx4|apply gx5|apply gx6|apply gx7|apply gw1 (Zay q zo inv.qL))|(with_reducible refine Zcv ?_;intro _)|((with_reducible refine gE ?_);(try simp (disch:=omega) only [go_sem,e2,e3,e5,e6,e7,m2,m3,m5,m7,m18,m44])<;>first|rfl|omega)|with_reducible refine Zag zd ?_))
   simp (disch:=omega) only [go_sem,hq];refine⟨U',?_,hul,inv.uL,hr⟩;simp (disch:=omega) only [go_sem,m44]
  ·obtain⟨j,rfl⟩:∃j,k=j+1:=⟨k - 1,zo⟩;have ej:((j+1:Nat):Int) - 1=(j:Int):=zo;rw [ej] at m7;have g0:=Zbw inv.uL (j+n);have g1:=Zbw inv.uL (j+n - 1);have g2':=Zbw inv.uL (j+n - 2);have gv1:=Zbw lv (n - 1);have gv2:=Zbw lv (n - 2);have hl:(U'++post).length=U'.length+post.length:=Zy0;have x0:gN (U'++post) (j+n)=gN U' (j+n):=Zqz zo;have x1:gN (U'++post) (j+n - 1)=gN U' (j+n - 1):=Zqz zo;have ex1:((j+n:Nat):Int) - 1=((j+n - 1:Nat):Int):=zo;have ex2:(n:Int) - 1=((n - 1:Nat):Int):=zo;have hwl:((U'.drop j).take (n+1)).length=n+1:=by rw [Zyp,Zzx];omega
   have hwL:Lm ((U'.drop j).take (n+1)):=(inv.uL.drop j).take _;have wg:∀i,i≤n→gN ((U'.drop j).take (n+1)) i=gN U' (j+i):=λi hi=>by rw [gN_take zo,Zw9]
   have hW:=nv_top3 hwl hn;rw [wg n (Zx7 _),wg (n - 1) zo,wg (n - 2) zo,show j+(n - 1)=j+n - 1 by omega,show j+(n - 2)=j+n - 2 by omega] at hW;have hwl2:=Zhc hwL (n - 2);have hVt:=nv_top2 hvn hn;have hvl2:=Zhc lv (n - 2);have hV:0 < nv v:=ZBj (Zyi _) inv.lt
   have htop:gN U' (j+n)≤gN v (n - 1):=by
    have:=top_le (inv.uL.drop (j+1)) lv hvn hn inv.lt
    rwa [Zw9,show j+1+(n - 1)=j+n by omega] at this
   have hWV:nv ((U'.drop j).take (n+1))/nv v < 65536:=by
    rw [ZA7 hV];have h1:=Zb0 (U'.drop j) (n+1);have h2:=Zb2 U' j;have h3:=inv.lt;have h4:=Zbw inv.uL j;omega
   obtain⟨high,hhigh⟩:∃h,gN U' (j+n)*65536+gN U' (j+n - 1)=h:=⟨_,rfl⟩;rw [hhigh] at hW;have hinit:=kn_init (ZB5 zo) hVt hW hwl2 g2' hvt (Nat.div_mul_le_self (nv ((U'.drop j).take (n+1))) (nv v));have hhd:=ZA6 high (gN v (n - 1));have hhr:=Zzu high hvt;have hhq:=ZCv high (gN v (n - 1));rw [Zy9] at hhd;have hv1i:(gN v (n - 1):Int)≠0:=zo
   have hq1:(high:Int)/(gN v (n - 1):Int)≤4294967296:=by
    have:((high/gN v (n - 1):Nat):Int)≤4294967296:=zo;exact this
   have wq:IntKind.u64.wrap ((high/gN v (n - 1):Nat):Int)=((high/gN v (n - 1):Nat):Int):=Zf3 (ZB4 _) zo
   (repeat' (first|(with_reducible first|refine stp ?_|apply gx1|apply gx2|apply gx3|apply gx4|apply gx5|apply gx6|apply gx7|apply gy8|apply gz2|apply gz3)|(with_reducible refine Zcv ?_;intro _)|((with_reducible refine gE ?_);(try simp (disch:=omega) only [go_sem,e2,e3,e5,e6,e7,m2,m3,m5,m7,m18,m44,hl,hul,hvn,x0,x1,ex1,ex2,hhigh,hv1i,Zax,Zdh,Zd8,Zy8,wq])<;>first|rfl|omega)|with_reducible refine Zag zd ?_|((with_reducible apply gy1);iterate 3 focus rfl)|((with_reducible apply gy2);iterate 3 focus rfl)|((with_reducible apply gy3);iterate 2 focus rfl)|((with_reducible apply gy4);iterate 1 focus rfl)|((with_reducible apply gy5);iterate 4 focus rfl)|((with_reducible apply gy5c);iterate 4 focus rfl)|((with_reducible apply gy6);iterate 4 focus rfl)|((with_reducible apply Zgz);iterate 3 focus rfl)|((with_reducible apply Zgo);iterate 1 focus rfl)|((with_reducible apply gy7);iterate 1 focus rfl)|((with_reducible apply gy9);(focus ((with_reducible refine gE ?_);(try simp (disch:=omega) only [go_sem,e2,e3,e5,e6,e7,m2,m3,m5,m7,m18,m44,hl,hul,hvn,x0,x1,ex1,ex2,hhigh,hv1i,Zax,Zdh,Zd8,Zy8,wq])<;>rfl)))|((with_reducible apply gz1);(focus first|rfl|(simp (disch:=omega) only [go_sem,e2,e3,e5,e6,e7,m2,m3,m5,m7,m18,m44,hl,hul,hvn,x0,x1,ex1,ex2,hhigh,hv1i,Zax,Zdh,Zd8,Zy8,wq];done)))|((with_reducible apply Zbo (Zdv []) [] [9,10]);(focus kernel_rfl);(focus rfl);(focus kernel_rfl);(focus (simp only [Zyk,Zym,Nat.reduceAdd];rfl)))))
   rename_i g9 g10;have hlj:(U'.take j).length=j:=by rw [Zyp];omega
   have hsplit:U'++post=U'.take j++((U'.drop j).take (n+1)++(U'.drop (j+n+1)++post)):=by
    have e1:U'=U'.take j++((U'.drop j).take (n+1)++U'.drop (j+n+1)):=by
     rw [show j+n+1=j+(n+1) by omega,←ZBc,ZAe,ZAe]
    rw [←Zzd ((U'.drop j).take (n+1)),←Zzd,←e1]
   have esub:j+n+1 - j=n+1:=zo;obtain⟨W,hWd⟩:∃W,nv ((U'.drop j).take (n+1))=W:=⟨_,rfl⟩;have hstep:=fun(w'':List Nat) hw hwL2 hwv=>inv.step (w'':=w'') hvn lv zo hw hwL2 hwv hWV;rw [hWd] at hinit hWV hW hstep
   have hzz:∀d r,high=d*gN v (n - 1)+r→65536≤r→d < 65536∧d*gN v (n - 2)≤r*65536+gN U' (j+n - 2):=by
    intro d r h1 h2
    have hd:d < 65536:=by
     rcases Zyr d 65536 with h3 | h3
     ·exact h3
     ·exfalso;have h4:65536*gN v (n - 1)≤d*gN v (n - 1):=Zy5 _ h3;omega
    have:=Zon hd gv2;omega
   refine Zad (ι:=Nat) (λd e' m'=>(e' 2=.pbox 2 g2 0∧e' 3=.pbox 3 g3 0∧e' 5=.pbox 5 g5 0∧e' 6=.own 18 svo∧e' 7=.pbox 7 g7 0∧e' 9=.pbox 9 g9 0∧e' 10=.pbox 10 g10 0∧e' 11=.fn 254 [.pbox 9 g9 0,.pbox 3 g3 0,.pbox 5 g5 0,.pbox 10 g10 0,.pbox 2 g2 0,.pbox 7 g7 0]) ∧
    m' 2=some (.box g2 55 [.view 44 sv 1 0 U.length] false)∧m' 3=some (.box g3 55 [lim v] false)∧m' 5=some (.box g5 3 [.v (.int .i64 n)] false)∧m' 7=some (.box g7 3 [.v (.int .i64 (j:Int))] false)∧m' 18=some (.row svo 184 1 (u16s q) 0)∧m' 44=some (.row sv 184 1 (u16s (U'++post)) 0) ∧
    m' 9=some (.box g9 136 [.v (.int .u64 (d:Int))] false)∧∃r:Nat,m' 10=some (.box g10 136 [.v (.int .u64 (r:Int))] false)∧high=d*gN v (n - 1)+r∧W/nv v≤d∧d≤high∧r < 131072) (λd=>d) (high/gN v (n - 1)) zr ?_ ?_
   ·rintro d e m ⟨⟨e2,e3,e5,e6,e7,e9,e10,e11⟩,m2,m3,m5,m7,m18,m44,m9,r,m10,hhi,hqd,hdh,hr2⟩
    have ct:=λhr=>Zqm m sv g2 g3 g5 g7 g9 g10 U' post v d r j (by rw [hul];exact m2) m3 (by rw [hvn];exact m5) m7 m9 m10 m44 zo zo zo lv inv.uL hr;rw [hvn] at ct;by_cases hgo:r < 65536∧(65536≤d∨r*65536+gN U' (j+n - 2) < d*gN v (n - 2))
    ·obtain⟨hr,ht⟩:=hgo;have hb:(decide (65536≤d) || decide (r*65536+gN U' (j+n - 2) < d*gN v (n - 2)))=true:=by simpa using ht
     have hd1:1≤d:=by
      rcases Zzk d with h | h
      ·subst h;omega
      ·exact h
     have ed:(d:Int) - 1=((d - 1:Nat):Int):=zo
     have hq2:W/nv v≤d - 1:=by
      rcases ht with h | h
      ·omega
      ·have h1:=kn_step hVt hW hwl2 hhi h;rw [←ZA7 hV] at h1;omega
     have hh2:high=(d - 1)*gN v (n - 1)+(r+gN v (n - 1)):=by
      obtain⟨d',rfl⟩:∃d',d=d'+1:=⟨d - 1,zo⟩;rw [ZB3,hhi,Zy4,Zz4];omega
     (repeat' (first|(with_reducible first|refine stp ?_|apply gx1|apply gx2|apply gx3|apply gx4|apply gx5|apply gx6|apply gx7|apply gy8|apply gz2|apply gz3|refine Zr6 (ct hr) ?_)|(with_reducible refine Zcv ?_;intro _)|((with_reducible refine gE ?_);(try simp (disch:=omega) only [go_sem,e2,e3,e5,e6,e7,e9,e10,e11,m2,m3,m5,m7,m18,m44,m9,m10,hb,ed,ex2,hvn,Zax])<;>first|rfl|omega)|with_reducible refine Zag zd ?_|((with_reducible apply gy1);iterate 3 focus rfl)|((with_reducible apply gy2);iterate 3 focus rfl)|((with_reducible apply gy3);iterate 2 focus rfl)|((with_reducible apply gy4);iterate 1 focus rfl)|((with_reducible apply gy5);iterate 4 focus rfl)|((with_reducible apply gy5c);iterate 4 focus rfl)|((with_reducible apply gy6);iterate 4 focus rfl)|((with_reducible apply Zgz);iterate 3 focus rfl)|((with_reducible apply Zgo);iterate 1 focus rfl)|((with_reducible apply gy7);iterate 1 focus rfl)|((with_reducible apply gy9);(focus ((with_reducible refine gE ?_);(try simp (disch:=omega) only [go_sem,e2,e3,e5,e6,e7,e9,e10,e11,m2,m3,m5,m7,m18,m44,m9,m10,hb,ed,ex2,hvn,Zax])<;>rfl)))|((with_reducible apply gz1);(focus first|rfl|(simp (disch:=omega) only [go_sem,e2,e3,e5,e6,e7,e9,e10,e11,m2,m3,m5,m7,m18,m44,m9,m10,hb,ed,ex2,hvn,Zax];done)))|((with_reducible apply Zbo (Zdv []) [8] []);(focus kernel_rfl);(focus rfl);(focus kernel_rfl);(focus (simp only [Zyk,Zym,Nat.reduceAdd];rfl)))))
     exact⟨d - 1,⟨⟨gW e2,gW e3,gW e5,gW e6,gW e7,gW e9,gW e10,gW e11⟩,gW m2,gW m3,gW m5,gW m7,gW m18,gW m44,gC,_,gC,hh2,hq2,zo,zo⟩,zo⟩
    ·obtain⟨hd,hdv⟩:d < 65536∧d*gN v (n - 2)≤r*65536+gN U' (j+n - 2):=by
      rcases Zyr r 65536 with h | h
      ·have h2:¬(65536≤d∨r*65536+gN U' (j+n - 2) < d*gN v (n - 2)):=λh2=>hgo ⟨h,h2⟩;omega
      ·exact hzz d r hhi h
     have hb:(decide (65536≤d) || decide (r*65536+gN U' (j+n - 2) < d*gN v (n - 2)))=false:=by
      rw [ZAn,ZAa,ZAa];omega
     have hnear:=kn_near hV hqd (kn_exit hVt hvl2 hW hhi hvt hd hdv);have csub:=Zoj (K:=44) (sv:=sv) (σ:=m) (post:=U'.drop (j+n+1)++post) (v:=v) (d:=d) hlj hwl (by rw [←hsplit];exact m44) zo (by rw [←hsplit];omega) hwL lv hd;rcases Zyr r 65536 with hr | hr
     all_goals
      (repeat' (first|(with_reducible first|refine stp ?_|apply gx1|apply gx2|apply gx3|apply gx4|apply gx5|apply gx6|apply gx7|apply gy8|apply gz2|apply gz3|refine Zr6 (ct hr) ?_)|(with_reducible refine Zcv ?_;intro _)|((with_reducible refine gE ?_);(try simp (disch:=omega) only [go_sem,e2,e3,e5,e6,e7,e9,e10,e11,m2,m3,m5,m7,m18,m44,m9,m10,hb,ex2,hvn,Zax,Zbm,esub,Zy8])<;>first|rfl|omega)|with_reducible refine Zag zd ?_|((with_reducible apply gy1);iterate 3 focus rfl)|((with_reducible apply gy2);iterate 3 focus rfl)|((with_reducible apply gy3);iterate 2 focus rfl)|((with_reducible apply gy4);iterate 1 focus rfl)|((with_reducible apply gy5);iterate 4 focus rfl)|((with_reducible apply gy5c);iterate 4 focus rfl)|((with_reducible apply gy6);iterate 4 focus rfl)|((with_reducible apply Zgz);iterate 3 focus rfl)|((with_reducible apply Zgo);iterate 1 focus rfl)|((with_reducible apply gy7);iterate 1 focus rfl)|((with_reducible apply gy9);(focus ((with_reducible refine gE ?_);(try simp (disch:=omega) only [go_sem,e2,e3,e5,e6,e7,e9,e10,e11,m2,m3,m5,m7,m18,m44,m9,m10,hb,ex2,hvn,Zax,Zbm,esub,Zy8])<;>rfl)))|((with_reducible apply gz1);(focus first|rfl|(simp (disch:=omega) only [go_sem,e2,e3,e5,e6,e7,e9,e10,e11,m2,m3,m5,m7,m18,m44,m9,m10,hb,ex2,hvn,Zax,Zbm,esub,Zy8];done)))|((with_reducible apply Zbo (Zdv []) [10] []);(focus kernel_rfl);(focus rfl);(focus kernel_rfl);(focus (simp only [Zyk,Zym,Nat.reduceAdd];rfl)))))
      refine Zmn csub ?_
      rintro _ _ ⟨w',b,rfl,rfl,hwl',hwL',hb1,heq⟩
      rw [hWd] at heq;have hw'p:nv w' < 65536 ^ (n+1):=by have:=Zhp hwL';rwa [hwl'] at this
      have hcase:=subDone hV hw'p hb1 heq hnear;have ej2:(j:Int) - 1=(j:Int) - 1:=rfl;rcases hcase with⟨rfl,hdq,hwm⟩ | ⟨rfl,hdq⟩
      ·have inv':=hstep w' hwl' hwL' hwm;rw [←hdq] at inv';have hdm:d%65536=d:=ZAd hd
       (repeat' (first|(with_reducible first|refine stp ?_|apply gx1|apply gx2|apply gx3|apply gx4|apply gx5|apply gx6|apply gx7|apply gy8|apply gz2|apply gz3)|(with_reducible refine Zcv ?_;intro _)|((with_reducible refine gE ?_);(try simp (disch:=omega) only [go_sem,e2,e3,e5,e6,e7,e9,e10,e11,m2,m3,m5,m7,m18,m44,m9,m10,hql,Zbd,hdm,ZAq,Int.lt_irrefl])<;>first|rfl|omega)|with_reducible refine Zag zd ?_|((with_reducible apply gy1);iterate 3 focus rfl)|((with_reducible apply gy2);iterate 3 focus rfl)|((with_reducible apply gy3);iterate 2 focus rfl)|((with_reducible apply gy4);iterate 1 focus rfl)|((with_reducible apply gy5);iterate 4 focus rfl)|((with_reducible apply gy5c);iterate 4 focus rfl)|((with_reducible apply gy6);iterate 4 focus rfl)|((with_reducible apply Zgz);iterate 3 focus rfl)|((with_reducible apply Zgo);iterate 1 focus rfl)|((with_reducible apply gy7);iterate 1 focus rfl)|((with_reducible apply gy9);(focus ((with_reducible refine gE ?_);(try simp (disch:=omega) only [go_sem,e2,e3,e5,e6,e7,e9,e10,e11,m2,m3,m5,m7,m18,m44,m9,m10,hql,Zbd,hdm,ZAq,Int.lt_irrefl])<;>rfl)))|((with_reducible apply gz1);(focus first|rfl|(simp (disch:=omega) only [go_sem,e2,e3,e5,e6,e7,e9,e10,e11,m2,m3,m5,m7,m18,m44,m9,m10,hql,Zbd,hdm,ZAq,Int.lt_irrefl];done)))|((with_reducible apply Zbo (Zdv []) [10] []);(focus kernel_rfl);(focus rfl);(focus kernel_rfl);(focus (simp only [Zyk,Zym,Nat.reduceAdd];rfl)))))
       exact⟨j,⟨zo,g2,g3,g5,_,svo,q.set j d,U'.take j++(w'++U'.drop (j+n+1)),⟨gW e2,gW e3,gW e5,gW e6,gC⟩,gW m2,gW m3,gW m5,gC,gC,by(simp (disch:=omega) only [go_sem,Zzd]<;>repeat' first|rfl|refine⟨?_,?_⟩),inv'⟩,zo⟩
      ·have crest:=fun(σ:Mem) h=>Zqo (σ:=σ) (K:=44) (sv:=sv) (post:=U'.drop (j+n+1)++post) (v:=v) hlj hwl' h zo (by rw [hsplit] at hl;simp only [Zy0] at hl ⊢;omega) hwL' lv;have hd1:1≤d:=by rw [hdq];exact Nat.le_add_left 1 _
       have ed:(d:Int) - 1=((d - 1:Nat):Int):=zo;have one:(0:Int) < ((1:Nat):Int):=zo
       (repeat' (first|(with_reducible first|refine stp ?_|apply gx1|apply gx2|apply gx3|apply gx4|apply gx5|apply gx6|apply gx7|apply gy8|apply gz2|apply gz3)|(with_reducible refine Zcv ?_;intro _)|((with_reducible refine gE ?_);(try simp (disch:=omega) only [go_sem,e2,e3,e5,e6,e7,e9,e10,e11,m2,m3,m5,m7,m18,m44,m9,m10,ed,one,Zax,Zbm,esub,Zy8])<;>first|rfl|omega)|with_reducible refine Zag zd ?_|((with_reducible apply gy1);iterate 3 focus rfl)|((with_reducible apply gy2);iterate 3 focus rfl)|((with_reducible apply gy3);iterate 2 focus rfl)|((with_reducible apply gy4);iterate 1 focus rfl)|((with_reducible apply gy5);iterate 4 focus rfl)|((with_reducible apply gy5c);iterate 4 focus rfl)|((with_reducible apply gy6);iterate 4 focus rfl)|((with_reducible apply Zgz);iterate 3 focus rfl)|((with_reducible apply Zgo);iterate 1 focus rfl)|((with_reducible apply gy7);iterate 1 focus rfl)|((with_reducible apply gy9);(focus ((with_reducible refine gE ?_);(try simp (disch:=omega) only [go_sem,e2,e3,e5,e6,e7,e9,e10,e11,m2,m3,m5,m7,m18,m44,m9,m10,ed,one,Zax,Zbm,esub,Zy8])<;>rfl)))|((with_reducible apply gz1);(focus first|rfl|(simp (disch:=omega) only [go_sem,e2,e3,e5,e6,e7,e9,e10,e11,m2,m3,m5,m7,m18,m44,m9,m10,ed,one,Zax,Zbm,esub,Zy8];done)))|((with_reducible apply Zbo (Zdv []) [8] []);(focus kernel_rfl);(focus rfl);(focus kernel_rfl);(focus (simp only [Zyk,Zym,Nat.reduceAdd];rfl)))))
       refine Zmn (crest _ (gC)) ?_
       rintro _ _ ⟨w'',c,rfl,rfl,hwl'',hwL'',hc1,heq2⟩
       have hw''p:nv w'' < 65536 ^ (n+1):=by have:=Zhp hwL'';rwa [hwl''] at this
       have hVp:nv v≤65536 ^ (n+1):=by
        have h1:=Zhp lv;rw [hvn] at h1;have h2:65536 ^ n≤65536 ^ (n+1):=Zzj zo zo;omega
       have hwm:=resDone hV hVp hw''p hc1 (by rw [←hdq];exact heq) heq2;have inv':=hstep w'' hwl'' hwL'' hwm;have hdq2:d - 1=W/nv v:=by rw [hdq,ZB3]
       rw [←hdq2] at inv';have hdm:(d - 1)%65536=d - 1:=ZAd zo
       (refine wkad (w_19 e2 e3 e5 e6 e7 e9 e10 e11 m2 m3 m5 m7 m18 m44 m9 m10 hql @Zbd hdm) w_t w_t (w_s ?_);intros)
       exact⟨j,⟨zo,g2,g3,g5,_,svo,q.set j (d - 1),U'.take j++(w''++U'.drop (j+n+1)),⟨gW e2,gW e3,gW e5,gW e6,gC⟩,gW m2,gW m3,gW m5,gC,gC,by(simp (disch:=omega) only [go_sem,Zzd]<;>repeat' first|rfl|refine⟨?_,?_⟩),inv'⟩,zo⟩
   ·exact⟨⟨gW e2,gW e3,gW e5,gW e6,gW e7,gC,gC,gC⟩,gW m2,gW m3,gW m5,gW m7,gW m18,gW m44,gC,_,gC,zo,hinit,zo,zo⟩
 ·refine⟨Zx7 _,_,_,_,_,_,List.replicate (U.length - n) 0,U,⟨gC,gC,gC,gC,gC⟩,gC,gC,gC,gC,gC,gW h44,⟨by rw [hvn];simp,Lm.zeros _,λ_ _=>Zhi _ _,rfl,lU,?_,hlt⟩⟩;rw [Zzw zs];simp [nv]
theorem Zww (i:Nat):i < 2 ^ len8 i:=by
 unfold len8;split
 ·rename_i h;subst h;decide
 ·exact Nat.lt_log2_self
theorem len16_lt (x:Nat):x < 2 ^ Zfh x:=by
 unfold Zfh;split
 ·have:=Zww (x/256);rw [Zzo];have e:(2:Nat) ^ 8=256:=rfl;omega
 ·exact Zww x
theorem Zrf (a:List Nat):u16s a++[.v (.int .u16 0),.v (.int .u16 0)]=u16s (a++[0,0]):=by simp [u16s]
theorem Wk.three {a a' b b' c:AV} (h1:Wk a a') (h2:Wk b b'):Wk (.tup [a,b,c]) (.tup [a',b',c]):=by
 refine .tup _ _ rfl λj x y h3 h4=>?_
 match j with
 | 0=>simp at h3 h4;subst h3;subst h4;exact h1
 | 1=>simp at h3 h4;subst h3;subst h4;exact h2
 | 2=>simp at h3 h4;subst h3;subst h4;exact .refl _
 | j+3=>simp at h3
theorem Zp0 {b s n:Nat} (h0:b≠0) (hn:(toL b).length=n) (hs:s=16 - Zfh (gN (toL b) (n - 1))):(toL (b*2 ^ s)).length=n:=by
 have h1:=(Zer h0).1;have ht:=Zbw (Zal b) (n - 1);have hbd:=Zio ht;have hlt:=len16_lt (gN (toL b) (n - 1));have hp:=ZBu s;have h3:(toL b).length≤(toL (b*2 ^ s)).length:=Za0 (ZBa _ hp)
 have h4:(toL (b*2 ^ s)).length≤n:=by
  rw [Zac];have h5:=Zb0 (toL b) (n - 1);rw [Zak,Zb2,show n - 1+1=n by omega,Zzw zo] at h5;simp only [nv,ZAg,Zzf] at h5;have h6:=Zhc (Zal b) (n - 1);generalize gN (toL b) (n - 1)=t at *
  have h7:b < 65536 ^ (n - 1)*2 ^ Zfh t:=by
   have h10:65536 ^ (n - 1)*(t+1)≤65536 ^ (n - 1)*2 ^ Zfh t:=ZAh _ hlt;rw [Zza,ZA1] at h10;omega
  have h8:b*2 ^ s < 65536 ^ (n - 1)*2 ^ Zfh t*2 ^ s:=ZCu h7 hp
  have h9:2 ^ Zfh t*2 ^ s=65536:=by
   rw [←Zzo,hs,show Zfh t+(16 - Zfh t)=16 by omega]
  rw [Zzm,h9,←Zzi,Nat.succ_eq_add_one,show n - 1+1=n by omega] at h8;exact h8
 omega
theorem Zol (a b:List Nat) (ha:a.length≤2000000000000) (hb:b.length≤2000000000000) (la:Lm a) (lb:Lm b) (h0:nv b≠0):Pure prog 207 [lim a,lim b] (.tup [lim (toL (nv a/nv b)),lim (toL (nv a%nv b)),.v (.int .i64 0)]):=by
 have h1:=Zan la;have h2:=Zan lb;have va:=Zak (nv a);have vb:=Zak (nv b);have ma:=Zal (nv a);have mb:=Zal (nv b);obtain⟨hb1,hb2⟩:=Zer h0;have cc:=Zsa (toL (nv a)) (toL (nv b)) zo zo ma mb;rw [va,vb] at cc;by_cases hlt:nv a < nv b
 ·rw [show toL (nv a/nv b)=[] by rw [ZCt hlt,Zas],ZAd hlt];refine Pure.wk ?_ (Wk.three (.nil 1) (.refl _));have hcm:cmpN (nv a) (nv b)=-1:=Zx5 hlt;have cn:=Zmr (toL (nv a)) zo ma;rw [va] at cn;refine Zaa (tok:=0) (rs:=[.tmp 4,.tmp 5,.tmp 6]) func207 rfl ntmps207 results207 call207 zr zs ?_
  (refine wkvp (w_1 hcm) (w_4 (Zay a zo la) (Zay b zo lb) cc cn) (w_s ?_);intros)
  simp (disch:=omega) only [go_sem]
 ·have hcm:0≤cmpN (nv a) (nv b):=by unfold cmpN;rw [Zx4 hlt];split<;>omega
  by_cases hone:(toL (nv b)).length=1
  ·have e0:nv b=gN (toL (nv b)) 0:=by
    have:=Zb0 (toL (nv b)) 0;rw [Zb2,Zzw zo,vb] at this
    simpa [nv] using this
   have gb:=Zbw mb 0;have cb:=Zwf (toL (nv a)) (gN (toL (nv b)) 0) zo ma zo gb;rw [va,←e0] at cb;have hr:=Zzu (nv a) (Zz7 h0);have co:=natOf (nv a%nv b) zo;refine Zaa (tok:=0) (rs:=[.tmp 4,.tmp 5,.tmp 6]) func207 rfl ntmps207 results207 call207 zr zs ?_;have wr:IntKind.u64.wrap ((nv a%nv b:Nat):Int)=((nv a%nv b:Nat):Int):=Zf3 (ZB4 _) zo
   (refine wkvp (w_3 hone (Eq.symm e0) wr) (w_5 (Zay a zo la) (Zay b zo lb) cc cb co) (w_s ?_);intros)
   simp (disch:=omega) only [go_sem]
  ·
   obtain⟨n,hn⟩:∃n,(toL (nv b)).length=n:=⟨_,rfl⟩;rw [hn] at hb1 hb2 hone h2;have ht:=Zbw mb (n - 1);have hbd:=Zio ht;obtain⟨s,hs⟩:∃s,16 - Zfh (gN (toL (nv b)) (n - 1))=s:=⟨_,rfl⟩;have hs15:s≤15:=zo;have hvl:=Zp0 h0 hn hs.symm;have ha0:nv a≠0:=zo;have hab:n≤(toL (nv a)).length:=by rw [←hn];exact Za0 zo
   have clz:=bitsLz16 (gN (toL (nv b)) (n - 1)) ht;rw [hs] at clz;have en:(n:Int) - 1=((n - 1:Nat):Int):=zo;have hp:=ZBu s;obtain⟨A,hA⟩:∃A,toL (nv a)=A:=⟨_,rfl⟩;rw [hA] at va ma h1 hab cc;have hVlen:A.length≤(toL (nv a*2 ^ s)).length:=by rw [←hA];exact Za0 (ZBa _ hp)
   have hV2:nv a*2 ^ s < 65536 ^ (A.length+1):=by
    have h3:=Zhp ma;rw [va] at h3;have h4:(2:Nat) ^ s≤2 ^ 16:=Zzj zo zo;rw [Zzi];exact Zzz (ZCu h3 hp) (ZAh _ h4)
   have hVlen2:(toL (nv a*2 ^ s)).length≤A.length+1:=Zac.2 hV2
   have hdl:nv a*2 ^ s/65536 ^ (A.length+1 - n) < nv b*2 ^ s:=by
    rw [ZA7 (ZB5 zo)];have h3:=Zhp ma;rw [va] at h3
    have h5:65536 ^ (n - 1)≤nv b:=by
     rcases Zyr (nv b) (65536 ^ (n - 1)) with h | h
     ·have:=Zac.2 h;omega
     ·exact h
    have h6:65536 ^ A.length=65536 ^ (n - 1)*65536 ^ (A.length+1 - n):=by rw [←Zzo];congr 1;omega
    have h7:65536 ^ (n - 1)*65536 ^ (A.length+1 - n)≤nv b*65536 ^ (A.length+1 - n):=Zy5 _ h5;have h8:nv a < nv b*65536 ^ (A.length+1 - n):=zo;have h9:=ZCu h8 hp
    rwa [Nat.mul_right_comm] at h9
   have qe:nv a*2 ^ s/(nv b*2 ^ s)=nv a/nv b:=Nat.mul_div_mul_right _ _ hp;have re:nv a*2 ^ s%(nv b*2 ^ s)=(nv a%nv b)*2 ^ s:=Nat.mul_mod_mul_right _ _ _;have cv:=natShl (toL (nv b)) s zo mb zo;rw [vb] at cv;refine Zaa (tok:=0) (rs:=[.tmp 4,.tmp 5,.tmp 6]) func207 rfl ntmps207 results207 call207 zr zs ?_
   (refine wkvp (w_3 hn hA en) (w_4 (Zay a zo la) (Zay b zo lb) cc clz) (w_s ?_);intros)
   refine Zmn (Zok _ A s zo ma zo (by rw [va];exact ha0)) ?_
   rintro _ _ ⟨sv,o,rfl,rfl,hol,hLo,hov⟩
   rw [va] at hov;rw [va];have hlen:=Zan hLo;rw [hov] at hlen;obtain⟨L,hL⟩:∃L,o.take (toL (nv a*2 ^ s)).length++[0,0]=L:=⟨_,rfl⟩;have hLl:L.length=(toL (nv a*2 ^ s)).length+2:=by rw [←hL,Zy0,Zyp];simp;omega
   have hot:o.take (toL (nv a*2 ^ s)).length=toL (nv a*2 ^ s):=by
    obtain⟨k,h3,h4⟩:=Zl3 hLo;rw [hov] at h4;have h5:k=(toL (nv a*2 ^ s)).length:=by rw [←h4,Zyp];omega
    rw [←h5,h4]
   have hLn:nv L=nv a*2 ^ s:=by rw [←hL,hot,Zd1,Zak];simp [nv]
   have hLL:Lm L:=by rw [←hL,hot];exact(Zal _).append λy hy=>by simp at hy;omega
   have hes:u16s o=u16s o:=rfl;have e3:((A.length:Nat):Int)+1=((A.length+1:Nat):Int):=zo
   (refine wkvp (w_6 hol @Zrf hL hLl e3 (Eq.symm hvl)) (w_1 cv) (w_s ?_);intros)
   have hUl:(L.take (A.length+1)).length=A.length+1:=by rw [Zyp];omega
   have hUn:nv (L.take (A.length+1))=nv a*2 ^ s:=by
    have h3:=Zb0 L (A.length+1);rw [hLn] at h3;rcases Zzk (nv (L.drop (A.length+1))) with h4 | h4
    ·rw [h4,ZAg,Zzf] at h3;exact h3.symm
    ·have:=ZBa (65536 ^ (A.length+1)) h4;omega
   rename_i sv2 sv';have vn:nv (toL (nv b*2 ^ s))=nv b*2 ^ s:=Zak _
   have hb20:nv b*2 ^ s≠0:=by
    have:=Nat.mul_pos (Zz7 h0) hp;omega
   have htop:=(Zer hb20).2;rw [hvl] at htop;have hTD:(L.take (A.length+1))++(L.drop (A.length+1))=L:=ZAe _ _;have clong:=fun(σ:Mem) h44=>natLong σ sv' (L.take (A.length+1)) (L.drop (A.length+1)) (toL (nv b*2 ^ s)) n hvl h44 zo (by rw [hUl];omega) (by rw [hUl,Zzx];omega) (hLL.take _) (hLL.drop _) (Zal _) htop
    (by rw [hUl,←Zwc (hLL.take _),hUn,vn];exact hdl)
   rw [hUl,hUn,vn,qe,re] at clong;refine Zmn (clong _ (by rw [hTD];(simp (disch:=omega) only [go_sem,Zrf,hL]<;>repeat' first|rfl|refine⟨?_,?_⟩))) ?_
   rintro _ σ' ⟨U',rfl,h44',hUl',hUL',hUn'⟩
   have ct:=Zay U' zo hUL';rw [hUn'] at ct;have htk:(U'++L.drop (A.length+1)).take (A.length+1)=U':=by rw [←hUl'];exact List.take_left
   rcases Zzk s with hs0 | hs0
   ·subst hs0;have cr:=natShl (toL ((nv a%nv b)*2 ^ 0)) 0 (by have:=Zan hUL';rw [hUn'] at this;omega) (Zal _) zo;rw [Zak,ZCw,ZA1,ZA1] at cr;rw [ZCw,ZA1] at ct;have ez:(0:Int) - ((0:Nat):Int)=((0:Nat):Int):=zo
    (repeat' (first|(with_reducible first|refine stp ?_|apply gx1|apply gx2|apply gx3|apply gx4|apply gx5|apply gx6|apply gx7|apply gw1 (ct)|refine gw0 (cr) ?_ ?_)|(with_reducible refine Zcv ?_;intro _)|((with_reducible refine gE ?_);(try simp (disch:=omega) only [go_sem,h44',htk,Zy8,ZA5,Zz6,ez])<;>first|rfl|omega)|with_reducible refine Zag zd ?_))
    simp (disch:=omega) only [go_sem]
   ·have cr:=natShr (toL ((nv a%nv b)*2 ^ s)) s (by have:=Zan hUL';rw [hUn'] at this;omega) (Zal _) hs0 zo;rw [Zak,Nat.mul_div_cancel _ hp] at cr;have ez:(0:Int) - (s:Int)=-(s:Int):=zo
    (repeat' (first|(with_reducible first|refine stp ?_|apply gx1|apply gx2|apply gx3|apply gx4|apply gx5|apply gx6|apply gx7|apply gw1 (ct)|refine gw0 (cr) ?_ ?_)|(with_reducible refine Zcv ?_;intro _)|((with_reducible refine gE ?_);(try simp (disch:=omega) only [go_sem,h44',htk,Zy8,ZA5,Zz6,ez])<;>first|rfl|omega)|with_reducible refine Zag zd ?_))
    simp (disch:=omega) only [go_sem]
theorem natGcd (a b:List Nat) (ha:a.length≤2000000000000) (hb:b.length≤2000000000000) (la:Lm a) (lb:Lm b):Pure prog 206 [lim a,lim b] (lim (toL (Nat.gcd (nv a) (nv b)))):=by
 have h1:=Zan la;have h2:=Zan lb
 have cu:∀x:Nat,(toL x).length≤2000000000000→Pure prog 231 [lim (toL x)] (.tup [.v (.int .u64 (if x < 18446744073709551616 then (x:Int) else 0)),.v (.bool (decide (x < 18446744073709551616)))]):=by
  intro x hx;have:=natUint (toL x) zo (Zal x)
  rwa [Zak] at this
 have cd:∀x y:Nat,(toL x).length≤2000000000000→(toL y).length≤2000000000000→y≠0→Pure prog 207 [lim (toL x),lim (toL y)] (.tup [lim (toL (x/y)),lim (toL (x%y)),.v (.int .i64 0)]):=by
  intro x y hx hy h0;have:=Zol (toL x) (toL y) hx hy (Zal x) (Zal y) (by rw [Zak];exact h0)
  rwa [Zak,Zak] at this
 refine Zaa (tok:=0) (rs:=[.tmp 4]) func206 rfl ntmps206 results206 call206 zr zs ?_
 (refine wkvp w_t (w_2 (Zmr a zo la) (Zmr b zo lb)) (w_s ?_);intros)
 refine Zad (ι:=Nat) (λy e m=>∃x,(e 0=lim (toL x)∧e 1=lim (toL y))∧(toL x).length≤2000000000000∧(toL y).length≤2000000000000∧Nat.gcd x y=Nat.gcd (nv a) (nv b)) (λy=>y) (nv b) zr ?_ ?_
 ·rintro y e m ⟨x,⟨e0,e1⟩,hx,hy,hg⟩
  rcases Zzk y with h0 | h0
  ·subst h0;have hl:=Za8.2 (rfl:(0:Nat)=0);rw [Nat.gcd_zero_right] at hg
   (refine wkvp (w_3 e0 e1 hl) w_t (w_s ?_);intros)
   simp (disch:=omega) only [go_sem,hg]
  ·have hl:0 < (toL y).length:=by
    have:=(Zer (show y≠0 by omega)).1;omega
   by_cases hs:x < 18446744073709551616∧y < 18446744073709551616
   ·obtain⟨hsx,hsy⟩:=hs;have dx:decide (x < 18446744073709551616)=true:=Zx8 hsx;have dy:decide (y < 18446744073709551616)=true:=Zx8 hsy
    (repeat' (first|(with_reducible first|refine stp ?_|apply gx1|apply gx2|apply gx3|apply gx4|apply gx5|apply gx6|apply gx7|refine gw0 (cu x hx) ?_ ?_|refine gw0 (cu y hy) ?_ ?_)|(with_reducible refine Zcv ?_;intro _)|((with_reducible refine gE ?_);(try simp (disch:=omega) only [go_sem,e0,e1,Zx5 hsx,Zx5 hsy,dx,dy])<;>first|rfl|omega)|with_reducible refine Zag zd ?_))
    refine Zad (ι:=Nat) (λY e m=>∃X:Nat,(e 5=.v (.int .u64 (X:Int))∧e 7=.v (.int .u64 (Y:Int)))∧X < 18446744073709551616∧Y < 18446744073709551616∧Nat.gcd X Y=Nat.gcd (nv a) (nv b)) (λY=>Y) y zr ?_ ?_
    ·rintro Y e m ⟨X,⟨e5,e7⟩,hX,hY,hg2⟩
     rcases Zzk Y with h3 | h3
     ·subst h3;rw [Nat.gcd_zero_right] at hg2;have co:=natOf X hX;rw [hg2] at co;rw [hg2] at e5
      (refine wkvp (w_3 e5 e7 @ZAq) (w_1 co) (w_s ?_);intros)
      simp (disch:=omega) only [go_sem]
     ·have hn:(Y:Int)≠0:=zo;have hm:=Zzu X h3
      (refine wkad (w_4 e5 e7 @Zd8 hn) w_t w_t (w_s ?_);intros)
      exact⟨X%Y,⟨Y,⟨gC,gC⟩,hY,zo,by rw [←hg2,ZBs X Y,Nat.gcd_rec Y X,ZBs]⟩,hm⟩
    ·exact⟨x,⟨gC,gC⟩,hsx,hsy,hg⟩
   ·have hm:=Zzu x h0;have hml:(toL (x%y)).length≤2000000000000:=Zye (Za0 (Nat.le_of_lt hm)) hy
    have hdd:(decide (x < 18446744073709551616) && decide (y < 18446744073709551616))=false:=by
     rw [Bool.and_eq_false_iff,ZAa,ZAa];omega
    have hgg:Nat.gcd y (x%y)=Nat.gcd (nv a) (nv b):=by rw [←hg,ZBs x y,Nat.gcd_rec y x,ZBs]
    by_cases hsx:x < 18446744073709551616
    ·have hsy:¬y < 18446744073709551616:=λh=>hs ⟨hsx,h⟩;have dx:decide (x < 18446744073709551616)=true:=Zx8 hsx;have dy:decide (y < 18446744073709551616)=false:=Zx6 hsy
     (repeat' (first|(with_reducible first|refine stp ?_|apply gx1|apply gx2|apply gx3|apply gx4|apply gx5|apply gx6|apply gx7|refine gw0 (cu x hx) ?_ ?_|refine gw0 (cu y hy) ?_ ?_|refine gw0 (cd x y hx hy zo) ?_ ?_)|(with_reducible refine Zcv ?_;intro _)|((with_reducible refine gE ?_);(try simp (disch:=omega) only [go_sem,e0,e1,Zx5 hsx,Zx4 hsy,dx,dy])<;>first|rfl|omega)|with_reducible refine Zag zd ?_))
     exact⟨x%y,⟨y,⟨gW e1,gC⟩,hy,hml,hgg⟩,hm⟩
    ·have dx:decide (x < 18446744073709551616)=false:=Zx6 hsx;by_cases hsy:y < 18446744073709551616
     ·have dy:decide (y < 18446744073709551616)=true:=Zx8 hsy
      (repeat' (first|(with_reducible first|refine stp ?_|apply gx1|apply gx2|apply gx3|apply gx4|apply gx5|apply gx6|apply gx7|refine gw0 (cu x hx) ?_ ?_|refine gw0 (cu y hy) ?_ ?_|refine gw0 (cd x y hx hy zo) ?_ ?_)|(with_reducible refine Zcv ?_;intro _)|((with_reducible refine gE ?_);(try simp (disch:=omega) only [go_sem,e0,e1,Zx4 hsx,Zx5 hsy,dx,dy])<;>first|rfl|omega)|with_reducible refine Zag zd ?_))
      exact⟨x%y,⟨y,⟨gW e1,gC⟩,hy,hml,hgg⟩,hm⟩
     ·have dy:decide (y < 18446744073709551616)=false:=Zx6 hsy
      (repeat' (first|(with_reducible first|refine stp ?_|apply gx1|apply gx2|apply gx3|apply gx4|apply gx5|apply gx6|apply gx7|refine gw0 (cu x hx) ?_ ?_|refine gw0 (cu y hy) ?_ ?_|refine gw0 (cd x y hx hy zo) ?_ ?_)|(with_reducible refine Zcv ?_;intro _)|((with_reducible refine gE ?_);(try simp (disch:=omega) only [go_sem,e0,e1,Zx4 hsx,Zx4 hsy,dx,dy])<;>first|rfl|omega)|with_reducible refine Zag zd ?_))
      exact⟨x%y,⟨y,⟨gW e1,gC⟩,hy,hml,hgg⟩,hm⟩
 ·exact⟨nv a,⟨gC,gC⟩,zo,zo,rfl⟩
theorem Zd9 (l:List Nat) (hs:l.length≤10000000000000) (hl:Lm l):Pure prog 133 [lim l] (lim (toL (nv l))):=by
 refine Zaa (tok:=0) (rs:=[.tmp 2]) func133 rfl ntmps133 results133 call133 zr zs ?_
 (refine wkvp w_t w_t (w_s ?_);intros)
 refine Zad (ι:=Nat) (λk e m=>k≤l.length∧e 0=lim l∧e 3=.v (.int .i64 (k:Int))∧∀j,k≤j→gN l j=0) (λk=>k) l.length zr ?_ ?_
 ·rintro k e m ⟨hk,e0,e3,hz⟩
  have gl:=Zbw hl (k - 1);have hln:(l.take k).length=k:=by rw [Zyp];omega
  by_cases h0:k=0
  ·subst h0;have:=Zkl hl hk hz (.inl rfl)
   (refine wkvp (w_3 e0 e3 @Zf9) w_t (w_s ?_);intros)
   simp (disch:=omega) only [go_sem];rw [←this];rfl
  ·by_cases h1:gN l (k - 1)=0
   ·(refine wkvp (w_2 e0 e3) w_t (w_s ?_);intros)
    exact⟨k - 1,⟨zo,gW e0,by(simp (disch:=omega) only [go_sem,e3];congr 2;omega),λj hj=>by
     rcases Zyr j k with h2 | h2
     ·rw [show j=k - 1 by omega];exact h1
     ·exact hz j h2⟩,zo⟩
   ·have:=Zkl hl hk hz (.inr zo)
    (refine wkvp (w_4 e0 e3 @Zf9 hln) w_t (w_s ?_);intros)
    simp (disch:=omega) only [go_sem,this]
 ·exact⟨Zx7 _,gC,gC,λj hj=>Zew hj⟩
theorem Zid (n:Nat) (hn:n < 18446744073709551616):Pure prog 66 [.v (.int .u64 (n:Int))] (lim (toL n)):=by
 have b1:=(Zac (n:=n) (k:=4)).2 hn;refine Zaa (tok:=0) (rs:=[.tmp 2]) func66 rfl ntmps66 results66 call66 zr zs ?_
 (refine wkvp w_t w_t (w_s ?_);intros)
 refine Zf5 (Frz.nilOwn (d:=3) 11 1 184 (gC)) ?_;refine Zad (ι:=Nat) (λk e m=>k≤n∧e 0=.v (.int .u64 (k:Int))∧∃sv l,e 3=.own 11 sv∧m 11=some (.row sv 184 1 (u16s l) 0)∧l++toL k=toL n) (λk=>k) n zr ?_ ?_
 ·rintro k e m ⟨hk,e0,sv,l,e3,em,hl⟩
  by_cases hk0:k=0
  ·subst hk0;rw [Zas,Zzy] at hl
   (refine wkvp (w_3 e0 e3 @ZAq) w_t (w_s ?_);intros)
   simp (disch:=omega) only [go_sem,em,hl]
  ·have b2:l.length≤(toL n).length:=by rw [←hl];simp
   have hne:k≠0:=hk0;have r1:(k:Int).tmod 65536=((k%65536:Nat):Int):=Zd8 k 65536;have r2:(k:Int).tdiv 65536=((k/65536:Nat):Int):=Zdh k 65536;have r3:k%65536%65536=k%65536:=Nat.mod_mod _ _
   (refine wkvp (w_7 e0 e3 em r1 r2 @Zbd r3) w_t (w_s ?_);intros)
   refine⟨k/65536,⟨zo,gW e0,_,l++[k%65536],gC,gC,?_⟩,zo⟩;rw [←hl,Zfr hk0];simp
 ·exact⟨Zx7 _,gC,_,[],gC,gC,by simp⟩
theorem Zrt (l:List Nat) (hs:l.length≤4) (hl:Lm l):Pure prog 192 [lim l] (.v (.int .u64 (nv l:Nat))):=by
 refine Zaa (tok:=0) (rs:=[.tmp 2]) func192 rfl ntmps192 results192 call192 zr zs ?_
 (refine wkvp w_t w_t (w_s ?_);intros)
 refine Zad (ι:=Nat) (λk e m=>k≤l.length∧e 0=lim l∧e 4=.v (.int .i64 ((k:Int) - 1))∧e 3=.v (.int .u64 (nv (l.drop k):Nat))) (λk=>k) l.length zr ?_ ?_
 ·rintro k e m ⟨hk,e0,e4,e3⟩
  by_cases h0:k=0
  ·subst h0;rw [Zz6] at e3
   (refine wkvp (w_3 e0 e4 e3) w_t (w_s ?_);intros)
   simp (disch:=omega) only [go_sem]
  ·have gl:=Zbw hl (k - 1);have b1:=Zhp (hl.drop k);have b2:65536 ^ (l.drop k).length≤65536 ^ 3:=Zzj zo (by rw [Zzx];omega);have e1:(nv (l.drop k):Int)*65536=((nv (l.drop k)*65536:Nat):Int):=zo
   (refine wkvp (w_5 e0 e4 e3 e1 @Zax) w_t (w_s ?_);intros)
   refine⟨k - 1,⟨zo,gW e0,by(simp (disch:=omega) only [go_sem,e4];congr 2;omega),?_⟩,zo⟩;simp (disch:=omega) only [go_sem];rw [Zb2 l (k - 1),show k - 1+1=k by omega];congr 3;omega
 ·exact⟨Zx7 _,gC,gC,by(simp (disch:=omega) only [go_sem,List.drop_length]<;>repeat' first|rfl|refine⟨?_,?_⟩)⟩
theorem Zh2 (l:List Nat) (i:Nat) (hs:l.length≤10000000000000) (hl:Lm l):Pure prog 179 [lim l,.v (.int .i64 (i:Int))] (.v (.int .i64 (gN l i:Nat))):=by
 have gl:=Zbw hl i;refine Zaa (tok:=0) (rs:=[.tmp 4]) func179 rfl ntmps179 results179 call179 zr zs ?_;by_cases h:i < l.length
 ·(refine wkvp w_t w_t (w_s ?_);intros)
  simp (disch:=omega) only [go_sem]
 ·have g0:gN l i=0:=Zew zo
  (refine wkvp w_t w_t (w_s ?_);intros)
  simp (disch:=omega) only [go_sem,g0];rfl
theorem Zvf (a b:List Nat) (ha:a.length≤10000000000000) (hb:b.length≤10000000000000) (la:Lm a) (lb:Lm b):Pure prog 211 [lim a,lim b] (.v (.int .i64 (cmpN (nv a) (nv b)))):=by
 have cl:=λi=>Zh2 a i ha la;have cr:=λi=>Zh2 b i hb lb;refine Zaa (tok:=0) (rs:=[.tmp 4]) func211 rfl ntmps211 results211 call211 zr zs ?_;have hmx:max (a.length:Int) (b.length:Int)=((max a.length b.length:Nat):Int):=zo;obtain⟨M,hM⟩:∃M,max a.length b.length=M:=⟨_,rfl⟩
 (refine wkvp (w_2 hmx hM) w_t (w_s ?_);intros)
 refine Zad (ι:=Nat) (λk e m=>k≤M∧e 0=lim a∧e 1=lim b∧e 5=.v (.int .i64 ((k:Int) - 1))∧nv (a.drop k)=nv (b.drop k)) (λk=>k) M zr ?_ ?_
 ·rintro k e m ⟨hk,e0,e1,e5,hz⟩
  by_cases h0:k=0
  ·subst h0;rw [Zz6,Zz6] at hz
   (refine wkvp (w_3 e0 e1 e5) w_t (w_s ?_);intros)
   simp (disch:=omega) only [go_sem,cmpN,hz,Nat.lt_irrefl,Zyu]
  ·obtain⟨j,rfl⟩:∃j,k=j+1:=⟨k - 1,zo⟩;have ej:((j+1:Nat):Int) - 1=(j:Int):=zo;rw [ej] at e5;have ga:=Zbw la j;have gb:=Zbw lb j;by_cases p1:gN a j < gN b j
   ·have:=Zr8 la lb hz p1
    (refine wkvp (w_3 e0 e1 e5) (w_2 (cl j) (cr j)) (w_s ?_);intros)
    simp (disch:=omega) only [go_sem,cmpN,Zx5 this]
   ·by_cases p2:gN b j < gN a j
    ·have:=Zr8 lb la hz.symm p2;have this2:¬nv a < nv b:=zo
     (refine wkvp (w_3 e0 e1 e5) (w_2 (cl j) (cr j)) (w_s ?_);intros)
     simp (disch:=omega) only [go_sem,cmpN,Zx5 this,Zx4 this2]
    ·(refine wkvp (w_3 e0 e1 e5) (w_2 (cl j) (cr j)) (w_s ?_);intros)
     refine⟨j,⟨zo,gW e0,gW e1,gW e5,?_⟩,zo⟩;rw [Zb2,Zb2 b,hz];omega
 ·refine⟨Zx7 _,gC,gC,gC,?_⟩;rw [Zzw zo,Zzw zo]
theorem refAdd (a b:List Nat) (ha:a.length≤4000000000000) (hb:b.length≤4000000000000) (la:Lm a) (lb:Lm b):Pure prog 178 [lim a,lim b] (lim (toL (nv a+nv b))):=by
 have cl:=λi=>Zh2 a i zo la;have cr:=λi=>Zh2 b i zo lb;refine Zaa (tok:=0) (rs:=[.tmp 4]) func178 rfl ntmps178 results178 call178 zr zs ?_
 (refine wkvp w_t w_t (w_s ?_);intros)
 refine Zf5 (Frz.nilOwn (d:=5) 39 1 184 (gC)) ?_;refine Zad (ι:=Nat) (λk e m=>k≤max a.length b.length+1∧(e 0=lim a∧e 1=lim b∧e 7=.v (.int .i64 (k:Int)))∧∃sv o c,(e 5=.own 39 sv∧e 6=.v (.int .i64 (c:Nat))∧m 39=some (.row sv 184 1 (u16s o) 0))∧o.length=k∧Lm o∧c≤1∧(max a.length b.length < k→c=0)∧nv o+65536 ^ k*c=nv (a.take k)+nv (b.take k)) (λk=>max a.length b.length+1 - k) 0 zr ?_ ?_
 ·rintro k e m ⟨hk,⟨e0,e1,e7⟩,sv,o,c,⟨e5,e6,em⟩,hol,hLo,hc,hcz,hv⟩
  by_cases hgo:k < a.length∨k < b.length∨0 < c
  ·have ga:=Zbw la k;have gb:=Zbw lb k;have hs:=Zng (x:=gN a k) (y:=gN b k) hv;rw [←Zaq,←Zaq,←Zzi] at hs;have ecomm:gN a k+gN b k+c=c+gN a k+gN b k:=zo;have w1:(c+gN a k+gN b k)/65536≤1:=zo;have w2:(c+gN a k+gN b k)%65536 < 65536:=Zzu _ zo;have r1:((c+gN a k+gN b k:Nat):Int).tmod 65536=(((c+gN a k+gN b k)%65536:Nat):Int):=Zd8 _ 65536;have r2:((c+gN a k+gN b k:Nat):Int).tdiv 65536=(((c+gN a k+gN b k)/65536:Nat):Int):=Zdh _ 65536;have r3:(c+gN a k+gN b k)%65536%65536=(c+gN a k+gN b k)%65536:=Nat.mod_mod _ _;have nvs:nv (o++[(c+gN a k+gN b k)%65536])=nv o+65536 ^ k*((c+gN a k+gN b k)%65536):=by rw [Zd1,hol];simp [nv]
   rw [←nvs] at hs
   have hz2:max a.length b.length < k+1→(c+gN a k+gN b k)/65536=0:=by
    intro h;have g1:gN a k=0:=Zew zo;have g2:gN b k=0:=Zew zo;omega
   have hkm:k≤max a.length b.length:=zo
   have fin:=fun(sv:Value) (e:Nat→AV) (m:Mem) (h1:e 0=lim a∧e 1=lim b∧e 7=.v (.int .i64 ((k+1:Nat):Int))) (h2:e 5=.own 39 sv∧e 6=.v (.int .i64 ((c+gN a k+gN b k)/65536:Nat))∧m 39=some (.row sv 184 1 (u16s (o++[(c+gN a k+gN b k)%65536])) 0)) =>
    show ∃k',(k'≤max a.length b.length+1∧(e 0=lim a∧e 1=lim b∧e 7=.v (.int .i64 (k':Int)))∧∃sv o c,(e 5=.own 39 sv∧e 6=.v (.int .i64 (c:Nat))∧m 39=some (.row sv 184 1 (u16s o) 0))∧o.length=k'∧Lm o∧c≤1∧(max a.length b.length < k'→c=0)∧nv o+65536 ^ k'*c=nv (a.take k')+nv (b.take k'))∧max a.length b.length+1 - k' < max a.length b.length+1 - k from
    ⟨k+1,⟨zo,h1,sv,_,_,h2,by simp [hol],hLo.append (Lm.one w2),w1,hz2,hs⟩,zo⟩
   by_cases h3:k < a.length
   ·(refine wkvp (w_14 e0 e1 e7 e5 e6 em hol @Zav @Zax ecomm r1 r2 r3 @Zbd) (w_2 (cl k) (cr k)) (w_s ?_);intros)
    exact fin _ _ _ ⟨gW e0,gW e1,gS⟩ ⟨gC,gC,gC⟩
   ·by_cases h4:k < b.length
    ·(refine wkvp (w_14 e0 e1 e7 e5 e6 em hol @Zav @Zax ecomm r1 r2 r3 @Zbd) (w_2 (cl k) (cr k)) (w_s ?_);intros)
     exact fin _ _ _ ⟨gW e0,gW e1,gS⟩ ⟨gC,gC,gC⟩
    ·have hc1:0 < c:=zo
     (refine wkvp (w_14 e0 e1 e7 e5 e6 em hol @Zav @Zax ecomm r1 r2 r3 @Zbd) (w_2 (cl k) (cr k)) (w_s ?_);intros)
     exact fin _ _ _ ⟨gW e0,gW e1,gS⟩ ⟨gC,gC,gC⟩
  ·have hc0:c=0:=zo;subst hc0;rw [Zbj zo,Zbj zo,ZAg,Zzf] at hv
   (repeat' (first|(with_reducible first|refine stp ?_|apply gx1|apply gx2|apply gx3|apply gx4|apply gx5|apply gx6|apply gx7|apply gw1 (Zd9 o zo hLo))|(with_reducible refine Zcv ?_;intro _)|((with_reducible refine gE ?_);(try simp (disch:=omega) only [go_sem,e0,e1,e7,e5,e6,em])<;>first|rfl|omega)|with_reducible refine Zag zd ?_))
   simp (disch:=omega) only [go_sem,hv]
 ·exact⟨zo,⟨gC,gC,gC⟩,_,[],0,⟨gC,gC,gC⟩,rfl,Lm.nil,zo,λ_=>rfl,by simp [nv]⟩
theorem refSub (a b:List Nat) (ha:a.length≤10000000000000) (hb:b.length≤10000000000000) (la:Lm a) (lb:Lm b) :
 Pure prog 180 [lim a,lim b] (.tup [lim (if nv a < nv b then [] else toL (nv a - nv b)),.v (.int .i64 (if nv a < nv b then 2 else 0))]):=by
 have cl:=λi=>Zh2 a i ha la;have cr:=λi=>Zh2 b i hb lb;have cc:=Zvf a b ha hb la lb;by_cases hlt:nv a < nv b
 ·rw [Zx5 hlt,Zx5 hlt];refine Pure.wk ?_ (okTup rfl);refine Zaa (tok:=0) (rs:=[.tmp 4,.tmp 5]) func180 rfl ntmps180 results180 call180 zr zs ?_;have hc:cmpN (nv a) (nv b)=-1:=by unfold cmpN;rw [Zx5 hlt]
  (refine wkvp (w_1 hc) (w_1 cc) (w_s ?_);intros)
  simp (disch:=omega) only [go_sem]
 ·rw [Zx4 hlt,Zx4 hlt];have hc:0≤cmpN (nv a) (nv b):=by unfold cmpN;rw [Zx4 hlt];split<;>omega
  refine Zaa (tok:=0) (rs:=[.tmp 4,.tmp 5]) func180 rfl ntmps180 results180 call180 zr zs ?_
  (refine wkvp w_t (w_1 cc) (w_s ?_);intros)
  refine Zf5 (Frz.nilOwn (d:=6) 37 1 184 (gC)) ?_;refine Zad (ι:=Nat) (λk e m=>k≤a.length∧(e 0=lim a∧e 1=lim b∧e 8=.v (.int .i64 (k:Int)))∧∃sv o r,(e 6=.own 37 sv∧e 7=.v (.int .i64 (r:Nat))∧m 37=some (.row sv 184 1 (u16s o) 0))∧o.length=k∧Lm o∧r≤1∧nv o+nv (b.take k)=nv (a.take k)+65536 ^ k*r) (λk=>a.length - k) 0 zr ?_ ?_
  ·rintro k e m ⟨hk,⟨e0,e1,e8⟩,sv,o,r,⟨e6,e7,em⟩,hol,hLo,hr,hv⟩
   have ga:=Zbw la k;have gb:=Zbw lb k;by_cases hlt2:k < a.length
   ·have step:∀(d r':Nat),d+r+gN b k=gN a k+65536*r'→d < 65536→r'≤1→(o++[d]).length=k+1∧Lm (o++[d])∧r'≤1∧nv (o++[d])+nv (b.take (k+1))=nv (a.take (k+1))+65536 ^ (k+1)*r':=by
     intro d r' hd h3 h4;have:=Zrm hv hd;have nvs:nv (o++[d])=nv o+65536 ^ k*d:=by rw [Zd1,hol];simp [nv]
     rw [nvs,Zaq,Zaq,Zzi];exact⟨by simp [hol],hLo.append (Lm.one h3),h4,this⟩
    by_cases hneg:gN a k < gN b k+r
    ·have hs:=step (gN a k+65536 - gN b k - r) 1 zo zo zo;have w:(gN a k:Int) - gN b k - r+65536=((gN a k+65536 - gN b k - r:Nat):Int):=zo
     (refine wkvp (w_8 e0 e1 e8 e6 e7 em hol w) (w_2 (cl k) (cr k)) (w_s ?_);intros)
     exact⟨k+1,⟨zo,⟨gW e0,gW e1,gV e8⟩,_,_,1,⟨gC,gC,gC⟩,hs⟩,zo⟩
    ·have hs:=step (gN a k - gN b k - r) 0 zo zo zo;have w:(gN a k:Int) - gN b k - r=((gN a k - gN b k - r:Nat):Int):=zo
     (refine wkvp (w_8 e0 e1 e8 e6 e7 em hol w) (w_2 (cl k) (cr k)) (w_s ?_);intros)
     exact⟨k+1,⟨zo,⟨gW e0,gW e1,gV e8⟩,_,_,0,⟨gC,gC,gC⟩,hs⟩,zo⟩
   ·have hka:k=a.length:=zo;have hbs:=Zb0 b k;have hno:=Zhp hLo;rw [hol] at hno;rw [Zbj (l:=a) zo] at hv
    have hno2:nv o=nv a - nv b:=by
     have hbd:nv (b.drop k)=0:=by
      rcases Zzk (nv (b.drop k)) with h3 | h3
      ·exact h3
      ·have h4:=ZBa (65536 ^ k) h3;have h5:=Zhp la;rw [←hka] at h5;omega
     rw [hbd,ZAg,Zzf] at hbs
     have hr0:r=0:=by
      rcases Zzk r with h3 | h3
      ·exact h3
      ·have:r=1:=zo;subst this;omega
     subst hr0;omega
    (repeat' (first|(with_reducible first|refine stp ?_|apply gx1|apply gx2|apply gx3|apply gx4|apply gx5|apply gx6|apply gx7|apply gw1 (Zd9 o zo hLo))|(with_reducible refine Zcv ?_;intro _)|((with_reducible refine gE ?_);(try simp (disch:=omega) only [go_sem,e0,e1,e8,e6,e7,em])<;>first|rfl|omega)|with_reducible refine Zag zd ?_))
    simp (disch:=omega) only [go_sem,hno2]
  ·exact⟨Zyi _,⟨gC,gC,gC⟩,_,[],0,⟨gC,gC,gC⟩,rfl,Lm.nil,zo,by simp [nv]⟩
def valL (l:List Nat):Bool:=decide (l.length=0) || !decide (gN l (l.length - 1)=0)
theorem Zl2 {l:List Nat} (h:Lm l):valL l=true↔l=toL (nv l):=by
 unfold valL;constructor
 ·intro h1;refine canon h ?_;simp only [Zz2,Zy1,ZAm,ZAa] at h1;rcases h1 with h1 | h1
  ·exact .inl (ZBf h1)
  ·exact .inr zo
 ·intro h1;by_cases h0:nv l=0
  ·rw [h0,Zas] at h1;subst h1;rfl
  ·obtain⟨h2,h3⟩:=Zer h0;rw [←h1] at h2 h3;simp only [Zz2,Zy1,ZAm,ZAa];exact .inr zo
theorem Zrs (l:List Nat) (hs:l.length≤10000000000000) (hl:Lm l):Pure prog 63 [lim l] (.v (.bool (valL l))):=by
 refine Zaa (tok:=0) (rs:=[.tmp 2]) func63 rfl ntmps63 results63 call63 zr zs ?_;have gl:=Zbw hl (l.length - 1);unfold valL;by_cases h0:l.length=0
 ·(refine wkvp (w_1 h0) w_t (w_s ?_);intros)
  simp (disch:=omega) only [go_sem,h0]
 ·by_cases h1:gN l (l.length - 1)=0
  ·(refine wkvp (w_2 h1 @ZAq) w_t (w_s ?_);intros)
   simp (disch:=omega) only [go_sem,h0,h1]
  ·(refine wkvp w_t w_t (w_s ?_);intros)
   simp (disch:=omega) only [go_sem,h0,h1]
theorem refSameN (a b:List Nat) (ha:a.length≤10000000000000) (hb:b.length≤10000000000000) (la:Lm a) (lb:Lm b):Pure prog 64 [lim a,lim b] (.v (.bool (decide (a=b)))):=by
 refine Zaa (tok:=0) (rs:=[.tmp 4]) func64 rfl ntmps64 results64 call64 zr zs ?_;by_cases hl:a.length=b.length
 ·(refine wkvp (w_1 hl) w_t (w_s ?_);intros)
  refine Zad (ι:=Nat) (λk e m=>k≤a.length∧(e 0=lim a∧e 1=lim b∧e 5=.v (.int .i64 (k:Int)))∧∀j,j < k→gN a j=gN b j) (λk=>a.length - k) 0 zr ?_ ?_
  ·rintro k e m ⟨hk,⟨e0,e1,e5⟩,hs⟩
   by_cases hlt:k < a.length
   ·by_cases p:gN a k=gN b k
    ·(refine wkad (w_3 e0 e1 e5) w_t w_t (w_s ?_);intros)
     exact⟨k+1,⟨zo,⟨gW e0,gW e1,gV e5⟩,λj hj=>by
      rcases Zyr j k with h1 | h1
      ·exact hs j h1
      ·rw [show j=k by omega];exact p⟩,zo⟩
    ·have hne:decide (a=b)=false:=Zx6 λh=>p (by rw [h])
     (refine wkad (w_3 e0 e1 e5) w_t w_t (w_s ?_);intros)
     simp (disch:=omega) only [go_sem,hne]
   ·have he:decide (a=b)=true:=Zx8 (List.ext_getElem hl λj h1 h2=>by
     have:=hs j zo
     rwa [gN_at h1,gN_at h2] at this)
    (refine wkad (w_3 e0 e1 e5) w_t w_t (w_s ?_);intros)
    simp (disch:=omega) only [go_sem,he]
  ·exact⟨Zyi _,⟨gC,gC,gC⟩,λj hj=>zo⟩
 ·have hne:decide (a=b)=false:=Zx6 λh=>hl (by rw [h])
  (refine wkvp w_t w_t (w_s ?_);intros)
  simp (disch:=omega) only [go_sem,hne]
theorem Zve (a b:List Nat) (ha:a.length≤4000000000000) (hb:b.length≤4000000000000) (la:Lm a) (lb:Lm b):Pure prog 110 [lim a,lim b] (lim (toL (nv a*nv b))):=by
 have cr:=λi=>Zh2 b i zo lb;refine Zaa (tok:=0) (rs:=[.tmp 4]) func110 rfl ntmps110 results110 call110 zr zs ?_
 (refine wkvp (w_2 @Zax @Zbm) w_t (w_s ?_);intros)
 refine Zad (ι:=Nat) (λi e m=>i≤a.length∧(e 0=lim a∧e 1=lim b∧e 6=.v (.int .i64 i))∧∃sv o,(e 5=.own 16 sv∧m 16=some (.row sv 184 1 (u16s o) 0))∧o.length=a.length+b.length+1∧Lm o∧(∀j,i+b.length≤j→gN o j=0)∧nv o=nv (a.take i)*nv b) (λi=>a.length - i) 0 zr ?_ ?_
 ·rintro i e m ⟨hi,⟨e0,e1,e6⟩,sv,o,⟨e5,em⟩,hol,hLo,hz,hv⟩
  by_cases hlt:i < a.length
  ·have gx:=Zbw la i
   (refine wkvp (w_7 e0 e1 e6 e5 em hol @Zax) w_t (w_s ?_);intros)
   refine Zad (ι:=Nat) (λk e' m'=>k≤b.length+1∧(e' 0=lim a∧e' 1=lim b∧e' 6=.v (.int .i64 i)∧e' 8=.v (.int .i64 k)∧e' 5=.own 16 sv)∧∃o' c,(e' 7=.v (.int .u64 (c:Nat))∧m' 16=some (.row sv 184 1 (u16s o') 0))∧o'.length=a.length+b.length+1∧Lm o'∧c < 65536∧(b.length < k→c=0)∧(∀j,i+max b.length k≤j→gN o' j=0)∧nv o'+65536 ^ (i+k)*c=nv o+65536 ^ i*nv (b.take k)*gN a i) (λk=>b.length+1 - k) 0 zr ?_ ?_
   ·rintro k e m ⟨hk,⟨e0,e1,e6,e8,e5⟩,o',c,⟨e7,em⟩,hol',hLo',hc,hcz,hz',hv'⟩
    have gy:=Zbw lb k;have go:=Zbw hLo' (i+k);have bd:=Zon gx gy;by_cases hgo:k < b.length∨0 < c
    ·have hkb:k≤b.length:=by
      rcases hgo with h | h
      ·omega
      ·rcases Zyr b.length k with h2 | h2
       ·have:=hcz h2;omega
       ·exact h2
     have hs:=Zsd (x:=gN a i) (y:=gN b k) rfl (Zoh (o:=o') (j:=i+k) zo _) hv';rw [←Zse,←Zaq,←Zzi,Nat.succ_eq_add_one,ZCk i] at hs;have ecomm:gN o' (i+k)+gN a i*gN b k+c=c+(gN o' (i+k)+gN a i*gN b k):=zo
     have hcz2:b.length < k+1→(c+(gN o' (i+k)+gN a i*gN b k))/65536=0:=by
      intro h;have g1:gN b k=0:=Zew zo;have g2:=hz' (i+k) zo;rw [g1,g2];omega
     have w1:(c+(gN o' (i+k)+gN a i*gN b k))/65536 < 65536:=zo;have w2:(c+(gN o' (i+k)+gN a i*gN b k))%65536 < 65536:=zo;generalize hxy:gN a i*gN b k=xy at *;have r1:((c+(gN o' (i+k)+xy):Nat):Int).tmod 65536=(((c+(gN o' (i+k)+xy))%65536:Nat):Int):=Zd8 _ 65536;have r2:((c+(gN o' (i+k)+xy):Nat):Int).tdiv 65536=(((c+(gN o' (i+k)+xy))/65536:Nat):Int):=Zdh _ 65536;have r3:(c+(gN o' (i+k)+xy))%65536%65536=(c+(gN o' (i+k)+xy))%65536:=Nat.mod_mod _ _;have hzz:∀j,i+max b.length (k+1)≤j→gN (o'.set (i+k) ((c+(gN o' (i+k)+xy))%65536)) j=0:=λj hj=>by
      rw [Zfz zo,Zx4 zo];exact hz' j zo
     by_cases h3:k < b.length
     ·(refine wkad (w_16 e0 e1 e6 e8 e5 e7 em hol' @Zax @Zh4 @Zbd hxy ecomm r1 r2 r3) (w_1 (cr k)) (w_1 (w_d 9 [(14,.v (.int .i64 (gN b k:Nat)))] [] [])) (w_s ?_);intros)
      exact⟨k+1,⟨zo,⟨gW e0,gW e1,gW e6,gS,gW e5⟩,_,_,⟨gC,gC⟩,by simpa using hol',hLo'.set _ w2,w1,hcz2,hzz,hs⟩,zo⟩
     ·have hc1:0 < c:=zo;(focus (refine wkad (w_16 e0 e1 e6 e8 e5 e7 em hol' @Zax @Zh4 @Zbd hxy ecomm r1 r2 r3) (w_1 (cr k)) (w_1 (w_d 9 [(14,.v (.int .i64 (gN b k:Nat)))] [] [])) ?_;(repeat' first|exact w_t|apply w_l);all_goals intros));exact⟨k+1,⟨zo,⟨gW e0,gW e1,gW e6,gS,gW e5⟩,_,_,⟨gC,gC⟩,by simpa using hol',hLo'.set _ w2,w1,hcz2,hzz,hs⟩,zo⟩
    ·have hc0:c=0:=zo;subst hc0;rw [Zbj (l:=b) zo,ZAg,Zzf] at hv';(focus (refine wkad (w_8 e0 e1 e6 e8 e5 e7 em @ZAq) w_t w_t ?_;(repeat' first|exact w_t|apply w_l);all_goals intros));refine⟨i+1,⟨zo,⟨gW e0,gW e1,gS⟩,sv,o',⟨gW e5,gW em⟩,hol',hLo',λj hj=>hz' j zo,?_⟩,zo⟩;rw [hv',hv,Zaq,Zy4];congr 1;simp only [Zzm,Zy9,ZBk]
   ·exact⟨zo,⟨gW e0,gW e1,gW e6,gC,gW e5⟩,_,0,⟨gC,gW em⟩,hol,hLo,zo,λ_=>rfl,λj hj=>hz j zo,by simp [nv]⟩
  ·have hiA:i=a.length:=zo;subst hiA;rw [Zbj (Zx7 _)] at hv
   (repeat' (first|(with_reducible first|refine stp ?_|apply gx1|apply gx2|apply gx3|apply gx4|apply gx5|apply gx6|apply gx7|apply gw1 (Zd9 o zo hLo))|(with_reducible refine Zcv ?_;intro _)|((with_reducible refine gE ?_);(try simp (disch:=omega) only [go_sem,e0,e1,e6,e5,em,hol])<;>first|rfl|omega)|with_reducible refine Zag zd ?_))
   simp (disch:=omega) only [go_sem,hv]
 ·exact⟨Zyi _,⟨gC,gC,gC⟩,_,List.replicate (a.length+b.length+1) 0,⟨gC,gC⟩,by simp,Lm.zeros _,λj hj=>Zhi _ _,by simp [nv,Zmp]⟩
theorem refDigit (R B:Nat) (hR:(toL R).length≤3000000000000) (hB:(toL B).length≤2000000000000) (h0:0 < B) (hlt:R < B*65536):Pure prog 193 [lim (toL R),lim (toL B)] (.v (.int .u64 ((R/B:Nat):Int))):=by
 refine Zaa (tok:=0) (rs:=[.tmp 4]) func193 rfl ntmps193 results193 call193 zr zs ?_
 (refine wkvp w_t w_t (w_s ?_);intros)
 refine Zad (ι:=Nat × Nat) (λp e m=>(e 0=lim (toL R)∧e 1=lim (toL B)∧e 5=.v (.int .u64 (p.1:Int))∧e 6=.v (.int .u64 (p.2:Int)))∧p.1≤p.2∧p.2≤65535∧B*p.1≤R∧R < B*(p.2+1)) (λp=>p.2 - p.1) (0,65535) zr ?_ ?_
 ·rintro ⟨lo,hi⟩ e m ⟨⟨e0,e1,e5,e6⟩,h1,h2,h3,h4⟩
  simp only at e5 e6 h1 h2 h3 h4;by_cases hlh:lo < hi
  ·obtain⟨mid,hmid⟩:∃mid,(lo+hi+1)/2=mid:=⟨_,rfl⟩;have r2:((lo+hi+1:Nat):Int).tdiv 2=((mid:Nat):Int):=by rw [←hmid];exact Zdh _ 2
   have co:=Zid mid zo;have lm:(toL mid).length≤4:=Zac.2 zo;have cm:=Zve (toL B) (toL mid) zo zo (Zal _) (Zal _);rw [Zak,Zak] at cm
   have lbm:(toL (B*mid)).length≤10000000000000:=by
    have h5:(toL (B*mid)).length≤(toL B).length+4:=by
     rw [Zac,Zzo];have h6:=Zac.1 (Zx7 (toL B).length);exact Nat.mul_lt_mul'' h6 zo
    omega
   have cc:=Zvf (toL (B*mid)) (toL R) lbm zo (Zal _) (Zal _);rw [Zak,Zak] at cc;by_cases hle:B*mid≤R
   ·have hc:cmpN (B*mid) R≤0:=by unfold cmpN;split;omega;split<;>omega
    (refine wkvp (w_8 e0 e1 e5 e6 @Zax @Zbm r2 hc) (w_3 co cm cc) (w_s ?_);intros)
    exact⟨(mid,hi),⟨⟨gW e0,gW e1,gC,gW e6⟩,zo,h2,hle,h4⟩,by simp only;omega⟩
   ·have hc:0 < cmpN (B*mid) R:=by unfold cmpN;rw [Zx4 zo,Zx5 zo];omega
    have em1:(mid:Int) - 1=((mid - 1:Nat):Int):=zo
    (refine wkvp (w_9 e0 e1 e5 e6 @Zax @Zbm r2 hc em1) (w_3 co cm cc) (w_s ?_);intros)
    exact⟨(lo,mid - 1),⟨⟨gW e0,gW e1,gW e5,gC⟩,by simp only;omega,by simp only;omega,h3,by simp only;rw [show mid - 1+1=mid by omega];omega⟩,by simp only;omega⟩
  ·have hh:lo=hi:=zo;subst hh;have hd:R/B=lo:=Nat.div_eq_of_lt_le (by rw [Zy9];exact h3) (by rw [Zy9];exact h4)
   (refine wkvp (w_4 e0 e1 e5 e6) w_t (w_s ?_);intros)
   simp (disch:=omega) only [go_sem,hd]
 ·exact⟨⟨gC,gC,gC,gC⟩,by simp,by simp,by simp,by simpa using hlt⟩
theorem Znl (x:Nat) (l:List Nat):AV.v (.int .u16 (x:Int)) :: u16s l=u16s (x :: l):=rfl
theorem Zny (a b:List Nat) (ha:a.length≤2000000000000) (hb:b.length≤2000000000000) (la:Lm a) (lb:Lm b) (h0:nv b≠0):Pure prog 134 [lim a,lim b] (.tup [lim (toL (nv a/nv b)),lim (toL (nv a%nv b)),.v (.int .i64 0)]):=by
 have h1:=Zan la;have h2:=Zan lb;have va:=Zak (nv a);have vb:=Zak (nv b);have ma:=Zal (nv a);have mb:=Zal (nv b);have hb1:=(Zer h0).1;have hbp:=Zz7 h0;by_cases h4:(toL (nv a)).length≤4∧(toL (nv b)).length≤4
 ·obtain⟨h4a,h4b⟩:=h4;have ca:=Zrt (toL (nv a)) h4a ma;have cb:=Zrt (toL (nv b)) h4b mb;rw [va] at ca;rw [vb] at cb;have hA:=Zac.1 h4a;have hB:=Zac.1 h4b;have hq:=ZCv (nv a) (nv b);have hr:=Nat.mod_le (nv a) (nv b);have cq:=Zid (nv a/nv b) zo;have cr:=Zid (nv a%nv b) zo;have wq:IntKind.u64.wrap ((nv a/nv b:Nat):Int)=((nv a/nv b:Nat):Int):=Zf3 (ZB4 _) (by
   have:((nv a/nv b:Nat):Int)≤(nv a:Int):=Int.ofNat_le.2 hq;omega)
  have hn:((nv b:Nat):Int)≠0:=zo;refine Zaa (tok:=0) (rs:=[.tmp 4,.tmp 5,.tmp 6]) func134 rfl ntmps134 results134 call134 zr zs ?_
  (refine wkad (w_4 @Zdh @Zd8 wq hn) (w_6 (Zd9 a zo la) (Zd9 b zo lb) ca cb cq cr) w_t (w_s ?_);intros)
  simp (disch:=omega) only [go_sem]
 ·have h4':((toL (nv a)).length≤4)→4 < (toL (nv b)).length:=λh=>by
   rcases Zyr 4 (toL (nv b)).length with h3 | h3
   ·exact h3
   ·exact absurd ⟨h,h3⟩ h4
  obtain⟨A,hA⟩:∃A,toL (nv a)=A:=⟨_,rfl⟩;rw [hA] at va ma h1 h4';refine Zaa (tok:=0) (rs:=[.tmp 4,.tmp 5,.tmp 6]) func134 rfl ntmps134 results134 call134 zr zs ?_;rcases Zyr 4 A.length with h5 | h5
  rotate_left
  have h6:=h4' h5;all_goals
   (refine wkvp (w_1 hA) (w_2 (Zd9 a zo la) (Zd9 b zo lb)) (w_s ?_);intros)
   rw [hA];refine Zf5 (Frz.trans (Frz.nil (d:=7) 1 (gC)) (Frz.nil (d:=8) 1 (gC))) ?_;refine r_loopF (ι:=Nat) (λk e m=>k≤A.length∧(e 0=lim A∧e 1=lim (toL (nv b))∧e 9=.v (.int .i64 ((k:Int) - 1)))∧∃ql R,(e 7=lim ql∧e 8=lim (toL R))∧ql.length=A.length - k∧Lm ql∧R < nv b∧nv (A.drop k)=nv ql*nv b+R) (λk=>k) A.length zr ?_ ?_
   ·rintro k e m ⟨hk,⟨e0,e1,e9⟩,ql,R,⟨e7,e8⟩,hql,hqL,hR,hv⟩
    by_cases hk0:k=0
    ·subst hk0;rw [Zz6,va] at hv;have hq:nv ql=nv a/nv b:=by rw [hv,Zy9,Nat.mul_add_div hbp,ZCt hR,Zzf]
     have hr:R=nv a%nv b:=by rw [hv,Zy9,Nat.mul_add_mod,ZAd hR]
     have cn:=Zd9 ql zo hqL;rw [hq] at cn;rw [hr] at e8
     (refine wkvp (w_5 e0 e1 e9 e7 e8) (w_1 cn) (w_s ?_);intros)
     simp (disch:=omega) only [go_sem]
    ·obtain⟨j,rfl⟩:∃j,k=j+1:=⟨k - 1,zo⟩;have ej:((j+1:Nat):Int) - 1=(j:Int):=zo;rw [ej] at e9;have gx:=Zbw ma j;have hRl:(toL R).length≤(toL (nv b)).length:=Za0 zo;have cn:=Zd9 (gN A j :: toL R) (by simp;omega) (λy hy=>by
      rcases List.mem_cons.1 hy with rfl | hy
      ·exact gx
      ·exact Zal R y hy)
     have en:nv (gN A j :: toL R)=gN A j+65536*R:=by rw [nv,Zak]
     rw [en] at cn;have hX:gN A j+65536*R < nv b*65536:=zo;obtain⟨X,hXd⟩:∃X,gN A j+65536*R=X:=⟨_,rfl⟩;rw [hXd] at cn hX
     have hXl:(toL X).length≤(toL (nv b)).length+1:=by
      rw [Zac,Zzi];exact Zzz hX (Zy5 _ (Nat.le_of_lt (Zac.1 (Zx7 (toL (nv b)).length))))
     have cd:=refDigit X (nv b) zo zo hbp hX;have hd:X/nv b < 65536:=by rw [ZA7 hbp,Zy9];exact hX
     have hdm:=ZA6 X (nv b);have hml:=Zzu X hbp;have co:=Zid (X/nv b) zo;have ld:(toL (X/nv b)).length≤1:=Zac.2 zo;have cm:=Zve (toL (nv b)) (toL (X/nv b)) zo zo (Zal _) (Zal _);rw [Zak,Zak] at cm;have hle:nv b*(X/nv b)≤X:=zo;have cs:=refSub (toL X) (toL (nv b*(X/nv b))) zo (Zye (Za0 hle) zo) (Zal _) (Zal _);rw [Zak,Zak,Zx4 zo,Zx4 zo,show X - nv b*(X/nv b)=X%nv b by omega] at cs;have hcut:X/nv b%65536=X/nv b:=ZAd hd
     (repeat' (first|(with_reducible first|refine stp ?_|apply gx1|apply gx2|apply gx3|apply gx4|apply gx5|apply gx6|apply gx7|apply gw1 (cn)|refine gw0 (cd) ?_ ?_|refine gw0 (co) ?_ ?_|refine gw0 (cm) ?_ ?_|refine gw0 (cs) ?_ ?_)|(with_reducible refine Zcv ?_;intro _)|((with_reducible refine gE ?_);(try simp (disch:=omega) only [go_sem,e0,e1,e9,e7,e8,Znl,Zbd,hcut])<;>first|rfl|omega)|with_reducible refine Zag zd ?_))
     refine⟨j,_,Frz.own (d:=7) (gC) (gC),⟨zo,⟨gW e0,gW e1,gC⟩,X/nv b :: ql,X%nv b,⟨by(simp (disch:=omega) only [go_sem,Znl]<;>repeat' first|rfl|refine⟨?_,?_⟩),gC⟩,by simp [hql];omega,?_,hml,?_⟩,zo⟩
     ·intro y hy;rcases List.mem_cons.1 hy with rfl | hy
      ·exact hd
      ·exact hqL y hy
     ·rw [Zb2,hv,nv,Zy4,Zza 65536,←hXd];rw [←hXd] at hdm;rw [Zy9] at hdm;have:65536*(nv ql*nv b)=65536*nv ql*nv b:=by rw [Zzm]
      omega
   ·exact⟨Zx7 _,⟨gC,gC,gC⟩,[],0,⟨by(simp (disch:=omega) only [go_sem,Zrh]<;>repeat' first|rfl|refine⟨?_,?_⟩),by(simp (disch:=omega) only [go_sem,Zas,Zrh]<;>repeat' first|rfl|refine⟨?_,?_⟩)⟩,by simp,Lm.nil,hbp,by rw [Zzw (Zx7 _)];simp [nv]⟩
theorem refGcd (a b:List Nat) (ha:a.length≤2000000000000) (hb:b.length≤2000000000000) (la:Lm a) (lb:Lm b):Pure prog 65 [lim a,lim b] (lim (toL (Nat.gcd (nv a) (nv b)))):=by
 have h1:=Zan la;have h2:=Zan lb
 have cd:∀x y:Nat,(toL x).length≤2000000000000→(toL y).length≤2000000000000→y≠0→Pure prog 134 [lim (toL x),lim (toL y)] (.tup [lim (toL (x/y)),lim (toL (x%y)),.v (.int .i64 0)]):=by
  intro x y hx hy h0;have:=Zny (toL x) (toL y) hx hy (Zal x) (Zal y) (by rw [Zak];exact h0)
  rwa [Zak,Zak] at this
 refine Zaa (tok:=0) (rs:=[.tmp 4]) func65 rfl ntmps65 results65 call65 zr zs ?_
 (refine wkvp w_t (w_2 (Zd9 a zo la) (Zd9 b zo lb)) (w_s ?_);intros)
 refine Zad (ι:=Nat) (λy e m=>∃x,(e 0=lim (toL x)∧e 1=lim (toL y))∧(toL x).length≤2000000000000∧(toL y).length≤2000000000000∧Nat.gcd x y=Nat.gcd (nv a) (nv b)) (λy=>y) (nv b) zr ?_ ?_
 ·rintro y e m ⟨x,⟨e0,e1⟩,hx,hy,hg⟩
  rcases Zzk y with h0 | h0
  ·subst h0;have hl:=Za8.2 (rfl:(0:Nat)=0);rw [Nat.gcd_zero_right] at hg
   (refine wkvp (w_3 e0 e1 hl) w_t (w_s ?_);intros)
   simp (disch:=omega) only [go_sem,hg]
  ·have hl:0 < (toL y).length:=by
    have:=(Zer (show y≠0 by omega)).1;omega
   have hm:=Zzu x h0;have hml:(toL (x%y)).length≤2000000000000:=Zye (Za0 (Nat.le_of_lt hm)) hy;have hgg:Nat.gcd y (x%y)=Nat.gcd (nv a) (nv b):=by rw [←hg,ZBs x y,Nat.gcd_rec y x,ZBs]
   (refine wkvp (w_2 e0 e1) (w_1 (cd x y hx hy zo)) (w_s ?_);intros)
   exact⟨x%y,⟨y,⟨gW e1,gC⟩,hy,hml,hgg⟩,hm⟩
 ·exact⟨nv a,⟨gC,gC⟩,zo,zo,rfl⟩
theorem nAdd (n m:Nat) (hn:(toL n).length≤1000000000000) (hm:(toL m).length≤1000000000000):Pure prog 251 [lim (toL n),lim (toL m)] (lim (toL (n+m))):=by
 have:=natAdd (toL n) (toL m) zo zo (Zal _) (Zal _)
 rwa [Zak,Zak] at this
theorem nMul (n m:Nat) (hn:(toL n).length≤1000000000000) (hm:(toL m).length≤1000000000000):Pure prog 154 [lim (toL n),lim (toL m)] (lim (toL (n*m))):=by
 have:=natMul (toL n) (toL m) zo zo (Zal _) (Zal _)
 rwa [Zak,Zak] at this
theorem nCmp (n m:Nat) (hn:(toL n).length≤1000000000000) (hm:(toL m).length≤1000000000000):Pure prog 232 [lim (toL n),lim (toL m)] (.v (.int .i64 (cmpN n m))):=by
 have:=Zsa (toL n) (toL m) zo zo (Zal _) (Zal _)
 rwa [Zak,Zak] at this
theorem nSub (n m:Nat) (hn:(toL n).length≤1000000000000) (hm:(toL m).length≤1000000000000):Pure prog 252 [lim (toL n),lim (toL m)] (.tup [lim (if n < m then [] else toL (n - m)),.v (.int .i64 (if n < m then 2 else 0))]):=by
 have:=natSub (toL n) (toL m) zo zo (Zal _) (Zal _)
 rwa [Zak,Zak] at this
theorem Zwg (n m:Nat) (hn:(toL n).length≤1000000000000) (hm:(toL m).length≤1000000000000) (h0:m≠0):Pure prog 207 [lim (toL n),lim (toL m)] (.tup [lim (toL (n/m)),lim (toL (n%m)),.v (.int .i64 0)]):=by
 have:=Zol (toL n) (toL m) zo zo (Zal _) (Zal _) (by rw [Zak];exact h0)
 rwa [Zak,Zak] at this
theorem nGcd (n m:Nat) (hn:(toL n).length≤1000000000000) (hm:(toL m).length≤1000000000000):Pure prog 206 [lim (toL n),lim (toL m)] (lim (toL (Nat.gcd n m))):=by
 have:=natGcd (toL n) (toL m) zo zo (Zal _) (Zal _)
 rwa [Zak,Zak] at this
theorem Zqp (n:Nat) (hn:(toL n).length≤1000000000000):Pure prog 204 [lim (toL n)] (lim (toL n)):=by
 have:=Zmr (toL n) zo (Zal _)
 rwa [Zak] at this
theorem nBits (n:Nat) (hn:(toL n).length≤1000000000000):Pure prog 188 [lim (toL n)] (.v (.int .i64 (Znd n:Nat))):=by
 have:=natBits (toL n) zo (Zal _)
 rwa [Zak] at this
theorem rAdd (n m:Nat) (hn:(toL n).length≤1000000000000) (hm:(toL m).length≤1000000000000):Pure prog 178 [lim (toL n),lim (toL m)] (lim (toL (n+m))):=by
 have:=refAdd (toL n) (toL m) zo zo (Zal _) (Zal _)
 rwa [Zak,Zak] at this
theorem rMul (n m:Nat) (hn:(toL n).length≤1000000000000) (hm:(toL m).length≤1000000000000):Pure prog 110 [lim (toL n),lim (toL m)] (lim (toL (n*m))):=by
 have:=Zve (toL n) (toL m) zo zo (Zal _) (Zal _)
 rwa [Zak,Zak] at this
theorem rCmp (n m:Nat) (hn:(toL n).length≤1000000000000) (hm:(toL m).length≤1000000000000):Pure prog 211 [lim (toL n),lim (toL m)] (.v (.int .i64 (cmpN n m))):=by
 have:=Zvf (toL n) (toL m) zo zo (Zal _) (Zal _)
 rwa [Zak,Zak] at this
theorem rSub (n m:Nat) (hn:(toL n).length≤1000000000000) (hm:(toL m).length≤1000000000000):Pure prog 180 [lim (toL n),lim (toL m)] (.tup [lim (if n < m then [] else toL (n - m)),.v (.int .i64 (if n < m then 2 else 0))]):=by
 have:=refSub (toL n) (toL m) zo zo (Zal _) (Zal _)
 rwa [Zak,Zak] at this
theorem Zvm (n m:Nat) (hn:(toL n).length≤1000000000000) (hm:(toL m).length≤1000000000000) (h0:m≠0):Pure prog 134 [lim (toL n),lim (toL m)] (.tup [lim (toL (n/m)),lim (toL (n%m)),.v (.int .i64 0)]):=by
 have:=Zny (toL n) (toL m) zo zo (Zal _) (Zal _) (by rw [Zak];exact h0)
 rwa [Zak,Zak] at this
theorem rGcd (n m:Nat) (hn:(toL n).length≤1000000000000) (hm:(toL m).length≤1000000000000):Pure prog 65 [lim (toL n),lim (toL m)] (lim (toL (Nat.gcd n m))):=by
 have:=refGcd (toL n) (toL m) zo zo (Zal _) (Zal _)
 rwa [Zak,Zak] at this
theorem Zvl (n:Nat) (hn:(toL n).length≤1000000000000):Pure prog 133 [lim (toL n)] (lim (toL n)):=by
 have:=Zd9 (toL n) zo (Zal _)
 rwa [Zak] at this
theorem szB:szOf prog 4=some 1:=by kernel_rfl
theorem zB:Zar prog 4=some (.bool false):=by kernel_rfl
theorem Zbb:szOf prog 55=some 1:=by kernel_rfl
theorem zNat:Zar prog 55=some (.slice none 0 0):=by kernel_rfl
theorem Zbc:szOf prog 57=some 2:=by kernel_rfl
theorem zInt:Zar prog 57=some (.agg #[.bool false,.slice none 0 0]):=by kernel_rfl
theorem Zba:szOf prog 59=some 3:=by kernel_rfl
theorem zRat:Zar prog 59=some (.agg #[.bool false,.slice none 0 0,.slice none 0 0]):=by kernel_rfl
abbrev intA (s:Bool) (n:Nat):AV:=.agg [.v (.bool s),lim (toL n)]
def zI (s:Bool) (n:Nat):Int:=if s then -(n:Int) else n
abbrev intZ (z:Int):AV:=intA (decide (z < 0)) z.natAbs
theorem Zb7 (z:Int):zI (decide (z < 0)) z.natAbs=z:=by
 unfold zI;by_cases h:z < 0
 ·rw [Zx5 (by simpa using h)];omega
 ·rw [Zx4 (by simpa using h)];omega
theorem Zeh (s:Bool) (n:Nat):(zI s n).natAbs=n:=by cases s<;>simp [zI]
theorem zI_lt (s:Bool) (n:Nat):decide (zI s n < 0)=(s && decide (0 < n)):=by
 cases s
 ·simp [zI]
 ·simp only [zI,Zy2,Zzv];by_cases h:0 < n
  ·rw [Zx8 zo,Zx8 h]
  ·rw [Zx6 zo,Zx6 h]
theorem Zi2 (s:Bool) (n:Nat):intZ (zI s n)=.agg [.v (.bool (s && decide (0 < n))),lim (toL n)]:=by
 unfold intZ intA;rw [zI_lt,Zeh]
theorem Zbn {n:Nat}:(0 < (toL n).length)↔0 < n:=by
 have:=@Za8 n;omega
attribute [go_sem] underlying57 underlying59 underlying34 underlying242 szB zB zNat zInt zRat
attribute [local go_sem] Zbb Zbc Zba
theorem Zi3 (s:Bool) (n:Nat) (hn:(toL n).length≤10000000000000):Pure prog 208 [.v (.bool s),lim (toL n)] (intZ (zI s n)):=by
 rw [Zi2];have hp:=@Zbn n;cases s
 ·refine pI func208 rfl ntmps208 results208 call208 ?_
  (refine wkvp w_t w_t (w_s ?_);intros)
  simp (disch:=omega) only [go_sem,Zzb]
 ·by_cases h:0 < n
  ·refine pI func208 rfl ntmps208 results208 call208 ?_
   (refine wkvp w_t w_t (w_s ?_);intros)
   simp (disch:=omega) only [go_sem,Zx8 h]
  ·refine pI func208 rfl ntmps208 results208 call208 ?_
   (refine wkvp w_t w_t (w_s ?_);intros)
   simp (disch:=omega) only [go_sem,Zx6 h]
theorem intOf' (s:Bool) (n:Nat) (hn:(toL n).length≤1000000000000):Pure prog 230 [.v (.bool s),lim (toL n)] (intZ (zI s n)):=by
 rw [Zi2];have hp:=@Zbn n;cases s
 ·refine pI func230 rfl ntmps230 results230 call230 ?_
  (refine wkvp w_t (w_1 (Zqp n hn)) (w_s ?_);intros)
  simp (disch:=omega) only [go_sem,Zzb]
 ·by_cases h:0 < n
  ·refine pI func230 rfl ntmps230 results230 call230 ?_
   (refine wkvp w_t (w_1 (Zqp n hn)) (w_s ?_);intros)
   simp (disch:=omega) only [go_sem,Zx8 h]
  ·refine pI func230 rfl ntmps230 results230 call230 ?_
   (refine wkvp w_t (w_1 (Zqp n hn)) (w_s ?_);intros)
   simp (disch:=omega) only [go_sem,Zx6 h]
theorem intNorm (s:Bool) (n:Nat) (hn:(toL n).length≤1000000000000):Pure prog 205 [intA s n] (intZ (zI s n)):=by
 refine pI func205 rfl ntmps205 results205 call205 ?_
 (refine wkvp w_t (w_1 (intOf' s n hn)) (w_s ?_);intros)
 simp (disch:=omega) only [go_sem]
theorem Zqx (s:Bool) (n:Nat) (hn:(toL n).length≤1000000000000):Pure prog 127 [intA s n] (.v (.int .i64 (zI s n).sign)):=by
 by_cases h:n=0
 ·have hb:Znd n=0:=Zhl.2 h;have hz:(zI s n).sign=0:=by subst h;cases s<;>rfl
  rw [hz];refine pI func127 rfl ntmps127 results127 call127 ?_
  (refine wkvp (w_2 hb @ZAq) (w_1 (nBits n hn)) (w_s ?_);intros)
  simp (disch:=omega) only [go_sem]
 ·have hb:Znd n≠0:=λe=>h (Zhl.1 e);cases s
  ·have hz:(zI false n).sign=1:=ZCx (by simp [zI];omega);rw [hz];refine pI func127 rfl ntmps127 results127 call127 ?_
   (refine wkvp w_t (w_1 (nBits n hn)) (w_s ?_);intros)
   simp (disch:=omega) only [go_sem]
  ·have hz:(zI true n).sign=-1:=ZBv (by simp [zI];omega);rw [hz];refine pI func127 rfl ntmps127 results127 call127 ?_
   (refine wkvp w_t (w_1 (nBits n hn)) (w_s ?_);intros)
   simp (disch:=omega) only [go_sem]
def cmpZ (a b:Int):Int:=if a < b then -1 else if b < a then 1 else 0
theorem Zwz (n m:Nat) (hn:(toL n).length≤1000000000000) (hm:(toL m).length≤1000000000000):Pure prog 248 [lim (toL n),lim (toL m)] (.v (.int .i64 (cmpN n m))):=by
 refine pI func248 rfl ntmps248 results248 call248 ?_
 (refine wkvp w_t (w_1 (nCmp n m hn hm)) (w_s ?_);intros)
 simp (disch:=omega) only [go_sem]
theorem intCmp (s t:Bool) (n m:Nat) (hn:(toL n).length≤1000000000000) (hm:(toL m).length≤1000000000000):Pure prog 224 [intA s n,intA t m] (.v (.int .i64 (cmpZ (zI s n) (zI t m)))):=by
 have cs:=Zqx s n hn;have ct:=Zqx t m hm;rcases ZBw (zI s n).sign (zI t m).sign with h | h | h
 ·have hc:cmpZ (zI s n) (zI t m)=-1:=by
   unfold cmpZ;rw [Zx5];rcases ZBw (zI s n) 0 with h1 | h1 | h1<;>rcases ZBw (zI t m) 0 with h2 | h2 | h2<;>first
    | omega
    | (exfalso;simp [ZBv,ZCx,h1,h2] at h)
  rw [hc];refine pI func224 rfl ntmps224 results224 call224 ?_
  (refine wkad w_t (w_2 cs ct) (w_1 (w_d 1 [(1,.v (.int .i64 (zI s n).sign)),(3,.v (.int .i64 (zI t m).sign))] [] [])) (w_s ?_);intros)
  simp (disch:=omega) only [go_sem]
 ·have hcc:cmpZ (zI s n) (zI t m)=if (zI s n).sign < 0 then cmpN m n else cmpN n m:=by
   unfold cmpZ cmpN;cases s<;>cases t<;>simp only [zI,Zy2,Zyj,Zyu] at h ⊢
   ·have hs0:¬(n:Int).sign < 0:=by
     have:=Int.sign_nonneg_iff.2 (ZB4 n);omega
    simp only [hs0,Zyu,Int.ofNat_lt]
   ·have h1:=Int.sign_nonneg_iff.2 (ZB4 n)
    have h2:(-(m:Int)).sign≤0:=by
     rcases Zzk m with h3 | h3
     ·subst h3;simp
     ·rw [ZBv zo];omega
    have h3:(n:Int).sign=0:=zo;have h4:n=0:=by have:=Int.sign_eq_zero_iff_zero.1 h3;omega
    have h5:m=0:=by rw [h3] at h;have:=Int.sign_eq_zero_iff_zero.1 h.symm;omega
    subst h4;subst h5;simp
   ·have h1:=Int.sign_nonneg_iff.2 (ZB4 m)
    have h2:(-(n:Int)).sign≤0:=by
     rcases Zzk n with h3 | h3
     ·subst h3;simp
     ·rw [ZBv zo];omega
    have h3:(m:Int).sign=0:=zo;have h4:m=0:=by have:=Int.sign_eq_zero_iff_zero.1 h3;omega
    have h5:n=0:=by rw [h3] at h;have:=Int.sign_eq_zero_iff_zero.1 h;omega
    subst h4;subst h5;simp
   ·rcases Zzk n with h3 | h3
    ·subst h3;have h5:m=0:=by have:=Int.sign_eq_zero_iff_zero.1 h.symm;omega
     subst h5;simp
    ·rw [Zx5 (c:=(-(n:Int)).sign < 0) (by rw [ZBv zo];omega)];have e1:(-(n:Int) < -(m:Int))↔m < n:=zo;have e2:(-(m:Int) < -(n:Int))↔n < m:=zo;simp only [e1,e2]
  rw [hcc];by_cases hneg:(zI s n).sign < 0
  ·rw [Zx5 hneg];refine pI func224 rfl ntmps224 results224 call224 ?_
   (refine wkad w_t (w_3 cs ct (Zwz m n hm hn)) (w_1 (w_d 1 [(1,.v (.int .i64 (zI s n).sign)),(3,.v (.int .i64 (zI t m).sign))] [] [])) (w_s ?_);intros)
   simp (disch:=omega) only [go_sem]
  ·rw [Zx4 hneg];refine pI func224 rfl ntmps224 results224 call224 ?_
   (refine wkad w_t (w_3 cs ct (Zwz n m hn hm)) (w_1 (w_d 1 [(1,.v (.int .i64 (zI s n).sign)),(3,.v (.int .i64 (zI t m).sign))] [] [])) (w_s ?_);intros)
   simp (disch:=omega) only [go_sem]
 ·have hc:cmpZ (zI s n) (zI t m)=1:=by
   have h0:zI t m < zI s n:=by
    rcases ZBw (zI s n) 0 with h1 | h1 | h1<;>rcases ZBw (zI t m) 0 with h2 | h2 | h2<;>first
     | omega
     | (exfalso;simp [ZBv,ZCx,h1,h2] at h)
   unfold cmpZ;rw [Zx4 zo,Zx5 h0]
  rw [hc];refine pI func224 rfl ntmps224 results224 call224 ?_
  (refine wkad w_t (w_2 cs ct) (w_1 (w_d 1 [(1,.v (.int .i64 (zI s n).sign)),(3,.v (.int .i64 (zI t m).sign))] [] [])) (w_s ?_);intros)
  simp (disch:=omega) only [go_sem]
theorem Zso (s t:Bool) (n m:Nat) (hn:(toL n).length≤1000000000000) (hm:(toL m).length≤1000000000000):Pure prog 153 [intA s n,intA t m] (intZ (zI s n*zI t m)):=by
 have e:zI s n*zI t m=zI (s != t) (n*m):=by cases s<;>cases t<;>simp [zI,Int.mul_neg,Int.neg_mul]
 have lm:(toL (n*m)).length≤10000000000000:=by
  have h5:(toL (n*m)).length≤(toL n).length+(toL m).length:=by
   rw [Zac,Zzo];exact Nat.mul_lt_mul'' (Zac.1 (Zx7 _)) (Zac.1 (Zx7 _))
  omega
 rw [e];have hne:(!(s == t))=(s != t):=rfl;refine pI func153 rfl ntmps153 results153 call153 ?_
 (refine wkad (w_1 hne) (w_2 (nMul n m hn hm) (Zi3 (s != t) (n*m) lm)) (w_1 (w_d 1 [(9,lim (toL (n*m))),(10,intZ (zI (s != t) (n*m)))] [11] [])) (w_s ?_);intros)
 simp (disch:=omega) only [go_sem]
theorem intAdd (s t:Bool) (n m:Nat) (hn:(toL n).length≤1000000000000) (hm:(toL m).length≤1000000000000):Pure prog 229 [intA s n,intA t m] (intZ (zI s n+zI t m)):=by
 by_cases hst:s=t
 ·subst hst;have e:zI s n+zI s m=zI s (n+m):=by cases s<;>simp [zI]<;>omega
  have la:(toL (n+m)).length≤10000000000000:=by
   have h5:(toL (n+m)).length≤max (toL n).length (toL m).length+1:=by
    rw [Zac,Zzi];have h1:=Zac.1 (Nat.le_max_left (toL n).length (toL m).length);have h2:=Zac.1 (Nat.le_max_right (toL n).length (toL m).length);generalize 65536 ^ max (toL n).length (toL m).length=p at *;omega
   omega
  rw [e];have hb:(s == s)=true:=by cases s<;>rfl
  refine pI func229 rfl ntmps229 results229 call229 ?_
  (refine wkad (w_1 hb) (w_2 (nAdd n m hn hm) (Zi3 s (n+m) la)) (w_1 (w_d 2 [(6,lim (toL (n+m))),(7,intZ (zI s (n+m)))] [8] [])) (w_s ?_);intros)
  simp (disch:=omega) only [go_sem]
 ·have hb:(s == t)=false:=by cases s<;>cases t<;>first|rfl|exact absurd rfl hst
  have ht:t=!s:=by cases s<;>cases t<;>first|rfl|exact absurd rfl hst
  by_cases hlt:n < m
  ·have hc:cmpN n m=-1:=Zx5 hlt;have e:zI s n+zI t m=zI t (m - n):=by rw [ht];cases s<;>simp [zI]<;>omega
   have ls:(toL (m - n)).length≤10000000000000:=Zye (Za0 (Nat.sub_le _ _)) zo;have cs:=nSub m n hm hn;rw [Zx4 zo,Zx4 zo] at cs;rw [e];refine pI func229 rfl ntmps229 results229 call229 ?_
   (refine wkad (w_2 hb hc) (w_3 (nCmp n m hn hm) cs (Zi3 t (m - n) ls)) w_t (w_s ?_);intros)
   simp (disch:=omega) only [go_sem]
  ·have hc:0≤cmpN n m:=by unfold cmpN;rw [Zx4 hlt];split<;>omega
   have e:zI s n+zI t m=zI s (n - m):=by rw [ht];cases s<;>simp [zI]<;>omega
   have ls:(toL (n - m)).length≤10000000000000:=Zye (Za0 (Nat.sub_le _ _)) zo;have cs:=nSub n m hn hm;rw [Zx4 zo,Zx4 zo] at cs;rw [e];refine pI func229 rfl ntmps229 results229 call229 ?_
   (refine wkad (w_1 hb) (w_3 (nCmp n m hn hm) cs (Zi3 s (n - m) ls)) w_t (w_s ?_);intros)
   simp (disch:=omega) only [go_sem]
inductive Vk:AV→AV→Prop
 | refl (a:AV):Vk a a
 | nil (m:Nat):Vk (.v (.slice none 0 0)) (.sl m [])
 | agg (xs ys:List AV) (hl:xs.length=ys.length) (h:∀(j:Nat) (a b:AV),xs[j]?=some a→ys[j]?=some b→Vk a b):Vk (.agg xs) (.agg ys)
 | tup (xs ys:List AV) (hl:xs.length=ys.length) (h:∀(j:Nat) (a b:AV),xs[j]?=some a→ys[j]?=some b→Vk a b):Vk (.tup xs) (.tup ys)
 | sl (m:Nat) (es es':List AV) (hl:es.length=es'.length) (hm:∀e∈es',e.cells.length=m) (hok:∀e∈es',e.ok=true) (hf:(flat es).length=(flat es').length) (h:∀(j:Nat) (a b:AV),(flat es)[j]?=some a→(flat es')[j]?=some b→Vk a b):Vk (.sl m es) (.sl m es')
theorem Vk.rd {w:World} {imm:Imm} {a b:AV} (h:Vk a b):∀{x:Value},Rd w imm a x→Rd w imm b x:=by
 induction h with
 | refl a=>exact λh=>h
 | nil m =>
   intro x h;cases h;exact .sl m [] none 0 (λ_=>undef) zs zs (Zx7 _) zs zs (by simp [flat])
 | agg xs ys hl _ ih =>
   intro x h
   cases h with
   | agg _ vs hl2 hr =>
     refine .agg ys vs zo λj b x h1 h2=>?_;have hj:j < xs.length:=by rw [hl];exact(List.getElem?_eq_some_iff.1 h1).1
     exact ih j xs[j] b (Zyf hj) h1 (hr j xs[j] x (Zyf hj) h2)
 | tup xs ys hl _ ih =>
   intro x h
   cases h with
   | tup _ vs hl2 hr =>
     refine .tup ys vs zo λj b x h1 h2=>?_;have hj:j < xs.length:=by rw [hl];exact(List.getElem?_eq_some_iff.1 h1).1
     exact ih j xs[j] b (Zyf hj) h1 (hr j xs[j] x (Zyf hj) h2)
 | sl m es es' hl hm hok hf _ ih =>
   intro x h;obtain⟨A,cap,f,rfl,hcap,_,_,hn,hA,hr⟩:=(Rs.pure h).sl_inv;rw [hl];refine .sl m es' A cap f hm hok zo (λh=>hn zo) (λj hj=>hA j (by rw [hl];exact hj)) λj b hb=>?_;have hj:j < (flat es).length:=by rw [hf];exact(List.getElem?_eq_some_iff.1 hb).1
   exact ih j _ b (Zyf hj) hb (hr j _ (Zyf hj))
def VkL (xs ys:List AV):Prop:=xs.length=ys.length∧∀(j:Nat) (a b:AV),xs[j]?=some a→ys[j]?=some b→Vk a b
theorem VkL.nil:VkL [] []:=⟨rfl,λj a b h=>by simp at h⟩
theorem VkL.cons {a b:AV} {xs ys:List AV} (h:Vk a b) (t:VkL xs ys):VkL (a :: xs) (b :: ys):=by
 refine⟨by simp [t.1],λj x y h1 h2=>?_⟩
 cases j with
 | zero=>simp at h1 h2;subst h1;subst h2;exact h
 | succ j=>exact t.2 j x y (by simpa using h1) (by simpa using h2)
theorem VkL.refl (xs:List AV):VkL xs xs:=⟨rfl,λj a b h1 h2=>by rw [h1] at h2;cases h2;exact .refl _⟩
theorem Vk.aggL {xs ys:List AV} (h:VkL xs ys):Vk (.agg xs) (.agg ys):=.agg xs ys h.1 h.2
theorem Vk.tupL {xs ys:List AV} (h:VkL xs ys):Vk (.tup xs) (.tup ys):=.tup xs ys h.1 h.2
theorem Vk.slL {m:Nat} {es es':List AV} (hl:es.length=es'.length) (hm:∀e∈es',e.cells.length=m) (hok:∀e∈es',e.ok=true) (h:VkL (flat es) (flat es')):Vk (.sl m es) (.sl m es'):=.sl m es es' hl hm hok h.1 h.2
theorem Zvs {P:Program} {f:FuncId} {args args':List AV} {r r':AV} (h:Pure P f args' r) (ha:VkL args args') (hw:Vk r r'):Pure P f args r':=by
 refine⟨h.1,λw imm vs h1 h2 h3=>(h.2 w imm vs h1 (by rw [←ha.1];exact h2) λj b x e1 e2=>?_).mono λe w' he=>?_⟩
 ·have hj:j < args.length:=by rw [ha.1];exact(List.getElem?_eq_some_iff.1 e1).1
  exact(ha.2 j args[j] b (Zyf hj) e1).rd (h3 j args[j] x (Zyf hj) e2)
 ·obtain⟨x,imm',e1,e2,e3⟩:=he;exact⟨x,imm',e1,hw.rd e2,e3⟩
theorem Zih {P:Program} {f:FuncId} {args args':List AV} {r:AV} (h:Pure P f args' r) (ha:VkL args args'):Pure P f args r:=Zvs h ha (.refl _)
theorem Zdm {P:Program} {f:FuncId} {args:List AV} {r r':AV} (h:Pure P f args r) (hw:Vk r r'):Pure P f args r':=Zvs h (.refl _) hw
theorem Zfm (n m:Nat):(toL (n*m)).length≤(toL n).length+(toL m).length:=by
 rw [Zac,Zzo];exact Nat.mul_lt_mul'' (Zac.1 (Zx7 _)) (Zac.1 (Zx7 _))
theorem Zlq (n m:Nat):(toL (n+m)).length≤max ((toL n).length) ((toL m).length)+1:=by
 rw [Zac,Zzi];have h1:=Zac.1 (Nat.le_max_left ((toL n).length) ((toL m).length));have h2:=Zac.1 (Nat.le_max_right ((toL n).length) ((toL m).length));generalize 65536 ^ max ((toL n).length) ((toL m).length)=p at *;omega
theorem Zc5 {n m:Nat} (h:n≤m):(toL n).length≤(toL m).length:=Za0 h
theorem Zgu:(toL 1).length=1:=by rw [Zfr zo];simp [Zas]
theorem toL_one:toL 1=[1]:=by rw [Zfr zo];simp [Zas]
abbrev ratQ (q:Rat):AV:=.agg [.v (.bool (decide (q.num < 0))),lim (toL q.num.natAbs),lim (toL q.den)]
abbrev ratA (s:Bool) (n d:Nat):AV:=.agg [.v (.bool s),lim (toL n),lim (toL d)]
def Sz (q:Rat) (k:Nat):Prop:=(toL q.num.natAbs).length≤k∧(toL q.den).length≤k
theorem Sz.mono {q:Rat} {k j:Nat} (h:Sz q k) (hk:k≤j):Sz q j:=⟨Zye h.1 hk,Zye h.2 hk⟩
theorem Zqb (z:Int) (m:Nat) (hm:m≠0):ratQ (mkRat z m)=.agg [.v (.bool (decide (z < 0))),lim (toL (z.natAbs/Nat.gcd z.natAbs m)),lim (toL (m/Nat.gcd z.natAbs m))]:=by
 unfold ratQ;rw [Rat.num_mkRat,Rat.den_mkRat,Zx4 hm,Zx4 hm,ZBs m z.natAbs];have hg:0 < Nat.gcd z.natAbs m:=ZC5 _ zo;have hd:((Nat.gcd z.natAbs m:Nat):Int) ∣ z:=Int.ofNat_dvd_left.2 (Nat.gcd_dvd_left _ _);generalize Nat.gcd z.natAbs m=g at *;obtain⟨k,hk⟩:=hd;have hgz:(g:Int)≠0:=zo;have e1:z/(g:Int)=k:=by rw [hk,ZC6 _ hgz]
 have e2:z.natAbs/g=k.natAbs:=by rw [hk,ZAb,ZAo,Nat.mul_div_cancel_left _ hg]
 have e3:(z < 0)↔(k < 0):=by
  rw [hk];constructor
  ·intro h;rcases (by omega:k < 0∨0≤k) with h1 | h1
   ·exact h1
   ·have:=Int.mul_nonneg (show(0:Int)≤g by omega) h1;omega
  ·intro h;exact Int.mul_neg_of_pos_of_neg zo h
 rw [e1,e2];simp only [e3]
theorem Sz.mk {z:Int} {m k:Nat} (hz:(toL z.natAbs).length≤k) (hm:(toL m).length≤k) (hk:1≤k):Sz (mkRat z m) k:=by
 unfold Sz;rw [Rat.num_mkRat,Rat.den_mkRat];by_cases h:m=0
 ·rw [Zx5 h,Zx5 h];refine⟨?_,by rw [Zgu];exact hk⟩;show(toL 0).length≤k;rw [Zas];simp
 ·rw [Zx4 h,Zx4 h];refine⟨Zye (Zc5 ?_) hz,Zye (Zc5 (ZCv _ _)) hm⟩;have hd:((Nat.gcd m z.natAbs:Nat):Int) ∣ z:=Int.ofNat_dvd_left.2 (Nat.gcd_dvd_right _ _);have hg:0 < Nat.gcd m z.natAbs:=Nat.gcd_pos_of_pos_left _ zo;generalize Nat.gcd m z.natAbs=g at *;obtain⟨c,hc⟩:=hd;rw [hc,ZC6 _ zo,ZAb,ZAo];exact Nat.le_mul_of_pos_left _ hg
theorem natAbs_add_le (a b:Int):(a+b).natAbs≤a.natAbs+b.natAbs:=zo
theorem Sz.pos {q:Rat} {k:Nat} (h:Sz q k):1≤k:=by
 have h1:=Zbn.2 q.den_pos;have h2:=h.2;omega
theorem Zef (a b:Rat) {j k:Nat} (ha:Sz a j) (hb:Sz b k):(toL (a.num*b.den).natAbs).length≤j+k:=by
 rw [ZAb,ZAo];exact Zye (Zfm _ _) (ZAp ha.1 hb.2)
theorem Sz.mul {a b:Rat} {j k:Nat} (ha:Sz a j) (hb:Sz b k):Sz (a*b) (j+k):=by
 rw [Rat.mul_def'];refine Sz.mk ?_ (Zye (Zfm _ _) (ZAp ha.2 hb.2)) (by have:=ha.pos;omega);rw [ZAb];exact Zye (Zfm _ _) (ZAp ha.1 hb.1)
theorem Sz.add {a b:Rat} {j k:Nat} (ha:Sz a j) (hb:Sz b k):Sz (a+b) (j+k+1):=by
 rw [Rat.add_def'];refine Sz.mk ?_ (Zye (Zfm _ _) (by have:=ha.2;have:=hb.2;omega)) zo;have h1:=Zef a b ha hb;have h2:=Zef b a hb ha;have h3:=Zc5 (natAbs_add_le (a.num*b.den) (b.num*a.den));have h4:=Zlq (a.num*b.den).natAbs (b.num*a.den).natAbs;omega
theorem Sz.neg {a:Rat} {j:Nat} (ha:Sz a j):Sz (-a) j:=by
 unfold Sz;rw [Rat.neg_num,Rat.neg_den,ZCr];exact ha
theorem Sz.sub {a b:Rat} {j k:Nat} (ha:Sz a j) (hb:Sz b k):Sz (a - b) (j+k+1):=by
 rw [Rat.sub_eq_add_neg];exact ha.add hb.neg
theorem Sz.inv {a:Rat} {j:Nat} (ha:Sz a j):Sz (a⁻¹) j:=by
 unfold Sz;rw [Rat.num_inv,Rat.den_inv];by_cases h:a.num=0
 ·rw [Zx5 h,h];refine⟨?_,by rw [Zgu];exact ha.pos⟩;have:(Int.sign 0*(a.den:Int)).natAbs=0:=by simp
  rw [this];show(toL 0).length≤j;rw [Zas];simp
 ·rw [Zx4 h];refine⟨?_,ha.1⟩;rw [ZAb,ZAo,Int.natAbs_sign_of_ne_zero h,Zz4];exact ha.2
theorem Sz.div {a b:Rat} {j k:Nat} (ha:Sz a j) (hb:Sz b k):Sz (a/b) (j+k):=ha.mul hb.inv
theorem Sz.int {z:Int} {k:Nat} (h:(toL z.natAbs).length≤k) (hk:1≤k):Sz (z:Rat) k:=⟨h,by show(toL 1).length≤k;rw [Zgu];exact hk⟩
def cmpQ (a b:Rat):Int:=if a < b then -1 else if b < a then 1 else 0
theorem cmpQ_z (a b:Rat):cmpQ a b=cmpZ (a.num*b.den) (b.num*a.den):=by
 unfold cmpQ cmpZ;simp only [Rat.lt_iff]
theorem iMul (z w:Int) (hz:(toL z.natAbs).length≤1000000000000) (hw:(toL w.natAbs).length≤1000000000000):Pure prog 153 [intZ z,intZ w] (intZ (z*w)):=by
 have:=Zso (decide (z < 0)) (decide (w < 0)) z.natAbs w.natAbs hz hw
 rwa [Zb7,Zb7] at this
theorem iMulN (z:Int) (d:Nat) (hz:(toL z.natAbs).length≤1000000000000) (hw:(toL d).length≤1000000000000):Pure prog 153 [intZ z,intA false d] (intZ (z*d)):=by
 have:=Zso (decide (z < 0)) false z.natAbs d hz hw;rw [Zb7] at this;exact this
theorem iAddA (z:Int) (t:Bool) (m:Nat) (hz:(toL z.natAbs).length≤1000000000000) (hm:(toL m).length≤1000000000000):Pure prog 229 [intZ z,intA t m] (intZ (z+zI t m)):=by
 have:=intAdd (decide (z < 0)) t z.natAbs m hz hm
 rwa [Zb7] at this
theorem iAdd0 (t:Bool) (m:Nat) (hm:(toL m).length≤1000000000000):Pure prog 229 [.agg [.v (.bool false),.v (.slice none 0 0)],intA t m] (intZ (zI t m)):=by
 have h:=iAddA 0 t m (by show(toL 0).length≤_;rw [Zas];simp) hm;rw [Zyh] at h;refine Zih h (.cons (.aggL (.cons (.refl _) (.cons ?_ .nil))) (.cons (.refl _) .nil));show Vk _ (.sl 1 (u16s (toL 0)));rw [Zas];exact .nil 1
theorem iCmp (z w:Int) (hz:(toL z.natAbs).length≤1000000000000) (hw:(toL w.natAbs).length≤1000000000000):Pure prog 224 [intZ z,intZ w] (.v (.int .i64 (cmpZ z w))):=by
 have:=intCmp (decide (z < 0)) (decide (w < 0)) z.natAbs w.natAbs hz hw
 rwa [Zb7,Zb7] at this
theorem iSign (z:Int) (hz:(toL z.natAbs).length≤1000000000000):Pure prog 127 [intZ z] (.v (.int .i64 z.sign)):=by
 have:=Zqx (decide (z < 0)) z.natAbs hz
 rwa [Zb7] at this
def sumC (z w:Int):Nat→List AV
 | 0=>[.v (.bool false),.v (.slice none 0 0)]
 | 1=>[.v (.bool (decide (z < 0))),lim (toL z.natAbs)]
 | _=>[.v (.bool (decide (z+w < 0))),lim (toL (z+w).natAbs)]
theorem Zur (x:Nat) (l:List Nat):u16s (x :: l)=AV.v (.int .u16 (x:Int)) :: u16s l:=rfl
theorem szShape:szOf prog 242=some 2:=by kernel_rfl
theorem zShape:Zar prog 242=some (.agg #[.int .i64 0,.int .u16 0]):=by kernel_rfl
theorem eqShape:eqTy prog 242=true:=by kernel_rfl
theorem Zci (n:Nat) (h:n < 65536):Sz (n:Rat) 1:=⟨Zac.2 (by show((n:Int)).natAbs < _;simpa using h),Zac.2 (by show 1 < 65536 ^ 1;decide)⟩
attribute [go_sem] szShape zShape underlying243
attribute [local go_sem] eqShape
theorem intOf (n:Nat) (hn:n < 9223372036854775808):Pure prog 155 [.v (.int .i64 (n:Int))] (intA false n):=by
 have l4:(toL n).length≤4:=Zac.2 zo;have hm:=Zi3 false n zo;rw [Zi2,Zzb] at hm;refine pI func155 rfl ntmps155 results155 call155 ?_
 (refine wkvp w_t (w_2 (natOf n zo) hm) (w_s ?_);intros)
 simp (disch:=omega) only [go_sem]
theorem Zqa:Pure prog 156 [] (lim (toL 1)):=by
 rw [toL_one];refine pI func156 rfl ntmps156 results156 call156 ?_
 (refine wkvp w_t w_t (w_s ?_);intros)
 exact gC
theorem Zjp (n:Nat):Pure prog 202 [lim (toL n)] (intA false n):=by
 refine pI func202 rfl ntmps202 results202 call202 ?_
 (refine wkvp w_t w_t (w_s ?_);intros)
 simp (disch:=omega) only [go_sem]
theorem Zlj (n:Nat) (hn:(toL n).length≤1000000000000):Pure prog 200 [lim (toL n)] (.v (.bool (decide (n=1)))):=by
 by_cases h0:n=0
 ·subst h0;rw [Zas];refine pI func200 rfl ntmps200 results200 call200 ?_
  (refine wkvp w_t w_t (w_s ?_);intros)
  simp (disch:=omega) only [go_sem,Bool.and_self]
 ·have hd:decide (n=1)=(((((toL (n/65536)).length+1:Nat):Int) == 1) && (((n%65536:Nat):Int) == 1)):=by
   have hp:=@Zbn (n/65536);rw [Zyn];simp only [Zy1,Zyv,Zz3];omega
  rw [Zfr zo,hd];refine pI func200 rfl ntmps200 results200 call200 ?_
  (refine wkvp (w_1 @Zur) w_t (w_s ?_);intros)
  simp (disch:=omega) only [go_sem]
theorem Zkb (s:Bool) (n d:Nat) (h2:(toL d).length≤100000000000) (h0:d≠0):Pure prog 126 [ratA s n d] (.tup [intA s n,lim (toL d)]):=by
 have hb:Znd d≠0:=λe=>h0 (Zhl.1 e);refine pI func126 rfl ntmps126 results126 call126 ?_;(focus (refine wkad w_t (w_1 (nBits d zo)) (w_1 (w_d 3 [] [] [2])) ?_;(repeat' first|exact w_t|apply w_l);all_goals intros));simp (disch:=omega) only [go_sem]
theorem Zie (q:Rat) {k:Nat} (h:Sz q k) (hk:k≤100000000000):Pure prog 126 [ratQ q] (.tup [intZ q.num,lim (toL q.den)]) :=
 Zkb _ _ _ (Zye h.2 hk) q.den_nz
theorem Ziy (s:Bool) (n m:Nat) (hn:(toL n).length≤100000000000) (hm:(toL m).length≤100000000000) (h0:m≠0):Pure prog 152 [intA s n,lim (toL m)] (ratQ (mkRat (zI s n) m)):=by
 have cn:=intNorm s n zo;have hz:=Zeh s n;rw [Zqb _ _ h0];generalize zI s n=z at *;subst hz;have hmp:=Zbn.2 (Zz7 h0);have g0:Nat.gcd z.natAbs m≠0:=Nat.ne_of_gt (ZC5 _ zo);have hg:(toL (Nat.gcd z.natAbs m)).length≤100000000000:=Zye (Zc5 (Nat.le_of_dvd zo (Nat.gcd_dvd_right _ _))) hm;have cg:=nGcd z.natAbs m zo zo;have c1:=Zlj m zo;have c2:=Zlj (Nat.gcd z.natAbs m) zo;by_cases hz0:z.natAbs=0
 ·have hzz:z=0:=zo;subst hzz;have l0:(toL 0).length=0:=by rw [Zas];rfl
  have n0:Int.natAbs 0=0:=rfl;have hd:decide ((0:Int) < 0)=false:=rfl;have cn:Pure prog 205 [intA s 0] (.agg [.v (.bool false),lim (toL 0)]):=cn;rw [n0] at hn ⊢;rw [Nat.gcd_zero_left,Nat.zero_div,Nat.div_self zo,hd];refine Zdm (r:=.agg [.v (.bool false),.v (.slice none 0 0),lim (toL 1)]) ?_ (.aggL (.cons (.refl _) (.cons ?_ (VkL.refl _))))
  ·refine pI func152 rfl ntmps152 results152 call152 ?_
   (refine wkvp (w_1 l0) (w_3 (Zqp m zo) cn Zqa) (w_s ?_);intros)
   simp (disch:=omega) only [go_sem]
  ·show Vk _ (.sl 1 (u16s (toL 0)));rw [Zas];exact .nil 1
 ·have hzp:=Zbn.2 (Zz7 hz0);by_cases hm1:m=1
  ·subst hm1;rw [Nat.gcd_one_right,ZB1,ZB1];refine pI func152 rfl ntmps152 results152 call152 ?_
   (refine wkvp w_t (w_3 (Zqp 1 zo) cn c1) (w_s ?_);intros)
   simp (disch:=omega) only [go_sem]
  ·have d1:decide (m=1)=false:=Zx6 hm1;rw [d1] at c1;by_cases hg1:Nat.gcd z.natAbs m=1
   ·have d2:decide (Nat.gcd z.natAbs m=1)=true:=Zx8 hg1;rw [d2] at c2;rw [hg1,ZB1,ZB1];refine pI func152 rfl ntmps152 results152 call152 ?_
    (refine wkvp w_t (w_5 (Zqp m zo) cn c1 cg c2) (w_s ?_);intros)
    simp (disch:=omega) only [go_sem]
   ·have d2:decide (Nat.gcd z.natAbs m=1)=false:=Zx6 hg1;rw [d2] at c2;refine pI func152 rfl ntmps152 results152 call152 ?_
    (refine wkad w_t (w_7 (Zqp m zo) cn c1 cg c2 (Zwg z.natAbs (Nat.gcd z.natAbs m) zo zo g0) (Zwg m (Nat.gcd z.natAbs m) zo zo g0)) w_t (w_s ?_);intros)
    simp (disch:=omega) only [go_sem]
theorem Zf4 (q:Rat) {k:Nat} (h:Sz q k) (hk:k≤100000000000):Pure prog 57 [ratQ q] (.v (.int .i64 q.num.sign)):=by
 have h1:=h.1;refine pI func57 rfl ntmps57 results57 call57 ?_
 (refine wkvp w_t (w_2 (Zie q h hk) (iSign q.num zo)) (w_s ?_);intros)
 simp (disch:=omega) only [go_sem]
theorem Zvi (s t:Bool) (n m:Nat) (hn:(toL n).length≤1000000000000) (hm:(toL m).length≤1000000000000):Pure prog 201 [.sl 2 [intA s n,intA t m]] (intZ (zI s n+zI t m)):=by
 have cz:=iAdd0 s n hn;have ca:=iAddA (zI s n) t m (by rw [Zeh];exact hn) hm;generalize zI s n=z at *;generalize zI t m=w at *;refine pI func201 rfl ntmps201 results201 call201 ?_
 (refine wkvp w_t w_t (w_s ?_);intros)
 refine Zad (ι:=Nat) (λk e mm=>k≤2∧e 6=.sl 2 [intA s n,intA t m]∧e 7=.v (.int .i64 2)∧e 8=.v (.int .i64 (k:Int))∧∃g2 g,e 2=.pbox 2 g2 0∧mm 2=some (.box g2 57 [.v (.bool false),.v (.slice none 0 0)] false)∧e 3=.pbox 3 g 0∧mm 3=some (.box g 57 (sumC z w k) false)) (λk=>2 - k) 0 zr ?_ ?_
 ·rintro k e mm ⟨hk,e6,e7,e8,g2,g,e2,m2,e3,m3⟩
  match k,hk with
  | 0,_ =>
    simp only [sumC] at m3
    (refine wkvp (w_8 e6 e7 e8 e2 m2 e3 m3 @ZAq) (w_1 cz) (w_s ?_);intros)
    exact⟨1,⟨zo,gW e6,gW e7,gW e8,g2,g,gW e2,gW m2,gW e3,by(simp (disch:=omega) only [go_sem,m3,sumC]<;>repeat' first|rfl|refine⟨?_,?_⟩)⟩,zo⟩
  | 1,_ =>
    simp only [sumC] at m3
    (refine wkvp (w_8 e6 e7 e8 e2 m2 e3 m3 @Int.natCast_one) (w_1 ca) (w_s ?_);intros)
    exact⟨2,⟨zo,gW e6,gW e7,gW e8,g2,g,gW e2,gW m2,gW e3,by(simp (disch:=omega) only [go_sem,m3,sumC]<;>repeat' first|rfl|refine⟨?_,?_⟩)⟩,zo⟩
  | 2,_ =>
    simp only [sumC] at m3
    (refine wkvp (w_7 e6 e7 e8 e2 m2 e3 m3) w_t (w_s ?_);intros)
    simp (disch:=omega) only [go_sem,e2]
 ·exact⟨zo,gC,gC,gC,_,_,gC,gC,gC,by(simp (disch:=omega) only [go_sem,sumC]<;>repeat' first|rfl|refine⟨?_,?_⟩)⟩
theorem ratSum (z w:Int) (hz:(toL z.natAbs).length≤1000000000000) (hw:(toL w.natAbs).length≤1000000000000):Pure prog 201 [.sl 2 [intZ z,intZ w]] (intZ (z+w)):=by
 have:=Zvi (decide (z < 0)) (decide (w < 0)) z.natAbs w.natAbs hz hw
 rwa [Zb7,Zb7] at this
theorem ratOf (n:Nat) (hn:n < 9223372036854775808):Pure prog 100 [.v (.int .i64 (n:Int))] (ratQ (n:Rat)):=by
 refine pI func100 rfl ntmps100 results100 call100 ?_;have hd:decide ((n:Rat).num < 0)=false:=Zx6 (by show ¬((n:Int) < 0);omega);have hn':(n:Rat).num.natAbs=n:=ZAo n;unfold ratQ;rw [hd,hn',Rat.den_natCast]
 (refine wkvp w_t (w_2 (intOf n hn) Zqa) (w_s ?_);intros)
 simp (disch:=omega) only [go_sem]
theorem Zrv (a b:Rat) {j k:Nat} (ha:Sz a j) (hb:Sz b k) (hj:j≤20000000000) (hk:k≤20000000000):Pure prog 99 [ratQ a,ratQ b] (ratQ (a*b)):=by
 obtain⟨a1,a2⟩:=id ha;obtain⟨b1,b2⟩:=id hb;have l1:(toL (a.num*b.num).natAbs).length≤j+k:=by rw [ZAb];exact Zye (Zfm _ _) zo
 have l2:(toL (a.den*b.den)).length≤j+k:=Zye (Zfm _ _) zo;have c:=Ziy (decide (a.num*b.num < 0)) (a.num*b.num).natAbs (a.den*b.den) zo zo (ZBb a.den_nz b.den_nz);rw [Zb7,←Rat.mul_def'] at c;refine pI func99 rfl ntmps99 results99 call99 ?_
 (refine wkvp w_t (w_5 (Zie a ha zo) (Zie b hb zo) (iMul a.num b.num zo zo) (nMul a.den b.den zo zo) c) (w_s ?_);intros)
 simp (disch:=omega) only [go_sem]
theorem Zvk (s t:Bool) (n d m c:Nat) {j k:Nat} (a1:(toL n).length≤j) (a2:(toL d).length≤j) (b1:(toL m).length≤k) (b2:(toL c).length≤k) (hd0:d≠0) (hc0:c≠0) (hj:j≤20000000000) (hk:k≤20000000000) :
 Pure prog 150 [ratA s n d,ratA t m c] (ratQ (mkRat (zI s n) d+mkRat (zI t m) c)):=by
 have oa:=Zlj d zo;have ob:=Zlj c zo;have l2:(toL (d*c)).length≤j+k:=Zye (Zfm _ _) zo;have z1:=Zeh s n;have w1:=Zeh t m;have pa:=Zkb s n d zo hd0;have pb:=Zkb t m c zo hc0;have eq:mkRat (zI s n) d+mkRat (zI t m) c=mkRat (zI s n*c+zI t m*d) (d*c):=Rat.mkRat_add_mkRat _ _ hd0 hc0;have cs0:=Zvi s t n m zo zo;have cm1:Pure prog 153 [intA s n,intA false c] (intZ (zI s n*c)):=Zso s false n c zo zo;have cm2:Pure prog 153 [intA t m,intA false d] (intZ (zI t m*d)):=Zso t false m d zo zo;rw [eq]
 have x1:(toL (zI s n*c).natAbs).length≤j+k:=by
  rw [ZAb,ZAo,z1];exact Zye (Zfm _ _) zo
 have x2:(toL (zI t m*d).natAbs).length≤j+k:=by
  rw [ZAb,ZAo,w1];exact Zye (Zfm _ _) zo
 by_cases h1:d=1∧c=1
 ·obtain⟨h1,h2⟩:=h1
  have l1:(toL (zI s n+zI t m).natAbs).length≤j+k+1:=by
   have h3:=Zc5 (natAbs_add_le (zI s n) (zI t m));have h4:=Zlq (zI s n).natAbs (zI t m).natAbs;rw [z1,w1] at h3 h4;omega
  have c:=Ziy (decide (zI s n+zI t m < 0)) (zI s n+zI t m).natAbs 1 zo (by rw [Zgu];omega) zo;rw [Zb7] at c;subst h1;subst h2;rw [Zx8 rfl] at oa ob;have e1:zI s n*((1:Nat):Int)+zI t m*((1:Nat):Int)=zI s n+zI t m:=zo;rw [e1,ZA1];refine pI func150 rfl ntmps150 results150 call150 ?_
  (refine wkax w_t (w_5 pa pb oa ob c) w_t (w_1 cs0) w_t w_t w_y (w_r 0) (w_s ?_);intros)
  simp (disch:=omega) only [go_sem]
 ·have l1:(toL (zI s n*c+zI t m*d).natAbs).length≤j+k+1:=by
   have h3:=Zc5 (natAbs_add_le (zI s n*c) (zI t m*d));have h4:=Zlq (zI s n*c).natAbs (zI t m*d).natAbs;omega
  have cr:=Ziy (decide (zI s n*c+zI t m*d < 0)) (zI s n*c+zI t m*d).natAbs (d*c) zo zo (ZBb hd0 hc0);rw [Zb7] at cr;have cs:=ratSum (zI s n*c) (zI t m*d) zo zo;have cw1:=Zjp c;have cw2:=Zjp d;have cm:=nMul d c zo zo;generalize zI s n*(c:Int)=y1 at *;generalize zI t m*(d:Int)=y2 at *;by_cases h2:d=1
  ·have h3:c≠1:=λh=>h1 ⟨h2,h⟩;rw [Zx8 h2] at oa;rw [Zx6 h3] at ob;refine pI func150 rfl ntmps150 results150 call150 ?_
   (refine wkax w_t (w_11 pa pb oa ob cw1 cm1 cw2 cm2 cs cm cr) (w_1 (w_d 5 [(2,intA false c),(3,intZ y1),(6,intA false d),(7,intZ y2),(8,.sl 2 [intZ y1,intZ y2]),(9,intZ (y1+y2)),(12,lim (toL (d*c))),(13,ratQ (mkRat (y1+y2) (d*c)))] [] [4])) w_t w_t w_t w_y (w_r 0) (w_s ?_);intros)
   simp (disch:=omega) only [go_sem]
  ·rw [Zx6 h2] at oa;refine pI func150 rfl ntmps150 results150 call150 ?_
   (refine wkax w_t (w_10 pa pb oa cw1 cm1 cw2 cm2 cs cm cr) (w_1 (w_d 5 [(2,intA false c),(3,intZ y1),(6,intA false d),(7,intZ y2),(8,.sl 2 [intZ y1,intZ y2]),(9,intZ (y1+y2)),(12,lim (toL (d*c))),(13,ratQ (mkRat (y1+y2) (d*c)))] [] [4])) w_t w_t w_t w_y (w_r 0) (w_s ?_);intros)
   simp (disch:=omega) only [go_sem]
theorem ratAdd (a b:Rat) {j k:Nat} (ha:Sz a j) (hb:Sz b k) (hj:j≤20000000000) (hk:k≤20000000000):Pure prog 150 [ratQ a,ratQ b] (ratQ (a+b)):=by
 have:=Zvk (decide (a.num < 0)) (decide (b.num < 0)) a.num.natAbs a.den b.num.natAbs b.den ha.1 ha.2 hb.1 hb.2 a.den_nz b.den_nz hj hk
 rwa [Zb7,Zb7,ZB6,ZB6] at this
theorem Zvj (a b:Rat) {j k:Nat} (ha:Sz a j) (hb:Sz b k) (hj:j≤20000000000) (hk:k≤20000000000):Pure prog 101 [ratQ a,ratQ b] (ratQ (a - b)):=by
 have c:=Zvk (decide (a.num < 0)) (!decide (b.num < 0)) a.num.natAbs a.den b.num.natAbs b.den ha.1 ha.2 hb.1 hb.2 a.den_nz b.den_nz hj hk
 have e:zI (!decide (b.num < 0)) b.num.natAbs=-b.num:=by
  have:=Zb7 b.num;unfold zI at *;by_cases h:b.num < 0
  ·simp only [Zx8 h,ZBo,Zyj,Zyu];omega
  ·simp only [Zx6 h,ZBq,Zy2];omega
 have e2:mkRat (-b.num) b.den=-b:=by rw [←Rat.neg_mkRat,ZB6]
 rw [Zb7,e,ZB6,e2,←Rat.sub_eq_add_neg] at c;refine pI func101 rfl ntmps101 results101 call101 ?_
 (refine wkvp w_t (w_1 c) (w_s ?_);intros)
 simp (disch:=omega) only [go_sem]
theorem ratCmp (a b:Rat) {j k:Nat} (ha:Sz a j) (hb:Sz b k) (hj:j≤20000000000) (hk:k≤20000000000):Pure prog 187 [ratQ a,ratQ b] (.v (.int .i64 (cmpQ a b))):=by
 obtain⟨a1,a2⟩:=id ha;obtain⟨b1,b2⟩:=id hb;have sa:=Zf4 a ha zo;have sb:=Zf4 b hb zo;have pa:=Zie a ha zo;have pb:=Zie b hb zo;have cm1:=iMulN a.num b.den zo zo;have cm2:=iMulN b.num a.den zo zo;have x1:(toL (a.num*b.den).natAbs).length≤j+k:=Zef a b ha hb;have x2:(toL (b.num*a.den).natAbs).length≤k+j:=Zef b a hb ha;have cc:=iCmp (a.num*b.den) (b.num*a.den) zo zo;have cw1:=Zjp b.den;have cw2:=Zjp a.den;have dp:(0:Int) < a.den:=by have:=a.den_pos;omega
 have ep:(0:Int) < b.den:=by have:=b.den_pos;omega
 rw [cmpQ_z]
 have sg:∀z:Int,(z.sign=1∧0 < z)∨(z.sign=0∧z=0)∨(z.sign=-1∧z < 0):=by
  intro z;rcases ZBw z 0 with h | h | h
  ·exact .inr (.inr ⟨ZBv h,h⟩)
  ·exact .inr (.inl ⟨by rw [h];rfl,h⟩)
  ·exact .inl ⟨ZCx h,h⟩
 have mp:∀z w:Int,0 < z→0 < w→0 < z*w:=λz w=>Int.mul_pos;have mz:∀w:Int,0*w=0:=λw=>Int.zero_mul w;have mn:∀z w:Int,z < 0→0 < w→z*w < 0:=λz w=>Int.mul_neg_of_neg_of_pos
 have sA:(a.num.sign=1→0 < a.num*b.den)∧(a.num.sign=0→a.num*b.den=0)∧(a.num.sign=-1→a.num*b.den < 0):=by
  rcases sg a.num with⟨h,h'⟩ | ⟨h,h'⟩ | ⟨h,h'⟩
  ·exact⟨λ_=>mp _ _ h' ep,λh2=>zo,λh2=>zo⟩
  ·exact⟨λh2=>zo,λ_=>(by rw [h'];exact mz _),λh2=>zo⟩
  ·exact⟨λh2=>zo,λh2=>zo,λ_=>mn _ _ h' ep⟩
 have sB:(b.num.sign=1→0 < b.num*a.den)∧(b.num.sign=0→b.num*a.den=0)∧(b.num.sign=-1→b.num*a.den < 0):=by
  rcases sg b.num with⟨h,h'⟩ | ⟨h,h'⟩ | ⟨h,h'⟩
  ·exact⟨λ_=>mp _ _ h' dp,λh2=>zo,λh2=>zo⟩
  ·exact⟨λh2=>zo,λ_=>(by rw [h'];exact mz _),λh2=>zo⟩
  ·exact⟨λh2=>zo,λh2=>zo,λ_=>mn _ _ h' dp⟩
 have ga:=sg a.num;have gb:=sg b.num;generalize a.num*(b.den:Int)=y1 at *;generalize b.num*(a.den:Int)=y2 at *;rcases ZBw a.num.sign b.num.sign with h | h | h
 ·have hc:cmpZ y1 y2=-1:=by
   unfold cmpZ;rw [Zx5 zo]
  rw [hc];clear ga gb sA sB;refine pI func187 rfl ntmps187 results187 call187 ?_
  (refine wkad w_t (w_2 sa sb) (w_1 (w_d 1 [(1,.v (.int .i64 a.num.sign)),(3,.v (.int .i64 b.num.sign))] [] [])) (w_s ?_);intros)
  simp (disch:=omega) only [go_sem]
 ·refine pI func187 rfl ntmps187 results187 call187 ?_
  (refine wkvp w_t (w_2 sa sb) (w_s ?_);intros)
  apply Zbo (Zdv [(1,.v (.int .i64 a.num.sign)),(3,.v (.int .i64 b.num.sign))]) [] [] zk zr zk;(focus (simp only [Zyk,Zym,Nat.reduceAdd];rfl))
  (refine wkax w_t (w_4 sa sb pa pb) w_t w_t w_t w_t w_t (w_r 0) (w_s ?_);intros)
  apply Zbo (Zdv [(2,intA false b.den),(3,intZ y1),(6,intA false a.den),(7,intZ y2),(8,.v (.int .i64 (cmpZ y1 y2)))]) [] [] zk zr zk;(focus (simp only [Zyk,Zym,Nat.reduceAdd];rfl))
  (refine wkax w_t (w_5 cw1 cm1 cw2 cm2 cc) w_t w_t w_t w_t w_t (w_r 0) (w_s ?_);intros)
  simp (disch:=omega) only [go_sem]
 ·have hc:cmpZ y1 y2=1:=by
   unfold cmpZ;rw [Zx4 zo,Zx5 zo]
  rw [hc];clear ga gb sA sB;refine pI func187 rfl ntmps187 results187 call187 ?_
  (refine wkad w_t (w_2 sa sb) (w_1 (w_d 1 [(1,.v (.int .i64 a.num.sign)),(3,.v (.int .i64 b.num.sign))] [] [])) (w_s ?_);intros)
  simp (disch:=omega) only [go_sem]
theorem Zhf {z:Int} (h:z < 0):intZ z=intA true z.natAbs:=by unfold intZ;rw [Zx8 h]
theorem Zga {z:Int} (h:¬z < 0):intZ z=intA false z.natAbs:=by unfold intZ;rw [Zx6 h]
theorem zOf' (s:Bool) (n:Nat) (hn:(toL n).length≤1000000000000):Pure prog 177 [.v (.bool s),lim (toL n)] (intZ (zI s n)):=by
 rw [Zi2];have hp:=@Zbn n;cases s
 ·refine pI func177 rfl ntmps177 results177 call177 ?_
  (refine wkvp w_t (w_1 (Zvl n hn)) (w_s ?_);intros)
  simp (disch:=omega) only [go_sem,Zzb]
 ·by_cases h:0 < n
  ·have h2:=hp.2 h;refine pI func177 rfl ntmps177 results177 call177 ?_
   (refine wkvp w_t (w_1 (Zvl n hn)) (w_s ?_);intros)
   simp (disch:=omega) only [go_sem,Zx8 h]
  ·have h2:¬0 < (toL n).length:=λh3=>h (hp.1 h3);refine pI func177 rfl ntmps177 results177 call177 ?_
   (refine wkvp w_t (w_1 (Zvl n hn)) (w_s ?_);intros)
   simp (disch:=omega) only [go_sem,Zx6 h]
theorem zNorm (s:Bool) (n:Nat) (hn:(toL n).length≤1000000000000):Pure prog 113 [intA s n] (intZ (zI s n)):=by
 refine pI func113 rfl ntmps113 results113 call113 ?_
 (refine wkvp w_t (w_1 (zOf' s n hn)) (w_s ?_);intros)
 simp (disch:=omega) only [go_sem]
theorem Zub (z:Int) (hz:(toL z.natAbs).length≤1000000000000):Pure prog 113 [intZ z] (intZ z):=by
 have:=zNorm (decide (z < 0)) z.natAbs hz
 rwa [Zb7] at this
theorem zOf (n:Nat) (hn:n < 9223372036854775808):Pure prog 108 [.v (.int .i64 (n:Int))] (intA false n):=by
 have l4:(toL n).length≤4:=Zac.2 zo;have hm:=zOf' false n zo;rw [Zi2,Zzb] at hm;refine pI func108 rfl ntmps108 results108 call108 ?_
 (refine wkvp w_t (w_2 (Zid n zo) hm) (w_s ?_);intros)
 simp (disch:=omega) only [go_sem]
theorem zNeg (s:Bool) (n:Nat) (hn:(toL n).length≤1000000000000):Pure prog 227 [intA s n] (intZ (-zI s n)):=by
 have e:-zI s n=zI (!s) n:=by cases s<;>simp [zI]
 rw [e];refine pI func227 rfl ntmps227 results227 call227 ?_
 (refine wkvp w_t (w_1 (zOf' (!s) n hn)) (w_s ?_);intros)
 simp (disch:=omega) only [go_sem]
theorem zSign (z:Int) (hz:(toL z.natAbs).length≤1000000000000):Pure prog 46 [intZ z] (.v (.int .i64 z.sign)):=by
 have cn:=Zub z hz;have hp:=@Zbn z.natAbs;rcases ZBw z 0 with h | h | h
 ·rw [ZBv h];have h2:=hp.2 zo;rw [Zhf h] at cn ⊢;refine pI func46 rfl ntmps46 results46 call46 ?_
  (refine wkvp w_t (w_1 cn) (w_s ?_);intros)
  simp (disch:=omega) only [go_sem]
 ·have h2:¬0 < (toL z.natAbs).length:=λh3=>by have:=hp.1 h3;omega
  have hs:z.sign=0:=by rw [h];rfl
  rw [hs];rw [Zga zo] at cn ⊢;refine pI func46 rfl ntmps46 results46 call46 ?_
  (refine wkvp w_t (w_1 cn) (w_s ?_);intros)
  simp (disch:=omega) only [go_sem]
 ·rw [ZCx h];have h2:=hp.2 zo;rw [Zga zo] at cn ⊢;refine pI func46 rfl ntmps46 results46 call46 ?_
  (refine wkvp w_t (w_1 cn) (w_s ?_);intros)
  simp (disch:=omega) only [go_sem]
theorem zCmp (z w:Int) (hz:(toL z.natAbs).length≤1000000000000) (hw:(toL w.natAbs).length≤1000000000000):Pure prog 157 [intZ z,intZ w] (.v (.int .i64 (cmpZ z w))):=by
 have c1:=Zub z hz;have c2:=Zub w hw;have ca:=rCmp z.natAbs w.natAbs hz hw;have cb:=rCmp w.natAbs z.natAbs hw hz;by_cases h1:z < 0
 ·by_cases h2:w < 0
  ·have hc:cmpZ z w=cmpN w.natAbs z.natAbs:=by
    unfold cmpZ cmpN;have e1:(z < w)↔(w.natAbs < z.natAbs):=zo;have e2:(w < z)↔(z.natAbs < w.natAbs):=zo;simp only [e1,e2]
   rw [hc];rw [Zhf h1] at c1 ⊢;rw [Zhf h2] at c2 ⊢;refine pI func157 rfl ntmps157 results157 call157 ?_
   (refine wkad w_t (w_3 c1 c2 cb) (w_1 (w_d 1 [(1,.agg [.v (.bool true),lim (toL z.natAbs)]),(3,.agg [.v (.bool true),lim (toL w.natAbs)])] [4,5] [])) (w_s ?_);intros)
   simp (disch:=omega) only [go_sem]
  ·have hc:cmpZ z w=-1:=Zx5 zo;rw [hc];rw [Zhf h1] at c1 ⊢;rw [Zga h2] at c2 ⊢;refine pI func157 rfl ntmps157 results157 call157 ?_
   (refine wkad w_t (w_2 c1 c2) (w_1 (w_d 1 [(1,.agg [.v (.bool true),lim (toL z.natAbs)]),(3,.agg [.v (.bool false),lim (toL w.natAbs)])] [4,5] [])) (w_s ?_);intros)
   simp (disch:=omega) only [go_sem]
 ·by_cases h2:w < 0
  ·have hc:cmpZ z w=1:=by unfold cmpZ;rw [Zx4 zo,Zx5 zo]
   rw [hc];rw [Zga h1] at c1 ⊢;rw [Zhf h2] at c2 ⊢;refine pI func157 rfl ntmps157 results157 call157 ?_
   (refine wkad w_t (w_2 c1 c2) (w_1 (w_d 1 [(1,.agg [.v (.bool false),lim (toL z.natAbs)]),(3,.agg [.v (.bool true),lim (toL w.natAbs)])] [4,5] [])) (w_s ?_);intros)
   simp (disch:=omega) only [go_sem]
  ·have hc:cmpZ z w=cmpN z.natAbs w.natAbs:=by
    unfold cmpZ cmpN;have e1:(z < w)↔(z.natAbs < w.natAbs):=zo;have e2:(w < z)↔(w.natAbs < z.natAbs):=zo;simp only [e1,e2]
   rw [hc];rw [Zga h1] at c1 ⊢;rw [Zga h2] at c2 ⊢;refine pI func157 rfl ntmps157 results157 call157 ?_
   (refine wkad w_t (w_3 c1 c2 ca) (w_1 (w_d 1 [(1,.agg [.v (.bool false),lim (toL z.natAbs)]),(3,.agg [.v (.bool false),lim (toL w.natAbs)])] [4,5] [])) (w_s ?_);intros)
   simp (disch:=omega) only [go_sem]
theorem zMul (s t:Bool) (n m:Nat) (hn:(toL n).length≤400000000000) (hm:(toL m).length≤400000000000):Pure prog 109 [intA s n,intA t m] (intZ (zI s n*zI t m)):=by
 have e:zI s n*zI t m=zI (s != t) (n*m):=by cases s<;>cases t<;>simp [zI,Int.mul_neg,Int.neg_mul]
 have lm:=Zfm n m;have hne:(!(s == t))=(s != t):=rfl;rw [e];refine pI func109 rfl ntmps109 results109 call109 ?_
 (refine wkad (w_1 hne) (w_2 (rMul n m zo zo) (zOf' (s != t) (n*m) zo)) (w_1 (w_d 1 [(9,lim (toL (n*m))),(10,intZ (zI (s != t) (n*m)))] [11] [])) (w_s ?_);intros)
 simp (disch:=omega) only [go_sem]
theorem zAdd (s t:Bool) (n m:Nat) (hn:(toL n).length≤400000000000) (hm:(toL m).length≤400000000000):Pure prog 111 [intA s n,intA t m] (intZ (zI s n+zI t m)):=by
 by_cases hst:s=t
 ·subst hst;have e:zI s n+zI s m=zI s (n+m):=by cases s<;>simp [zI]<;>omega
  have la:=Zlq n m;rw [e];have hb:(s == s)=true:=by cases s<;>rfl
  refine pI func111 rfl ntmps111 results111 call111 ?_
  (refine wkad (w_1 hb) (w_2 (rAdd n m zo zo) (zOf' s (n+m) zo)) (w_1 (w_d 2 [(6,lim (toL (n+m))),(7,intZ (zI s (n+m)))] [8] [])) (w_s ?_);intros)
  simp (disch:=omega) only [go_sem]
 ·have hb:(s == t)=false:=by cases s<;>cases t<;>first|rfl|exact absurd rfl hst
  have ht:t=!s:=by cases s<;>cases t<;>first|rfl|exact absurd rfl hst
  have c1:=rSub n m zo zo;have c2:=rSub m n zo zo;by_cases hlt:n < m
  ·have e:zI s n+zI t m=zI t (m - n):=by rw [ht];cases s<;>simp [zI]<;>omega
   have ls:(toL (m - n)).length≤1000000000000:=Zye (Zc5 (Nat.sub_le _ _)) zo;rw [Zx5 hlt,Zx5 hlt] at c1;rw [Zx4 zo,Zx4 zo] at c2;rw [e];refine pI func111 rfl ntmps111 results111 call111 ?_
   (refine wkad (w_1 hb) (w_3 c1 c2 (zOf' t (m - n) ls)) w_t (w_s ?_);intros)
   simp (disch:=omega) only [go_sem]
  ·have e:zI s n+zI t m=zI s (n - m):=by rw [ht];cases s<;>simp [zI]<;>omega
   have ls:(toL (n - m)).length≤1000000000000:=Zye (Zc5 (Nat.sub_le _ _)) zo;rw [Zx4 hlt,Zx4 hlt] at c1;rw [e];refine pI func111 rfl ntmps111 results111 call111 ?_
   (refine wkad (w_1 hb) (w_2 c1 (zOf' s (n - m) ls)) w_t (w_s ?_);intros)
   simp (disch:=omega) only [go_sem]
end Go.Proofs.YtenfejhaohihoaaGreat
