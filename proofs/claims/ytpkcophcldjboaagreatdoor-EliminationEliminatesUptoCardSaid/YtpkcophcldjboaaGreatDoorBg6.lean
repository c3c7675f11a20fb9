/- Contracts of the functions that the law reaches, and the rules by which they are walked. They say what a call hands back for every input within the bounds that each names; no other condition. -/
import Derived.Test.YtpkcophcldjboaaGreatDoorBg5
import Derived.Lib.Builder
import Derived.Lib.UnsafeStr
import Derived.Laws.Externs
import Derived.Shelf.RegionOpenPlain
set_option linter.unusedSimpArgs false
set_option linter.unusedVariables false
set_option maxRecDepth 20000
set_option maxHeartbeats 16000000
namespace Go.Proofs.YtpkcophcldjboaaGreatDoor
open Go Go.RowKit Go.Pg Go.Proofs.Tryz
attribute [-bool_to_prop] Bool.and_eq_decide Bool.or_eq_decide Bool.decide_beq_decide decide_eq_decide
theorem refSub (a b:List Nat) (ha:a.length≤1000000000) (hb:b.length≤1000000000) (la:Lm a) (lb:Lm b) :
 Pure prog 233 [lim a,lim b] (.tup [lim (if nv a < nv b then [] else toL (nv a - nv b)),.v (.int .i64 (if nv a < nv b then 2 else 0))]):=by
 have cl:=λi=>Zif a i ha la;have cr:=λi=>Zif b i hb lb;have cc:=Zys a b ha hb la lb;by_cases hlt:nv a < nv b
 ·rw [ZCh hlt,ZCh hlt];refine Pure.wk ?_ (okTup rfl);refine Zaa (tok:=0) (rs:=[.tmp 4,.tmp 5]) func233 rfl ntmps233 results233 call233 zr zs ?_;have hc:cmpN (nv a) (nv b)=-1:=by unfold cmpN;rw [ZCh hlt]
  (refine wkvp (w_1 hc) (w_1 cc) (w_s ?_);intros)
  simp (disch:=omega) only [go_sem]
 ·rw [ZCg hlt,ZCg hlt];have hc:0≤cmpN (nv a) (nv b):=by unfold cmpN;rw [ZCg hlt];split<;>omega
  refine Zaa (tok:=0) (rs:=[.tmp 4,.tmp 5]) func233 rfl ntmps233 results233 call233 zr zs ?_
  (refine wkvp w_t (w_1 cc) (w_s ?_);intros)
  refine Zdj (Frz.nilOwn (d:=6) 37 1 128 (gC)) ?_;refine Zad (ι:=Nat) (λk e m=>k≤a.length∧(e 0=lim a∧e 1=lim b∧e 8=.v (.int .i64 (k:Int)))∧∃sv o r,(e 6=.own 37 sv∧e 7=.v (.int .i64 (r:Nat))∧m 37=some (.row sv 128 1 (u16s o) 0))∧o.length=k∧Lm o∧r≤1∧nv o+nv (b.take k)=nv (a.take k)+65536 ^ k*r) (λk=>a.length - k) 0 zr ?_ ?_
  ·rintro k e m ⟨hk,⟨e0,e1,e8⟩,sv,o,r,⟨e6,e7,em⟩,hol,hLo,hr,hv⟩
   have ga:=Zbr la k;have gb:=Zbr lb k;by_cases hlt2:k < a.length
   ·have step:∀(d r':Nat),d+r+gN b k=gN a k+65536*r'→d < 65536→r'≤1→(o++[d]).length=k+1∧Lm (o++[d])∧r'≤1∧nv (o++[d])+nv (b.take (k+1))=nv (a.take (k+1))+65536 ^ (k+1)*r':=by
     intro d r' hd h3 h4;have:=Ztd hv hd;have nvs:nv (o++[d])=nv o+65536 ^ k*d:=by rw [Zdq,hol];simp [nv]
     rw [nvs,Zau,Zau,ZDk];exact⟨by simp [hol],hLo.append (Lm.one h3),h4,this⟩
    by_cases hneg:gN a k < gN b k+r
    ·have hs:=step (gN a k+65536 - gN b k - r) 1 zo zo zo;have w:(gN a k:Int) - gN b k - r+65536=((gN a k+65536 - gN b k - r:Nat):Int):=zo
     (refine wkvp (w_8 e0 e1 e8 e6 e7 em hol w) (w_2 (cl k) (cr k)) (w_s ?_);intros)
     exact⟨k+1,⟨zo,⟨gW e0,gW e1,gV e8⟩,_,_,1,⟨gC,gC,gC⟩,hs⟩,zo⟩
    ·have hs:=step (gN a k - gN b k - r) 0 zo zo zo;have w:(gN a k:Int) - gN b k - r=((gN a k - gN b k - r:Nat):Int):=zo
     (refine wkvp (w_8 e0 e1 e8 e6 e7 em hol w) (w_2 (cl k) (cr k)) (w_s ?_);intros)
     exact⟨k+1,⟨zo,⟨gW e0,gW e1,gV e8⟩,_,_,0,⟨gC,gC,gC⟩,hs⟩,zo⟩
   ·have hka:k=a.length:=zo;have hbs:=Zbu b k;have hno:=Zh4 hLo;rw [hol] at hno;rw [Zbm (l:=a) zo] at hv
    have hno2:nv o=nv a - nv b:=by
     have hbd:nv (b.drop k)=0:=by
      rcases ZDr (nv (b.drop k)) with h3 | h3
      ·exact h3
      ·have h4:=ZFn (65536 ^ k) h3;have h5:=Zh4 la;rw [←hka] at h5;omega
     rw [hbd,ZE7,ZDx] at hbs
     have hr0:r=0:=by
      rcases ZDr r with h3 | h3
      ·exact h3
      ·have:r=1:=zo;subst this;omega
     subst hr0;omega
    (repeat' (first|(with_reducible first|refine stp ?_|apply gx1|apply gx2|apply gx3|apply gx4|apply gx5|apply gx6|apply gx7|apply gw1 (Zef o zo hLo))|(with_reducible refine Zcn ?_;intro _)|((with_reducible refine gE ?_);(try simp (disch:=omega) only [go_sem,e0,e1,e8,e6,e7,em])<;>first|rfl|omega)|with_reducible refine Zam zd ?_))
    simp (disch:=omega) only [go_sem,hno2]
  ·exact⟨ZCr _,⟨gC,gC,gC⟩,_,[],0,⟨gC,gC,gC⟩,rfl,Lm.nil,zo,by simp [nv]⟩
def valL (l:List Nat):Bool:=decide (l.length=0) || !decide (gN l (l.length - 1)=0)
theorem Zip {l:List Nat} (h:Lm l):valL l=true↔l=toL (nv l):=by
 unfold valL;constructor
 ·intro h1;refine canon h ?_;simp only [ZFg,ZDb,ZEz,ZFm] at h1;rcases h1 with h1 | h1
  ·exact .inl (ZF5 h1)
  ·exact .inr zo
 ·intro h1;by_cases h0:nv l=0
  ·rw [h0,Zaz] at h1;subst h1;rfl
  ·obtain⟨h2,h3⟩:=Zec h0;rw [←h1] at h2 h3;simp only [ZFg,ZDb,ZEz,ZFm];exact .inr zo
theorem Ztu (l:List Nat) (hs:l.length≤1000000000) (hl:Lm l):Pure prog 162 [lim l] (.v (.bool (valL l))):=by
 refine Zaa (tok:=0) (rs:=[.tmp 2]) func162 rfl ntmps162 results162 call162 zr zs ?_;have gl:=Zbr hl (l.length - 1);unfold valL;by_cases h0:l.length=0
 ·(refine wkvp (w_1 h0) w_t (w_s ?_);intros)
  simp (disch:=omega) only [go_sem,h0]
 ·by_cases h1:gN l (l.length - 1)=0
  ·(refine wkvp (w_2 h1 @ZEo) w_t (w_s ?_);intros)
   simp (disch:=omega) only [go_sem,h0,h1]
  ·(refine wkvp w_t w_t (w_s ?_);intros)
   simp (disch:=omega) only [go_sem,h0,h1]
theorem refSameN (a b:List Nat) (ha:a.length≤1000000000) (hb:b.length≤1000000000) (la:Lm a) (lb:Lm b):Pure prog 163 [lim a,lim b] (.v (.bool (decide (a=b)))):=by
 refine Zaa (tok:=0) (rs:=[.tmp 4]) func163 rfl ntmps163 results163 call163 zr zs ?_;by_cases hl:a.length=b.length
 ·(refine wkvp (w_1 hl) w_t (w_s ?_);intros)
  refine Zad (ι:=Nat) (λk e m=>k≤a.length∧(e 0=lim a∧e 1=lim b∧e 5=.v (.int .i64 (k:Int)))∧∀j,j < k→gN a j=gN b j) (λk=>a.length - k) 0 zr ?_ ?_
  ·rintro k e m ⟨hk,⟨e0,e1,e5⟩,hs⟩
   by_cases hlt:k < a.length
   ·by_cases p:gN a k=gN b k
    ·(refine wkad (w_3 e0 e1 e5) w_t w_t (w_s ?_);intros)
     exact⟨k+1,⟨zo,⟨gW e0,gW e1,gV e5⟩,λj hj=>by
      rcases ZC5 j k with h1 | h1
      ·exact hs j h1
      ·rw [show j=k by omega];exact p⟩,zo⟩
    ·have hne:decide (a=b)=false:=ZCq λh=>p (by rw [h])
     (refine wkad (w_3 e0 e1 e5) w_t w_t (w_s ?_);intros)
     simp (disch:=omega) only [go_sem,hne]
   ·have he:decide (a=b)=true:=ZCp (List.ext_getElem hl λj h1 h2=>by
     have:=hs j zo
     rwa [gN_at h1,gN_at h2] at this)
    (refine wkad (w_3 e0 e1 e5) w_t w_t (w_s ?_);intros)
    simp (disch:=omega) only [go_sem,he]
  ·exact⟨ZCr _,⟨gC,gC,gC⟩,λj hj=>zo⟩
 ·have hne:decide (a=b)=false:=ZCq λh=>hl (by rw [h])
  (refine wkvp w_t w_t (w_s ?_);intros)
  simp (disch:=omega) only [go_sem,hne]
theorem Zyr (a b:List Nat) (ha:a.length≤400000000) (hb:b.length≤400000000) (la:Lm a) (lb:Lm b):Pure prog 134 [lim a,lim b] (lim (toL (nv a*nv b))):=by
 have cr:=λi=>Zif b i zo lb;refine Zaa (tok:=0) (rs:=[.tmp 4]) func134 rfl ntmps134 results134 call134 zr zs ?_
 (refine wkvp (w_2 @Za2 @Zbs) w_t (w_s ?_);intros)
 refine Zad (ι:=Nat) (λi e m=>i≤a.length∧(e 0=lim a∧e 1=lim b∧e 6=.v (.int .i64 i))∧∃sv o,(e 5=.own 16 sv∧m 16=some (.row sv 128 1 (u16s o) 0))∧o.length=a.length+b.length+1∧Lm o∧(∀j,i+b.length≤j→gN o j=0)∧nv o=nv (a.take i)*nv b) (λi=>a.length - i) 0 zr ?_ ?_
 ·rintro i e m ⟨hi,⟨e0,e1,e6⟩,sv,o,⟨e5,em⟩,hol,hLo,hz,hv⟩
  by_cases hlt:i < a.length
  ·have gx:=Zbr la i
   (refine wkvp (w_7 e0 e1 e6 e5 em hol @Za2) w_t (w_s ?_);intros)
   refine Zad (ι:=Nat) (λk e' m'=>k≤b.length+1∧(e' 0=lim a∧e' 1=lim b∧e' 6=.v (.int .i64 i)∧e' 8=.v (.int .i64 k)∧e' 5=.own 16 sv)∧∃o' c,(e' 7=.v (.int .u64 (c:Nat))∧m' 16=some (.row sv 128 1 (u16s o') 0))∧o'.length=a.length+b.length+1∧Lm o'∧c < 65536∧(b.length < k→c=0)∧(∀j,i+max b.length k≤j→gN o' j=0)∧nv o'+65536 ^ (i+k)*c=nv o+65536 ^ i*nv (b.take k)*gN a i) (λk=>b.length+1 - k) 0 zr ?_ ?_
   ·rintro k e m ⟨hk,⟨e0,e1,e6,e8,e5⟩,o',c,⟨e7,em⟩,hol',hLo',hc,hcz,hz',hv'⟩
    have gy:=Zbr lb k;have go:=Zbr hLo' (i+k);have bd:=Zp6 gx gy;by_cases hgo:k < b.length∨0 < c
    ·have hkb:k≤b.length:=by
      rcases hgo with h | h
      ·omega
      ·rcases ZC5 b.length k with h2 | h2
       ·have:=hcz h2;omega
       ·exact h2
     have hs:=Zuf (x:=gN a i) (y:=gN b k) rfl (Zpz (o:=o') (j:=i+k) zo _) hv';rw [←Zug,←Zau,←ZDk,Nat.succ_eq_add_one,ZHa i] at hs;have ecomm:gN o' (i+k)+gN a i*gN b k+c=c+(gN o' (i+k)+gN a i*gN b k):=zo
     have hcz2:b.length < k+1→(c+(gN o' (i+k)+gN a i*gN b k))/65536=0:=by
      intro h;have g1:gN b k=0:=Zek zo;have g2:=hz' (i+k) zo;rw [g1,g2];omega
     have w1:(c+(gN o' (i+k)+gN a i*gN b k))/65536 < 65536:=zo;have w2:(c+(gN o' (i+k)+gN a i*gN b k))%65536 < 65536:=zo;generalize hxy:gN a i*gN b k=xy at *;have r1:((c+(gN o' (i+k)+xy):Nat):Int).tmod 65536=(((c+(gN o' (i+k)+xy))%65536:Nat):Int):=Ze0 _ 65536;have r2:((c+(gN o' (i+k)+xy):Nat):Int).tdiv 65536=(((c+(gN o' (i+k)+xy))/65536:Nat):Int):=Zdk _ 65536;have r3:(c+(gN o' (i+k)+xy))%65536%65536=(c+(gN o' (i+k)+xy))%65536:=Nat.mod_mod _ _;have hzz:∀j,i+max b.length (k+1)≤j→gN (o'.set (i+k) ((c+(gN o' (i+k)+xy))%65536)) j=0:=λj hj=>by
      rw [Zf6 zo,ZCg zo];exact hz' j zo
     by_cases h3:k < b.length
     ·(refine wkad (w_16 e0 e1 e6 e8 e5 e7 em hol' @Za2 @Zih @Zbk hxy ecomm r1 r2 r3) (w_1 (cr k)) (w_1 (w_d 9 [(14,.v (.int .i64 (gN b k:Nat)))] [] [])) (w_s ?_);intros)
      exact⟨k+1,⟨zo,⟨gW e0,gW e1,gW e6,gS,gW e5⟩,_,_,⟨gC,gC⟩,by simpa using hol',hLo'.set _ w2,w1,hcz2,hzz,hs⟩,zo⟩
     ·have hc1:0 < c:=zo;(focus (refine wkad (w_16 e0 e1 e6 e8 e5 e7 em hol' @Za2 @Zih @Zbk hxy ecomm r1 r2 r3) (w_1 (cr k)) (w_1 (w_d 9 [(14,.v (.int .i64 (gN b k:Nat)))] [] [])) ?_;(repeat' first|exact w_t|apply w_l);all_goals intros));exact⟨k+1,⟨zo,⟨gW e0,gW e1,gW e6,gS,gW e5⟩,_,_,⟨gC,gC⟩,by simpa using hol',hLo'.set _ w2,w1,hcz2,hzz,hs⟩,zo⟩
    ·have hc0:c=0:=zo;subst hc0;rw [Zbm (l:=b) zo,ZE7,ZDx] at hv';(focus (refine wkad (w_8 e0 e1 e6 e8 e5 e7 em @ZEo) w_t w_t ?_;(repeat' first|exact w_t|apply w_l);all_goals intros));refine⟨i+1,⟨zo,⟨gW e0,gW e1,gS⟩,sv,o',⟨gW e5,gW em⟩,hol',hLo',λj hj=>hz' j zo,?_⟩,zo⟩;rw [hv',hv,Zau,ZC8];congr 1;simp only [ZDm,ZDh,ZGe]
   ·exact⟨zo,⟨gW e0,gW e1,gW e6,gC,gW e5⟩,_,0,⟨gC,gW em⟩,hol,hLo,zo,λ_=>rfl,λj hj=>hz j zo,by simp [nv]⟩
  ·have hiA:i=a.length:=zo;subst hiA;rw [Zbm (ZCi _)] at hv
   (repeat' (first|(with_reducible first|refine stp ?_|apply gx1|apply gx2|apply gx3|apply gx4|apply gx5|apply gx6|apply gx7|apply gw1 (Zef o zo hLo))|(with_reducible refine Zcn ?_;intro _)|((with_reducible refine gE ?_);(try simp (disch:=omega) only [go_sem,e0,e1,e6,e5,em,hol])<;>first|rfl|omega)|with_reducible refine Zam zd ?_))
   simp (disch:=omega) only [go_sem,hv]
 ·exact⟨ZCr _,⟨gC,gC,gC⟩,_,List.replicate (a.length+b.length+1) 0,⟨gC,gC⟩,by simp,Lm.zeros _,λj hj=>Zhw _ _,by simp [nv,Znu]⟩
theorem refDigit (R B:Nat) (hR:(toL R).length≤300000000) (hB:(toL B).length≤200000000) (h0:0 < B) (hlt:R < B*65536):Pure prog 232 [lim (toL R),lim (toL B)] (.v (.int .u64 ((R/B:Nat):Int))):=by
 refine Zaa (tok:=0) (rs:=[.tmp 4]) func232 rfl ntmps232 results232 call232 zr zs ?_
 (refine wkvp w_t w_t (w_s ?_);intros)
 refine Zad (ι:=Nat × Nat) (λp e m=>(e 0=lim (toL R)∧e 1=lim (toL B)∧e 5=.v (.int .u64 (p.1:Int))∧e 6=.v (.int .u64 (p.2:Int)))∧p.1≤p.2∧p.2≤65535∧B*p.1≤R∧R < B*(p.2+1)) (λp=>p.2 - p.1) (0,65535) zr ?_ ?_
 ·rintro ⟨lo,hi⟩ e m ⟨⟨e0,e1,e5,e6⟩,h1,h2,h3,h4⟩
  simp only at e5 e6 h1 h2 h3 h4;by_cases hlh:lo < hi
  ·obtain⟨mid,hmid⟩:∃mid,(lo+hi+1)/2=mid:=⟨_,rfl⟩;have r2:((lo+hi+1:Nat):Int).tdiv 2=((mid:Nat):Int):=by rw [←hmid];exact Zdk _ 2
   have co:=Zkb mid zo;have lm:(toL mid).length≤4:=Zaf.2 zo;have cm:=Zyr (toL B) (toL mid) zo zo (Zar _) (Zar _);rw [Zao,Zao] at cm
   have lbm:(toL (B*mid)).length≤1000000000:=by
    have h5:(toL (B*mid)).length≤(toL B).length+4:=by
     rw [Zaf,ZDj];have h6:=Zaf.1 (ZCi (toL B).length);exact Nat.mul_lt_mul'' h6 zo
    omega
   have cc:=Zys (toL (B*mid)) (toL R) lbm zo (Zar _) (Zar _);rw [Zao,Zao] at cc;by_cases hle:B*mid≤R
   ·have hc:cmpN (B*mid) R≤0:=by unfold cmpN;split;omega;split<;>omega
    (refine wkvp (w_8 e0 e1 e5 e6 @Za2 @Zbs r2 hc) (w_3 co cm cc) (w_s ?_);intros)
    exact⟨(mid,hi),⟨⟨gW e0,gW e1,gC,gW e6⟩,zo,h2,hle,h4⟩,by simp only;omega⟩
   ·have hc:0 < cmpN (B*mid) R:=by unfold cmpN;rw [ZCg zo,ZCh zo];omega
    have em1:(mid:Int) - 1=((mid - 1:Nat):Int):=zo
    (refine wkvp (w_9 e0 e1 e5 e6 @Za2 @Zbs r2 hc em1) (w_3 co cm cc) (w_s ?_);intros)
    exact⟨(lo,mid - 1),⟨⟨gW e0,gW e1,gW e5,gC⟩,by simp only;omega,by simp only;omega,h3,by simp only;rw [show mid - 1+1=mid by omega];omega⟩,by simp only;omega⟩
  ·have hh:lo=hi:=zo;subst hh;have hd:R/B=lo:=Nat.div_eq_of_lt_le (by rw [ZDh];exact h3) (by rw [ZDh];exact h4)
   (refine wkvp (w_4 e0 e1 e5 e6) w_t (w_s ?_);intros)
   simp (disch:=omega) only [go_sem,hd]
 ·exact⟨⟨gC,gC,gC,gC⟩,by simp,by simp,by simp,by simpa using hlt⟩
theorem Zo3 (x:Nat) (l:List Nat):AV.v (.int .u16 (x:Int)) :: u16s l=u16s (x :: l):=rfl
theorem Zpj (a b:List Nat) (ha:a.length≤200000000) (hb:b.length≤200000000) (la:Lm a) (lb:Lm b) (h0:nv b≠0):Pure prog 197 [lim a,lim b] (.tup [lim (toL (nv a/nv b)),lim (toL (nv a%nv b)),.v (.int .i64 0)]):=by
 have h1:=Zat la;have h2:=Zat lb;have va:=Zao (nv a);have vb:=Zao (nv b);have ma:=Zar (nv a);have mb:=Zar (nv b);have hb1:=(Zec h0).1;have hbp:=ZEe h0;by_cases h4:(toL (nv a)).length≤4∧(toL (nv b)).length≤4
 ·obtain⟨h4a,h4b⟩:=h4;have ca:=Ztv (toL (nv a)) h4a ma;have cb:=Ztv (toL (nv b)) h4b mb;rw [va] at ca;rw [vb] at cb;have hA:=Zaf.1 h4a;have hB:=Zaf.1 h4b;have hq:=ZGp (nv a) (nv b);have hr:=Nat.mod_le (nv a) (nv b);have cq:=Zkb (nv a/nv b) zo;have cr:=Zkb (nv a%nv b) zo;have wq:IntKind.u64.wrap ((nv a/nv b:Nat):Int)=((nv a/nv b:Nat):Int):=Zgc (ZGd _) (by
   have:((nv a/nv b:Nat):Int)≤(nv a:Int):=Int.ofNat_le.2 hq;omega)
  have hn:((nv b:Nat):Int)≠0:=zo;refine Zaa (tok:=0) (rs:=[.tmp 4,.tmp 5,.tmp 6]) func197 rfl ntmps197 results197 call197 zr zs ?_
  (refine wkad (w_4 @Zdk @Ze0 wq hn) (w_6 (Zef a zo la) (Zef b zo lb) ca cb cq cr) w_t (w_s ?_);intros)
  simp (disch:=omega) only [go_sem]
 ·have h4':((toL (nv a)).length≤4)→4 < (toL (nv b)).length:=λh=>by
   rcases ZC5 4 (toL (nv b)).length with h3 | h3
   ·exact h3
   ·exact absurd ⟨h,h3⟩ h4
  obtain⟨A,hA⟩:∃A,toL (nv a)=A:=⟨_,rfl⟩;rw [hA] at va ma h1 h4';refine Zaa (tok:=0) (rs:=[.tmp 4,.tmp 5,.tmp 6]) func197 rfl ntmps197 results197 call197 zr zs ?_;rcases ZC5 4 A.length with h5 | h5
  rotate_left
  have h6:=h4' h5;all_goals
   (refine wkvp (w_1 hA) (w_2 (Zef a zo la) (Zef b zo lb)) (w_s ?_);intros)
   rw [hA];refine Zdj (Frz.trans (Frz.nil (d:=7) 1 (gC)) (Frz.nil (d:=8) 1 (gC))) ?_;refine Zy1 (ι:=Nat) (λk e m=>k≤A.length∧(e 0=lim A∧e 1=lim (toL (nv b))∧e 9=.v (.int .i64 ((k:Int) - 1)))∧∃ql R,(e 7=lim ql∧e 8=lim (toL R))∧ql.length=A.length - k∧Lm ql∧R < nv b∧nv (A.drop k)=nv ql*nv b+R) (λk=>k) A.length zr ?_ ?_
   ·rintro k e m ⟨hk,⟨e0,e1,e9⟩,ql,R,⟨e7,e8⟩,hql,hqL,hR,hv⟩
    by_cases hk0:k=0
    ·subst hk0;rw [ZEl,va] at hv;have hq:nv ql=nv a/nv b:=by rw [hv,ZDh,Nat.mul_add_div hbp,ZHk hR,ZDx]
     have hr:R=nv a%nv b:=by rw [hv,ZDh,Nat.mul_add_mod,ZE0 hR]
     have cn:=Zef ql zo hqL;rw [hq] at cn;rw [hr] at e8
     (refine wkvp (w_5 e0 e1 e9 e7 e8) (w_1 cn) (w_s ?_);intros)
     simp (disch:=omega) only [go_sem]
    ·obtain⟨j,rfl⟩:∃j,k=j+1:=⟨k - 1,zo⟩;have ej:((j+1:Nat):Int) - 1=(j:Int):=zo;rw [ej] at e9;have gx:=Zbr ma j;have hRl:(toL R).length≤(toL (nv b)).length:=Za6 zo;have cn:=Zef (gN A j :: toL R) (by simp;omega) (λy hy=>by
      rcases List.mem_cons.1 hy with rfl | hy
      ·exact gx
      ·exact Zar R y hy)
     have en:nv (gN A j :: toL R)=gN A j+65536*R:=by rw [nv,Zao]
     rw [en] at cn;have hX:gN A j+65536*R < nv b*65536:=zo;obtain⟨X,hXd⟩:∃X,gN A j+65536*R=X:=⟨_,rfl⟩;rw [hXd] at cn hX
     have hXl:(toL X).length≤(toL (nv b)).length+1:=by
      rw [Zaf,ZDk];exact ZEh hX (ZCw _ (Nat.le_of_lt (Zaf.1 (ZCi (toL (nv b)).length))))
     have cd:=refDigit X (nv b) zo zo hbp hX;have hd:X/nv b < 65536:=by rw [ZFr hbp,ZDh];exact hX
     have hdm:=ZFj X (nv b);have hml:=ZD3 X hbp;have co:=Zkb (X/nv b) zo;have ld:(toL (X/nv b)).length≤1:=Zaf.2 zo;have cm:=Zyr (toL (nv b)) (toL (X/nv b)) zo zo (Zar _) (Zar _);rw [Zao,Zao] at cm;have hle:nv b*(X/nv b)≤X:=zo;have cs:=refSub (toL X) (toL (nv b*(X/nv b))) zo (ZCk (Za6 hle) zo) (Zar _) (Zar _);rw [Zao,Zao,ZCg zo,ZCg zo,show X - nv b*(X/nv b)=X%nv b by omega] at cs;have hcut:X/nv b%65536=X/nv b:=ZE0 hd
     (repeat' (first|(with_reducible first|refine stp ?_|apply gx1|apply gx2|apply gx3|apply gx4|apply gx5|apply gx6|apply gx7|apply gw1 (cn)|refine gw0 (cd) ?_ ?_|refine gw0 (co) ?_ ?_|refine gw0 (cm) ?_ ?_|refine gw0 (cs) ?_ ?_)|(with_reducible refine Zcn ?_;intro _)|((with_reducible refine gE ?_);(try simp (disch:=omega) only [go_sem,e0,e1,e9,e7,e8,Zo3,Zbk,hcut])<;>first|rfl|omega)|with_reducible refine Zam zd ?_))
     refine⟨j,_,Frz.own (d:=7) (gC) (gC),⟨zo,⟨gW e0,gW e1,gC⟩,X/nv b :: ql,X%nv b,⟨by(simp (disch:=omega) only [go_sem,Zo3]<;>repeat' first|rfl|refine⟨?_,?_⟩),gC⟩,by simp [hql];omega,?_,hml,?_⟩,zo⟩
     ·intro y hy;rcases List.mem_cons.1 hy with rfl | hy
      ·exact hd
      ·exact hqL y hy
     ·rw [Zbx,hv,nv,ZC8,ZDp 65536,←hXd];rw [←hXd] at hdm;rw [ZDh] at hdm;have:65536*(nv ql*nv b)=65536*nv ql*nv b:=by rw [ZDm]
      omega
   ·exact⟨ZCi _,⟨gC,gC,gC⟩,[],0,⟨by(simp (disch:=omega) only [go_sem,Zs9]<;>repeat' first|rfl|refine⟨?_,?_⟩),by(simp (disch:=omega) only [go_sem,Zaz,Zs9]<;>repeat' first|rfl|refine⟨?_,?_⟩)⟩,by simp,Lm.nil,hbp,by rw [ZD7 (ZCi _)];simp [nv]⟩
theorem refGcd (a b:List Nat) (ha:a.length≤200000000) (hb:b.length≤200000000) (la:Lm a) (lb:Lm b):Pure prog 164 [lim a,lim b] (lim (toL (Nat.gcd (nv a) (nv b)))):=by
 have h1:=Zat la;have h2:=Zat lb
 have cd:∀x y:Nat,(toL x).length≤200000000→(toL y).length≤200000000→y≠0→Pure prog 197 [lim (toL x),lim (toL y)] (.tup [lim (toL (x/y)),lim (toL (x%y)),.v (.int .i64 0)]):=by
  intro x y hx hy h0;have:=Zpj (toL x) (toL y) hx hy (Zar x) (Zar y) (by rw [Zao];exact h0)
  rwa [Zao,Zao] at this
 refine Zaa (tok:=0) (rs:=[.tmp 4]) func164 rfl ntmps164 results164 call164 zr zs ?_
 (refine wkvp w_t (w_2 (Zef a zo la) (Zef b zo lb)) (w_s ?_);intros)
 refine Zad (ι:=Nat) (λy e m=>∃x,(e 0=lim (toL x)∧e 1=lim (toL y))∧(toL x).length≤200000000∧(toL y).length≤200000000∧Nat.gcd x y=Nat.gcd (nv a) (nv b)) (λy=>y) (nv b) zr ?_ ?_
 ·rintro y e m ⟨x,⟨e0,e1⟩,hx,hy,hg⟩
  rcases ZDr y with h0 | h0
  ·subst h0;have hl:=Zbn.2 (rfl:(0:Nat)=0);rw [Nat.gcd_zero_right] at hg
   (refine wkvp (w_3 e0 e1 hl) w_t (w_s ?_);intros)
   simp (disch:=omega) only [go_sem,hg]
  ·have hl:0 < (toL y).length:=by
    have:=(Zec (show y≠0 by omega)).1;omega
   have hm:=ZD3 x h0;have hml:(toL (x%y)).length≤200000000:=ZCk (Za6 (Nat.le_of_lt hm)) hy;have hgg:Nat.gcd y (x%y)=Nat.gcd (nv a) (nv b):=by rw [←hg,ZGq x y,Nat.gcd_rec y x,ZGq]
   (refine wkvp (w_2 e0 e1) (w_1 (cd x y hx hy zo)) (w_s ?_);intros)
   exact⟨x%y,⟨y,⟨gW e1,gC⟩,hy,hml,hgg⟩,hm⟩
 ·exact⟨nv a,⟨gC,gC⟩,zo,zo,rfl⟩
theorem nAdd (n m:Nat) (hn:(toL n).length≤100000000) (hm:(toL m).length≤100000000):Pure prog 254 [lim (toL n),lim (toL m)] (lim (toL (n+m))):=by
 have:=natAdd (toL n) (toL m) zo zo (Zar _) (Zar _)
 rwa [Zao,Zao] at this
theorem nMul (n m:Nat) (hn:(toL n).length≤100000000) (hm:(toL m).length≤100000000):Pure prog 151 [lim (toL n),lim (toL m)] (lim (toL (n*m))):=by
 have:=natMul (toL n) (toL m) zo zo (Zar _) (Zar _)
 rwa [Zao,Zao] at this
theorem nCmp (n m:Nat) (hn:(toL n).length≤100000000) (hm:(toL m).length≤100000000):Pure prog 212 [lim (toL n),lim (toL m)] (.v (.int .i64 (cmpN n m))):=by
 have:=Zud (toL n) (toL m) zo zo (Zar _) (Zar _)
 rwa [Zao,Zao] at this
theorem nSub (n m:Nat) (hn:(toL n).length≤100000000) (hm:(toL m).length≤100000000):Pure prog 255 [lim (toL n),lim (toL m)] (.tup [lim (if n < m then [] else toL (n - m)),.v (.int .i64 (if n < m then 2 else 0))]):=by
 have:=natSub (toL n) (toL m) zo zo (Zar _) (Zar _)
 rwa [Zao,Zao] at this
theorem Zzw (n m:Nat) (hn:(toL n).length≤100000000) (hm:(toL m).length≤100000000) (h0:m≠0):Pure prog 158 [lim (toL n),lim (toL m)] (.tup [lim (toL (n/m)),lim (toL (n%m)),.v (.int .i64 0)]):=by
 have:=Zp2 (toL n) (toL m) zo zo (Zar _) (Zar _) (by rw [Zao];exact h0)
 rwa [Zao,Zao] at this
theorem nGcd (n m:Nat) (hn:(toL n).length≤100000000) (hm:(toL m).length≤100000000):Pure prog 95 [lim (toL n),lim (toL m)] (lim (toL (Nat.gcd n m))):=by
 have:=natGcd (toL n) (toL m) zo zo (Zar _) (Zar _)
 rwa [Zao,Zao] at this
theorem Zp4 (n:Nat) (hn:(toL n).length≤100000000):Pure prog 155 [lim (toL n)] (lim (toL n)):=by
 have:=Znx (toL n) zo (Zar _)
 rwa [Zao] at this
theorem nBits (n:Nat) (hn:(toL n).length≤100000000):Pure prog 159 [lim (toL n)] (.v (.int .i64 (Zoq n:Nat))):=by
 have:=natBits (toL n) zo (Zar _)
 rwa [Zao] at this
theorem rAdd (n m:Nat) (hn:(toL n).length≤100000000) (hm:(toL m).length≤100000000):Pure prog 174 [lim (toL n),lim (toL m)] (lim (toL (n+m))):=by
 have:=refAdd (toL n) (toL m) zo zo (Zar _) (Zar _)
 rwa [Zao,Zao] at this
theorem rMul (n m:Nat) (hn:(toL n).length≤100000000) (hm:(toL m).length≤100000000):Pure prog 134 [lim (toL n),lim (toL m)] (lim (toL (n*m))):=by
 have:=Zyr (toL n) (toL m) zo zo (Zar _) (Zar _)
 rwa [Zao,Zao] at this
theorem rCmp (n m:Nat) (hn:(toL n).length≤100000000) (hm:(toL m).length≤100000000):Pure prog 235 [lim (toL n),lim (toL m)] (.v (.int .i64 (cmpN n m))):=by
 have:=Zys (toL n) (toL m) zo zo (Zar _) (Zar _)
 rwa [Zao,Zao] at this
theorem rSub (n m:Nat) (hn:(toL n).length≤100000000) (hm:(toL m).length≤100000000):Pure prog 233 [lim (toL n),lim (toL m)] (.tup [lim (if n < m then [] else toL (n - m)),.v (.int .i64 (if n < m then 2 else 0))]):=by
 have:=refSub (toL n) (toL m) zo zo (Zar _) (Zar _)
 rwa [Zao,Zao] at this
theorem Zy2 (n m:Nat) (hn:(toL n).length≤100000000) (hm:(toL m).length≤100000000) (h0:m≠0):Pure prog 197 [lim (toL n),lim (toL m)] (.tup [lim (toL (n/m)),lim (toL (n%m)),.v (.int .i64 0)]):=by
 have:=Zpj (toL n) (toL m) zo zo (Zar _) (Zar _) (by rw [Zao];exact h0)
 rwa [Zao,Zao] at this
theorem rGcd (n m:Nat) (hn:(toL n).length≤100000000) (hm:(toL m).length≤100000000):Pure prog 164 [lim (toL n),lim (toL m)] (lim (toL (Nat.gcd n m))):=by
 have:=refGcd (toL n) (toL m) zo zo (Zar _) (Zar _)
 rwa [Zao,Zao] at this
theorem rNorm (n:Nat) (hn:(toL n).length≤100000000):Pure prog 196 [lim (toL n)] (lim (toL n)):=by
 have:=Zef (toL n) zo (Zar _)
 rwa [Zao] at this
theorem szB:szOf prog 4=some 1:=by kernel_rfl
theorem zB:Za0 prog 4=some (.bool false):=by kernel_rfl
theorem Zax:szOf prog 50=some 1:=by kernel_rfl
theorem zNat:Za0 prog 50=some (.slice none 0 0):=by kernel_rfl
theorem Zay:szOf prog 52=some 2:=by kernel_rfl
theorem zInt:Za0 prog 52=some (.agg #[.bool false,.slice none 0 0]):=by kernel_rfl
theorem Zaw:szOf prog 54=some 3:=by kernel_rfl
theorem zRat:Za0 prog 54=some (.agg #[.bool false,.slice none 0 0,.slice none 0 0]):=by kernel_rfl
abbrev intA (s:Bool) (n:Nat):AV:=.agg [.v (.bool s),lim (toL n)]
def zI (s:Bool) (n:Nat):Int:=if s then -(n:Int) else n
abbrev intZ (z:Int):AV:=intA (decide (z < 0)) z.natAbs
theorem Zb3 (z:Int):zI (decide (z < 0)) z.natAbs=z:=by
 unfold zI;by_cases h:z < 0
 ·rw [ZCh (by simpa using h)];omega
 ·rw [ZCg (by simpa using h)];omega
theorem Zd6 (s:Bool) (n:Nat):(zI s n).natAbs=n:=by cases s<;>simp [zI]
theorem zI_lt (s:Bool) (n:Nat):decide (zI s n < 0)=(s && decide (0 < n)):=by
 cases s
 ·simp [zI]
 ·simp only [zI,ZDf,ZEf];by_cases h:0 < n
  ·rw [ZCp zo,ZCp h]
  ·rw [ZCq zo,ZCq h]
theorem Zfr (s:Bool) (n:Nat):intZ (zI s n)=.agg [.v (.bool (s && decide (0 < n))),lim (toL n)]:=by
 unfold intZ intA;rw [zI_lt,Zd6]
theorem Zbc {n:Nat}:(0 < (toL n).length)↔0 < n:=by
 have:=@Zbn n;omega
attribute [go_sem] underlying52 underlying54 underlying174 szB zB zNat zInt zRat
attribute [local go_sem] Zax Zay Zaw
theorem Zjn (s:Bool) (n:Nat) (hn:(toL n).length≤1000000000):Pure prog 190 [.v (.bool s),lim (toL n)] (intZ (zI s n)):=by
 rw [Zfr];have hp:=@Zbc n;cases s
 ·refine pI func190 rfl ntmps190 results190 call190 ?_
  (refine wkvp w_t w_t (w_s ?_);intros)
  simp (disch:=omega) only [go_sem,ZDi]
 ·by_cases h:0 < n
  ·refine pI func190 rfl ntmps190 results190 call190 ?_
   (refine wkvp w_t w_t (w_s ?_);intros)
   simp (disch:=omega) only [go_sem,ZCp h]
  ·refine pI func190 rfl ntmps190 results190 call190 ?_
   (refine wkvp w_t w_t (w_s ?_);intros)
   simp (disch:=omega) only [go_sem,ZCq h]
theorem intOf' (s:Bool) (n:Nat) (hn:(toL n).length≤100000000):Pure prog 237 [.v (.bool s),lim (toL n)] (intZ (zI s n)):=by
 rw [Zfr];have hp:=@Zbc n;cases s
 ·refine pI func237 rfl ntmps237 results237 call237 ?_
  (refine wkvp w_t (w_1 (Zp4 n hn)) (w_s ?_);intros)
  simp (disch:=omega) only [go_sem,ZDi]
 ·by_cases h:0 < n
  ·refine pI func237 rfl ntmps237 results237 call237 ?_
   (refine wkvp w_t (w_1 (Zp4 n hn)) (w_s ?_);intros)
   simp (disch:=omega) only [go_sem,ZCp h]
  ·refine pI func237 rfl ntmps237 results237 call237 ?_
   (refine wkvp w_t (w_1 (Zp4 n hn)) (w_s ?_);intros)
   simp (disch:=omega) only [go_sem,ZCq h]
theorem intNorm (s:Bool) (n:Nat) (hn:(toL n).length≤100000000):Pure prog 208 [intA s n] (intZ (zI s n)):=by
 refine pI func208 rfl ntmps208 results208 call208 ?_
 (refine wkvp w_t (w_1 (intOf' s n hn)) (w_s ?_);intros)
 simp (disch:=omega) only [go_sem]
theorem Zsj (s:Bool) (n:Nat) (hn:(toL n).length≤100000000):Pure prog 97 [intA s n] (.v (.int .i64 (zI s n).sign)):=by
 by_cases h:n=0
 ·have hb:Zoq n=0:=Zhz.2 h;have hz:(zI s n).sign=0:=by subst h;cases s<;>rfl
  rw [hz];refine pI func97 rfl ntmps97 results97 call97 ?_
  (refine wkvp (w_2 hb @ZEo) (w_1 (nBits n hn)) (w_s ?_);intros)
  simp (disch:=omega) only [go_sem]
 ·have hb:Zoq n≠0:=λe=>h (Zhz.1 e);cases s
  ·have hz:(zI false n).sign=1:=ZH0 (by simp [zI];omega);rw [hz];refine pI func97 rfl ntmps97 results97 call97 ?_
   (refine wkvp w_t (w_1 (nBits n hn)) (w_s ?_);intros)
   simp (disch:=omega) only [go_sem]
  ·have hz:(zI true n).sign=-1:=ZGh (by simp [zI];omega);rw [hz];refine pI func97 rfl ntmps97 results97 call97 ?_
   (refine wkvp w_t (w_1 (nBits n hn)) (w_s ?_);intros)
   simp (disch:=omega) only [go_sem]
def cmpZ (a b:Int):Int:=if a < b then -1 else if b < a then 1 else 0
theorem ZAf (n m:Nat) (hn:(toL n).length≤100000000) (hm:(toL m).length≤100000000):Pure prog 251 [lim (toL n),lim (toL m)] (.v (.int .i64 (cmpN n m))):=by
 refine pI func251 rfl ntmps251 results251 call251 ?_
 (refine wkvp w_t (w_1 (nCmp n m hn hm)) (w_s ?_);intros)
 simp (disch:=omega) only [go_sem]
theorem intCmp (s t:Bool) (n m:Nat) (hn:(toL n).length≤100000000) (hm:(toL m).length≤100000000):Pure prog 224 [intA s n,intA t m] (.v (.int .i64 (cmpZ (zI s n) (zI t m)))):=by
 have cs:=Zsj s n hn;have ct:=Zsj t m hm;rcases ZGi (zI s n).sign (zI t m).sign with h | h | h
 ·have hc:cmpZ (zI s n) (zI t m)=-1:=by
   unfold cmpZ;rw [ZCh];rcases ZGi (zI s n) 0 with h1 | h1 | h1<;>rcases ZGi (zI t m) 0 with h2 | h2 | h2<;>first
    | omega
    | (exfalso;simp [ZGh,ZH0,h1,h2] at h)
  rw [hc];refine pI func224 rfl ntmps224 results224 call224 ?_
  (refine wkad w_t (w_2 cs ct) (w_1 (w_d 1 [(1,.v (.int .i64 (zI s n).sign)),(3,.v (.int .i64 (zI t m).sign))] [] [])) (w_s ?_);intros)
  simp (disch:=omega) only [go_sem]
 ·have hcc:cmpZ (zI s n) (zI t m)=if (zI s n).sign < 0 then cmpN m n else cmpN n m:=by
   unfold cmpZ cmpN;cases s<;>cases t<;>simp only [zI,ZDf,ZCy,ZDc] at h ⊢
   ·have hs0:¬(n:Int).sign < 0:=by
     have:=Int.sign_nonneg_iff.2 (ZGd n);omega
    simp only [hs0,ZDc,Int.ofNat_lt]
   ·have h1:=Int.sign_nonneg_iff.2 (ZGd n)
    have h2:(-(m:Int)).sign≤0:=by
     rcases ZDr m with h3 | h3
     ·subst h3;simp
     ·rw [ZGh zo];omega
    have h3:(n:Int).sign=0:=zo;have h4:n=0:=by have:=Int.sign_eq_zero_iff_zero.1 h3;omega
    have h5:m=0:=by rw [h3] at h;have:=Int.sign_eq_zero_iff_zero.1 h.symm;omega
    subst h4;subst h5;simp
   ·have h1:=Int.sign_nonneg_iff.2 (ZGd m)
    have h2:(-(n:Int)).sign≤0:=by
     rcases ZDr n with h3 | h3
     ·subst h3;simp
     ·rw [ZGh zo];omega
    have h3:(m:Int).sign=0:=zo;have h4:m=0:=by have:=Int.sign_eq_zero_iff_zero.1 h3;omega
    have h5:n=0:=by rw [h3] at h;have:=Int.sign_eq_zero_iff_zero.1 h;omega
    subst h4;subst h5;simp
   ·rcases ZDr n with h3 | h3
    ·subst h3;have h5:m=0:=by have:=Int.sign_eq_zero_iff_zero.1 h.symm;omega
     subst h5;simp
    ·rw [ZCh (c:=(-(n:Int)).sign < 0) (by rw [ZGh zo];omega)];have e1:(-(n:Int) < -(m:Int))↔m < n:=zo;have e2:(-(m:Int) < -(n:Int))↔n < m:=zo;simp only [e1,e2]
  rw [hcc];by_cases hneg:(zI s n).sign < 0
  ·rw [ZCh hneg];refine pI func224 rfl ntmps224 results224 call224 ?_
   (refine wkad w_t (w_3 cs ct (ZAf m n hm hn)) (w_1 (w_d 1 [(1,.v (.int .i64 (zI s n).sign)),(3,.v (.int .i64 (zI t m).sign))] [] [])) (w_s ?_);intros)
   simp (disch:=omega) only [go_sem]
  ·rw [ZCg hneg];refine pI func224 rfl ntmps224 results224 call224 ?_
   (refine wkad w_t (w_3 cs ct (ZAf n m hn hm)) (w_1 (w_d 1 [(1,.v (.int .i64 (zI s n).sign)),(3,.v (.int .i64 (zI t m).sign))] [] [])) (w_s ?_);intros)
   simp (disch:=omega) only [go_sem]
 ·have hc:cmpZ (zI s n) (zI t m)=1:=by
   have h0:zI t m < zI s n:=by
    rcases ZGi (zI s n) 0 with h1 | h1 | h1<;>rcases ZGi (zI t m) 0 with h2 | h2 | h2<;>first
     | omega
     | (exfalso;simp [ZGh,ZH0,h1,h2] at h)
   unfold cmpZ;rw [ZCg zo,ZCh h0]
  rw [hc];refine pI func224 rfl ntmps224 results224 call224 ?_
  (refine wkad w_t (w_2 cs ct) (w_1 (w_d 1 [(1,.v (.int .i64 (zI s n).sign)),(3,.v (.int .i64 (zI t m).sign))] [] [])) (w_s ?_);intros)
  simp (disch:=omega) only [go_sem]
theorem Zuu (s t:Bool) (n m:Nat) (hn:(toL n).length≤100000000) (hm:(toL m).length≤100000000):Pure prog 150 [intA s n,intA t m] (intZ (zI s n*zI t m)):=by
 have e:zI s n*zI t m=zI (s != t) (n*m):=by cases s<;>cases t<;>simp [zI,Int.mul_neg,Int.neg_mul]
 have lm:(toL (n*m)).length≤1000000000:=by
  have h5:(toL (n*m)).length≤(toL n).length+(toL m).length:=by
   rw [Zaf,ZDj];exact Nat.mul_lt_mul'' (Zaf.1 (ZCi _)) (Zaf.1 (ZCi _))
  omega
 rw [e];have hne:(!(s == t))=(s != t):=rfl;refine pI func150 rfl ntmps150 results150 call150 ?_
 (refine wkad (w_1 hne) (w_2 (nMul n m hn hm) (Zjn (s != t) (n*m) lm)) (w_1 (w_d 1 [(9,lim (toL (n*m))),(10,intZ (zI (s != t) (n*m)))] [11] [])) (w_s ?_);intros)
 simp (disch:=omega) only [go_sem]
theorem intAdd (s t:Bool) (n m:Nat) (hn:(toL n).length≤100000000) (hm:(toL m).length≤100000000):Pure prog 236 [intA s n,intA t m] (intZ (zI s n+zI t m)):=by
 by_cases hst:s=t
 ·subst hst;have e:zI s n+zI s m=zI s (n+m):=by cases s<;>simp [zI]<;>omega
  have la:(toL (n+m)).length≤1000000000:=by
   have h5:(toL (n+m)).length≤max (toL n).length (toL m).length+1:=by
    rw [Zaf,ZDk];have h1:=Zaf.1 (Nat.le_max_left (toL n).length (toL m).length);have h2:=Zaf.1 (Nat.le_max_right (toL n).length (toL m).length);generalize 65536 ^ max (toL n).length (toL m).length=p at *;omega
   omega
  rw [e];have hb:(s == s)=true:=by cases s<;>rfl
  refine pI func236 rfl ntmps236 results236 call236 ?_
  (refine wkad (w_1 hb) (w_2 (nAdd n m hn hm) (Zjn s (n+m) la)) (w_1 (w_d 2 [(6,lim (toL (n+m))),(7,intZ (zI s (n+m)))] [8] [])) (w_s ?_);intros)
  simp (disch:=omega) only [go_sem]
 ·have hb:(s == t)=false:=by cases s<;>cases t<;>first|rfl|exact absurd rfl hst
  have ht:t=!s:=by cases s<;>cases t<;>first|rfl|exact absurd rfl hst
  by_cases hlt:n < m
  ·have hc:cmpN n m=-1:=ZCh hlt;have e:zI s n+zI t m=zI t (m - n):=by rw [ht];cases s<;>simp [zI]<;>omega
   have ls:(toL (m - n)).length≤1000000000:=ZCk (Za6 (Nat.sub_le _ _)) zo;have cs:=nSub m n hm hn;rw [ZCg zo,ZCg zo] at cs;rw [e];refine pI func236 rfl ntmps236 results236 call236 ?_
   (refine wkad (w_2 hb hc) (w_3 (nCmp n m hn hm) cs (Zjn t (m - n) ls)) w_t (w_s ?_);intros)
   simp (disch:=omega) only [go_sem]
  ·have hc:0≤cmpN n m:=by unfold cmpN;rw [ZCg hlt];split<;>omega
   have e:zI s n+zI t m=zI s (n - m):=by rw [ht];cases s<;>simp [zI]<;>omega
   have ls:(toL (n - m)).length≤1000000000:=ZCk (Za6 (Nat.sub_le _ _)) zo;have cs:=nSub n m hn hm;rw [ZCg zo,ZCg zo] at cs;rw [e];refine pI func236 rfl ntmps236 results236 call236 ?_
   (refine wkad (w_1 hb) (w_3 (nCmp n m hn hm) cs (Zjn s (n - m) ls)) w_t (w_s ?_);intros)
   simp (disch:=omega) only [go_sem]
inductive Vk:AV→AV→Prop
 | refl (a:AV):Vk a a
 | nil (m:Nat):Vk (.v (.slice none 0 0)) (.sl m [])
 | agg (xs ys:List AV) (hl:xs.length=ys.length) (h:∀(j:Nat) (a b:AV),xs[j]?=some a→ys[j]?=some b→Vk a b):Vk (.agg xs) (.agg ys)
 | tup (xs ys:List AV) (hl:xs.length=ys.length) (h:∀(j:Nat) (a b:AV),xs[j]?=some a→ys[j]?=some b→Vk a b):Vk (.tup xs) (.tup ys)
 | sl (m:Nat) (es es':List AV) (hl:es.length=es'.length) (hm:∀e∈es',e.cells.length=m) (hok:∀e∈es',e.ok=true) (hf:(flat es).length=(flat es').length) (h:∀(j:Nat) (a b:AV),(flat es)[j]?=some a→(flat es')[j]?=some b→Vk a b):Vk (.sl m es) (.sl m es')
theorem Vk.rd {w:World} {imm:Imm} {a b:AV} (h:Vk a b):∀{x:Value},Rd w imm a x→Rd w imm b x:=by
 induction h with
 | refl a=>exact λh=>h
 | nil m =>
   intro x h;cases h;exact .sl m [] none 0 (λ_=>undef) zs zs (ZCi _) zs zs (by simp [flat])
 | agg xs ys hl _ ih =>
   intro x h
   cases h with
   | agg _ vs hl2 hr =>
     refine .agg ys vs zo λj b x h1 h2=>?_;have hj:j < xs.length:=by rw [hl];exact(List.getElem?_eq_some_iff.1 h1).1
     exact ih j xs[j] b (ZCs hj) h1 (hr j xs[j] x (ZCs hj) h2)
 | tup xs ys hl _ ih =>
   intro x h
   cases h with
   | tup _ vs hl2 hr =>
     refine .tup ys vs zo λj b x h1 h2=>?_;have hj:j < xs.length:=by rw [hl];exact(List.getElem?_eq_some_iff.1 h1).1
     exact ih j xs[j] b (ZCs hj) h1 (hr j xs[j] x (ZCs hj) h2)
 | sl m es es' hl hm hok hf _ ih =>
   intro x h;obtain⟨A,cap,f,rfl,hcap,_,_,hn,hA,hr⟩:=(Rs.pure h).sl_inv;rw [hl];refine .sl m es' A cap f hm hok zo (λh=>hn zo) (λj hj=>hA j (by rw [hl];exact hj)) λj b hb=>?_;have hj:j < (flat es).length:=by rw [hf];exact(List.getElem?_eq_some_iff.1 hb).1
   exact ih j _ b (ZCs hj) hb (hr j _ (ZCs hj))
def VkL (xs ys:List AV):Prop:=xs.length=ys.length∧∀(j:Nat) (a b:AV),xs[j]?=some a→ys[j]?=some b→Vk a b
theorem VkL.nil:VkL [] []:=⟨rfl,λj a b h=>by simp at h⟩
theorem VkL.cons {a b:AV} {xs ys:List AV} (h:Vk a b) (t:VkL xs ys):VkL (a :: xs) (b :: ys):=by
 refine⟨by simp [t.1],λj x y h1 h2=>?_⟩
 cases j with
 | zero=>simp at h1 h2;subst h1;subst h2;exact h
 | succ j=>exact t.2 j x y (by simpa using h1) (by simpa using h2)
theorem VkL.refl (xs:List AV):VkL xs xs:=⟨rfl,λj a b h1 h2=>by rw [h1] at h2;cases h2;exact .refl _⟩
theorem Vk.aggL {xs ys:List AV} (h:VkL xs ys):Vk (.agg xs) (.agg ys):=.agg xs ys h.1 h.2
theorem Vk.tupL {xs ys:List AV} (h:VkL xs ys):Vk (.tup xs) (.tup ys):=.tup xs ys h.1 h.2
theorem Vk.slL {m:Nat} {es es':List AV} (hl:es.length=es'.length) (hm:∀e∈es',e.cells.length=m) (hok:∀e∈es',e.ok=true) (h:VkL (flat es) (flat es')):Vk (.sl m es) (.sl m es'):=.sl m es es' hl hm hok h.1 h.2
theorem Zy7 {P:Program} {f:FuncId} {args args':List AV} {r r':AV} (h:Pure P f args' r) (ha:VkL args args') (hw:Vk r r'):Pure P f args r':=by
 refine⟨h.1,λw imm vs h1 h2 h3=>(h.2 w imm vs h1 (by rw [←ha.1];exact h2) λj b x e1 e2=>?_).mono λe w' he=>?_⟩
 ·have hj:j < args.length:=by rw [ha.1];exact(List.getElem?_eq_some_iff.1 e1).1
  exact(ha.2 j args[j] b (ZCs hj) e1).rd (h3 j args[j] x (ZCs hj) e2)
 ·obtain⟨x,imm',e1,e2,e3⟩:=he;exact⟨x,imm',e1,hw.rd e2,e3⟩
theorem Zhr {P:Program} {f:FuncId} {args args':List AV} {r:AV} (h:Pure P f args' r) (ha:VkL args args'):Pure P f args r:=Zy7 h ha (.refl _)
theorem Zfg {P:Program} {f:FuncId} {args:List AV} {r r':AV} (h:Pure P f args r) (hw:Vk r r'):Pure P f args r':=Zy7 h (.refl _) hw
theorem Zf2 (n m:Nat):(toL (n*m)).length≤(toL n).length+(toL m).length:=by
 rw [Zaf,ZDj];exact Nat.mul_lt_mul'' (Zaf.1 (ZCi _)) (Zaf.1 (ZCi _))
theorem Zqe (n m:Nat):(toL (n+m)).length≤max ((toL n).length) ((toL m).length)+1:=by
 rw [Zaf,ZDk];have h1:=Zaf.1 (Nat.le_max_left ((toL n).length) ((toL m).length));have h2:=Zaf.1 (Nat.le_max_right ((toL n).length) ((toL m).length));generalize 65536 ^ max ((toL n).length) ((toL m).length)=p at *;omega
theorem Zc5 {n m:Nat} (h:n≤m):(toL n).length≤(toL m).length:=Za6 h
theorem Zc8:(toL 1).length=1:=by rw [Zex zo];simp [Zaz]
theorem Zq2:toL 1=[1]:=by rw [Zex zo];simp [Zaz]
abbrev ratQ (q:Rat):AV:=.agg [.v (.bool (decide (q.num < 0))),lim (toL q.num.natAbs),lim (toL q.den)]
abbrev ratA (s:Bool) (n d:Nat):AV:=.agg [.v (.bool s),lim (toL n),lim (toL d)]
def Sz (q:Rat) (k:Nat):Prop:=(toL q.num.natAbs).length≤k∧(toL q.den).length≤k
theorem Sz.mono {q:Rat} {k j:Nat} (h:Sz q k) (hk:k≤j):Sz q j:=⟨ZCk h.1 hk,ZCk h.2 hk⟩
theorem Zrs (z:Int) (m:Nat) (hm:m≠0):ratQ (mkRat z m)=.agg [.v (.bool (decide (z < 0))),lim (toL (z.natAbs/Nat.gcd z.natAbs m)),lim (toL (m/Nat.gcd z.natAbs m))]:=by
 unfold ratQ;rw [Rat.num_mkRat,Rat.den_mkRat,ZCg hm,ZCg hm,ZGq m z.natAbs];have hg:0 < Nat.gcd z.natAbs m:=ZIa _ zo;have hd:((Nat.gcd z.natAbs m:Nat):Int) ∣ z:=Int.ofNat_dvd_left.2 (Nat.gcd_dvd_left _ _);generalize Nat.gcd z.natAbs m=g at *;obtain⟨k,hk⟩:=hd;have hgz:(g:Int)≠0:=zo;have e1:z/(g:Int)=k:=by rw [hk,ZIb _ hgz]
 have e2:z.natAbs/g=k.natAbs:=by rw [hk,ZFc,ZFd,Nat.mul_div_cancel_left _ hg]
 have e3:(z < 0)↔(k < 0):=by
  rw [hk];constructor
  ·intro h;rcases (by omega:k < 0∨0≤k) with h1 | h1
   ·exact h1
   ·have:=Int.mul_nonneg (show(0:Int)≤g by omega) h1;omega
  ·intro h;exact Int.mul_neg_of_pos_of_neg zo h
 rw [e1,e2];simp only [e3]
theorem Sz.mk {z:Int} {m k:Nat} (hz:(toL z.natAbs).length≤k) (hm:(toL m).length≤k) (hk:1≤k):Sz (mkRat z m) k:=by
 unfold Sz;rw [Rat.num_mkRat,Rat.den_mkRat];by_cases h:m=0
 ·rw [ZCh h,ZCh h];refine⟨?_,by rw [Zc8];exact hk⟩;show(toL 0).length≤k;rw [Zaz];simp
 ·rw [ZCg h,ZCg h];refine⟨ZCk (Zc5 ?_) hz,ZCk (Zc5 (ZGp _ _)) hm⟩;have hd:((Nat.gcd m z.natAbs:Nat):Int) ∣ z:=Int.ofNat_dvd_left.2 (Nat.gcd_dvd_right _ _);have hg:0 < Nat.gcd m z.natAbs:=Nat.gcd_pos_of_pos_left _ zo;generalize Nat.gcd m z.natAbs=g at *;obtain⟨c,hc⟩:=hd;rw [hc,ZIb _ zo,ZFc,ZFd];exact ZHm _ hg
theorem Zeq (a b:Int):(a+b).natAbs≤a.natAbs+b.natAbs:=zo
theorem Sz.pos {q:Rat} {k:Nat} (h:Sz q k):1≤k:=by
 have h1:=Zbc.2 q.den_pos;have h2:=h.2;omega
theorem Zfj (a b:Rat) {j k:Nat} (ha:Sz a j) (hb:Sz b k):(toL (a.num*b.den).natAbs).length≤j+k:=by
 rw [ZFc,ZFd];exact ZCk (Zf2 _ _) (ZDt ha.1 hb.2)
theorem Sz.mul {a b:Rat} {j k:Nat} (ha:Sz a j) (hb:Sz b k):Sz (a*b) (j+k):=by
 rw [Rat.mul_def'];refine Sz.mk ?_ (ZCk (Zf2 _ _) (ZDt ha.2 hb.2)) (by have:=ha.pos;omega);rw [ZFc];exact ZCk (Zf2 _ _) (ZDt ha.1 hb.1)
theorem Sz.add {a b:Rat} {j k:Nat} (ha:Sz a j) (hb:Sz b k):Sz (a+b) (j+k+1):=by
 rw [Rat.add_def'];refine Sz.mk ?_ (ZCk (Zf2 _ _) (by have:=ha.2;have:=hb.2;omega)) zo;have h1:=Zfj a b ha hb;have h2:=Zfj b a hb ha;have h3:=Zc5 (Zeq (a.num*b.den) (b.num*a.den));have h4:=Zqe (a.num*b.den).natAbs (b.num*a.den).natAbs;omega
theorem Sz.neg {a:Rat} {j:Nat} (ha:Sz a j):Sz (-a) j:=by
 unfold Sz;rw [Rat.neg_num,Rat.neg_den,ZHn];exact ha
theorem Sz.sub {a b:Rat} {j k:Nat} (ha:Sz a j) (hb:Sz b k):Sz (a - b) (j+k+1):=by
 rw [Rat.sub_eq_add_neg];exact ha.add hb.neg
theorem Sz.inv {a:Rat} {j:Nat} (ha:Sz a j):Sz (a⁻¹) j:=by
 unfold Sz;rw [Rat.num_inv,Rat.den_inv];by_cases h:a.num=0
 ·rw [ZCh h,h];refine⟨?_,by rw [Zc8];exact ha.pos⟩;have:(Int.sign 0*(a.den:Int)).natAbs=0:=by simp
  rw [this];show(toL 0).length≤j;rw [Zaz];simp
 ·rw [ZCg h];refine⟨?_,ha.1⟩;rw [ZFc,ZFd,Int.natAbs_sign_of_ne_zero h,ZEp];exact ha.2
theorem Sz.int {z:Int} {k:Nat} (h:(toL z.natAbs).length≤k) (hk:1≤k):Sz (z:Rat) k:=⟨h,by show(toL 1).length≤k;rw [Zc8];exact hk⟩
def cmpQ (a b:Rat):Int:=if a < b then -1 else if b < a then 1 else 0
theorem cmpQ_z (a b:Rat):cmpQ a b=cmpZ (a.num*b.den) (b.num*a.den):=by
 unfold cmpQ cmpZ;simp only [Rat.lt_iff]
theorem iMul (z w:Int) (hz:(toL z.natAbs).length≤100000000) (hw:(toL w.natAbs).length≤100000000):Pure prog 150 [intZ z,intZ w] (intZ (z*w)):=by
 have:=Zuu (decide (z < 0)) (decide (w < 0)) z.natAbs w.natAbs hz hw
 rwa [Zb3,Zb3] at this
theorem iMulN (z:Int) (d:Nat) (hz:(toL z.natAbs).length≤100000000) (hw:(toL d).length≤100000000):Pure prog 150 [intZ z,intA false d] (intZ (z*d)):=by
 have:=Zuu (decide (z < 0)) false z.natAbs d hz hw;rw [Zb3] at this;exact this
theorem iAddA (z:Int) (t:Bool) (m:Nat) (hz:(toL z.natAbs).length≤100000000) (hm:(toL m).length≤100000000):Pure prog 236 [intZ z,intA t m] (intZ (z+zI t m)):=by
 have:=intAdd (decide (z < 0)) t z.natAbs m hz hm
 rwa [Zb3] at this
theorem iAdd0 (t:Bool) (m:Nat) (hm:(toL m).length≤100000000):Pure prog 236 [.agg [.v (.bool false),.v (.slice none 0 0)],intA t m] (intZ (zI t m)):=by
 have h:=iAddA 0 t m (by show(toL 0).length≤_;rw [Zaz];simp) hm;rw [ZC3] at h;refine Zhr h (.cons (.aggL (.cons (.refl _) (.cons ?_ .nil))) (.cons (.refl _) .nil));show Vk _ (.sl 1 (u16s (toL 0)));rw [Zaz];exact .nil 1
theorem iCmp (z w:Int) (hz:(toL z.natAbs).length≤100000000) (hw:(toL w.natAbs).length≤100000000):Pure prog 224 [intZ z,intZ w] (.v (.int .i64 (cmpZ z w))):=by
 have:=intCmp (decide (z < 0)) (decide (w < 0)) z.natAbs w.natAbs hz hw
 rwa [Zb3,Zb3] at this
theorem iSign (z:Int) (hz:(toL z.natAbs).length≤100000000):Pure prog 97 [intZ z] (.v (.int .i64 z.sign)):=by
 have:=Zsj (decide (z < 0)) z.natAbs hz
 rwa [Zb3] at this
def sumC (z w:Int):Nat→List AV
 | 0=>[.v (.bool false),.v (.slice none 0 0)]
 | 1=>[.v (.bool (decide (z < 0))),lim (toL z.natAbs)]
 | _=>[.v (.bool (decide (z+w < 0))),lim (toL (z+w).natAbs)]
theorem Zxe (x:Nat) (l:List Nat):u16s (x :: l)=AV.v (.int .u16 (x:Int)) :: u16s l:=rfl
theorem Zxn:szOf prog 174=some 2:=by kernel_rfl
theorem zShape:Za0 prog 174=some (.agg #[.int .i64 0,.int .u16 0]):=by kernel_rfl
theorem ZA3:eqTy prog 174=true:=by kernel_rfl
attribute [go_sem] zShape underlying237
attribute [local go_sem] Zxn ZA3
theorem intOf (n:Nat) (hn:n < 9223372036854775808):Pure prog 116 [.v (.int .i64 (n:Int))] (intA false n):=by
 have l4:(toL n).length≤4:=Zaf.2 zo;have hm:=Zjn false n zo;rw [Zfr,ZDi] at hm;refine pI func116 rfl ntmps116 results116 call116 ?_
 (refine wkvp w_t (w_2 (natOf n zo) hm) (w_s ?_);intros)
 simp (disch:=omega) only [go_sem]
theorem Zrr:Pure prog 117 [] (lim (toL 1)):=by
 rw [Zq2];refine pI func117 rfl ntmps117 results117 call117 ?_
 (refine wkvp w_t w_t (w_s ?_);intros)
 exact gC
theorem Zkf (n:Nat):Pure prog 205 [lim (toL n)] (intA false n):=by
 refine pI func205 rfl ntmps205 results205 call205 ?_
 (refine wkvp w_t w_t (w_s ?_);intros)
 simp (disch:=omega) only [go_sem]
theorem Zk9 (n:Nat) (hn:(toL n).length≤100000000):Pure prog 94 [lim (toL n)] (.v (.bool (decide (n=1)))):=by
 by_cases h0:n=0
 ·subst h0;rw [Zaz];refine pI func94 rfl ntmps94 results94 call94 ?_
  (refine wkvp w_t w_t (w_s ?_);intros)
  simp (disch:=omega) only [go_sem,ZCv]
 ·have hd:decide (n=1)=(((((toL (n/65536)).length+1:Nat):Int) == 1) && (((n%65536:Nat):Int) == 1)):=by
   have hp:=@Zbc (n/65536);rw [ZDg];simp only [ZDb,ZC2,ZEk];omega
  rw [Zex zo,hd];refine pI func94 rfl ntmps94 results94 call94 ?_
  (refine wkvp (w_1 @Zxe) w_t (w_s ?_);intros)
  simp (disch:=omega) only [go_sem]
theorem Zk8 (s:Bool) (n d:Nat) (h2:(toL d).length≤10000000) (h0:d≠0):Pure prog 96 [ratA s n d] (.tup [intA s n,lim (toL d)]):=by
 have hb:Zoq d≠0:=λe=>h0 (Zhz.1 e);refine pI func96 rfl ntmps96 results96 call96 ?_;(focus (refine wkad w_t (w_1 (nBits d zo)) (w_1 (w_d 3 [] [] [2])) ?_;(repeat' first|exact w_t|apply w_l);all_goals intros));simp (disch:=omega) only [go_sem]
theorem Zgf (q:Rat) {k:Nat} (h:Sz q k) (hk:k≤10000000):Pure prog 96 [ratQ q] (.tup [intZ q.num,lim (toL q.den)]) :=
 Zk8 _ _ _ (ZCk h.2 hk) q.den_nz
theorem Zeu (s:Bool) (n m:Nat) (hn:(toL n).length≤10000000) (hm:(toL m).length≤10000000) (h0:m≠0):Pure prog 149 [intA s n,lim (toL m)] (ratQ (mkRat (zI s n) m)):=by
 have cn:=intNorm s n zo;have hz:=Zd6 s n;rw [Zrs _ _ h0];generalize zI s n=z at *;subst hz;have hmp:=Zbc.2 (ZEe h0);have g0:Nat.gcd z.natAbs m≠0:=Nat.ne_of_gt (ZIa _ zo);have hg:(toL (Nat.gcd z.natAbs m)).length≤10000000:=ZCk (Zc5 (Nat.le_of_dvd zo (Nat.gcd_dvd_right _ _))) hm;have cg:=nGcd z.natAbs m zo zo;have c1:=Zk9 m zo;have c2:=Zk9 (Nat.gcd z.natAbs m) zo;by_cases hz0:z.natAbs=0
 ·have hzz:z=0:=zo;subst hzz;have l0:(toL 0).length=0:=by rw [Zaz];rfl
  have n0:Int.natAbs 0=0:=rfl;have hd:decide ((0:Int) < 0)=false:=rfl;have cn:Pure prog 208 [intA s 0] (.agg [.v (.bool false),lim (toL 0)]):=cn;rw [n0] at hn ⊢;rw [Nat.gcd_zero_left,Nat.zero_div,Nat.div_self zo,hd];refine Zfg (r:=.agg [.v (.bool false),.v (.slice none 0 0),lim (toL 1)]) ?_ (.aggL (.cons (.refl _) (.cons ?_ (VkL.refl _))))
  ·refine pI func149 rfl ntmps149 results149 call149 ?_
   (refine wkvp (w_1 l0) (w_3 (Zp4 m zo) cn Zrr) (w_s ?_);intros)
   simp (disch:=omega) only [go_sem]
  ·show Vk _ (.sl 1 (u16s (toL 0)));rw [Zaz];exact .nil 1
 ·have hzp:=Zbc.2 (ZEe hz0);by_cases hm1:m=1
  ·subst hm1;rw [Nat.gcd_one_right,ZGa,ZGa];refine pI func149 rfl ntmps149 results149 call149 ?_
   (refine wkvp w_t (w_3 (Zp4 1 zo) cn c1) (w_s ?_);intros)
   simp (disch:=omega) only [go_sem]
  ·have d1:decide (m=1)=false:=ZCq hm1;rw [d1] at c1;by_cases hg1:Nat.gcd z.natAbs m=1
   ·have d2:decide (Nat.gcd z.natAbs m=1)=true:=ZCp hg1;rw [d2] at c2;rw [hg1,ZGa,ZGa];refine pI func149 rfl ntmps149 results149 call149 ?_
    (refine wkvp w_t (w_5 (Zp4 m zo) cn c1 cg c2) (w_s ?_);intros)
    simp (disch:=omega) only [go_sem]
   ·have d2:decide (Nat.gcd z.natAbs m=1)=false:=ZCq hg1;rw [d2] at c2;refine pI func149 rfl ntmps149 results149 call149 ?_
    (refine wkad w_t (w_7 (Zp4 m zo) cn c1 cg c2 (Zzw z.natAbs (Nat.gcd z.natAbs m) zo zo g0) (Zzw m (Nat.gcd z.natAbs m) zo zo g0)) w_t (w_s ?_);intros)
    simp (disch:=omega) only [go_sem]
theorem ratMake (z w:Int) (hz:(toL z.natAbs).length≤10000000) (hw:(toL w.natAbs).length≤10000000) (h0:w≠0):Pure prog 203 [intZ z,intZ w] (.tup [ratQ (Rat.divInt z w),.v (.int .i64 0)]):=by
 have e:Rat.divInt z w=mkRat (zI (decide (z < 0) != decide (w < 0)) z.natAbs) w.natAbs:=by
  have ez:=Zb3 z;unfold zI at ez ⊢;rcases (by omega:w < 0∨0 < w) with h | h
  ·rw [ZCp h];have hw1:w=-((w.natAbs:Nat):Int):=zo;rw [show Rat.divInt z w=Rat.divInt z (-((w.natAbs:Nat):Int)) by rw [←hw1],Rat.divInt_neg',ZHo];congr 1;by_cases h1:z < 0
   ·simp only [ZCp h1,bne_self_eq_false,ZCy,ZDc];omega
   ·simp only [ZCq h1,Bool.false_bne,ZDf];omega
  ·rw [ZCq (by omega:¬w < 0)];have hw1:w=((w.natAbs:Nat):Int):=zo;rw [show Rat.divInt z w=Rat.divInt z ((w.natAbs:Nat):Int) by rw [←hw1],ZHo];congr 1;by_cases h1:z < 0
   ·simp only [ZCp h1,Bool.bne_false,ZDf];omega
   ·simp only [ZCq h1,bne_self_eq_false,ZCy,ZDc];omega
 have c:=Zeu (decide (z < 0) != decide (w < 0)) z.natAbs w.natAbs hz hw zo;rw [←e] at c;have cs:=iSign w zo;have hs:w.sign≠0:=λh=>h0 (Int.sign_eq_zero_iff_zero.1 h);refine pI func203 rfl ntmps203 results203 call203 ?_;have hne (a b:Bool):(!(a == b))=(a != b):=rfl
 (refine wkvp (w_1 hne) (w_2 cs c) (w_s ?_);intros)
 simp (disch:=omega) only [go_sem]
theorem Ze1 (q:Rat) {k:Nat} (h:Sz q k) (hk:k≤10000000):Pure prog 42 [ratQ q] (.v (.int .i64 q.num.sign)):=by
 have h1:=h.1;refine pI func42 rfl ntmps42 results42 call42 ?_
 (refine wkvp w_t (w_2 (Zgf q h hk) (iSign q.num zo)) (w_s ?_);intros)
 simp (disch:=omega) only [go_sem]
theorem Zyw (s t:Bool) (n m:Nat) (hn:(toL n).length≤100000000) (hm:(toL m).length≤100000000):Pure prog 204 [.sl 2 [intA s n,intA t m]] (intZ (zI s n+zI t m)):=by
 have cz:=iAdd0 s n hn;have ca:=iAddA (zI s n) t m (by rw [Zd6];exact hn) hm;generalize zI s n=z at *;generalize zI t m=w at *;refine pI func204 rfl ntmps204 results204 call204 ?_
 (refine wkvp w_t w_t (w_s ?_);intros)
 refine Zad (ι:=Nat) (λk e mm=>k≤2∧e 6=.sl 2 [intA s n,intA t m]∧e 7=.v (.int .i64 2)∧e 8=.v (.int .i64 (k:Int))∧∃g2 g,e 2=.pbox 2 g2 0∧mm 2=some (.box g2 52 [.v (.bool false),.v (.slice none 0 0)] false)∧e 3=.pbox 3 g 0∧mm 3=some (.box g 52 (sumC z w k) false)) (λk=>2 - k) 0 zr ?_ ?_
 ·rintro k e mm ⟨hk,e6,e7,e8,g2,g,e2,m2,e3,m3⟩
  match k,hk with
  | 0,_ =>
    simp only [sumC] at m3
    (refine wkvp (w_8 e6 e7 e8 e2 m2 e3 m3 @ZEo) (w_1 cz) (w_s ?_);intros)
    exact⟨1,⟨zo,gW e6,gW e7,gW e8,g2,g,gW e2,gW m2,gW e3,by(simp (disch:=omega) only [go_sem,m3,sumC]<;>repeat' first|rfl|refine⟨?_,?_⟩)⟩,zo⟩
  | 1,_ =>
    simp only [sumC] at m3
    (refine wkvp (w_8 e6 e7 e8 e2 m2 e3 m3 @Int.natCast_one) (w_1 ca) (w_s ?_);intros)
    exact⟨2,⟨zo,gW e6,gW e7,gW e8,g2,g,gW e2,gW m2,gW e3,by(simp (disch:=omega) only [go_sem,m3,sumC]<;>repeat' first|rfl|refine⟨?_,?_⟩)⟩,zo⟩
  | 2,_ =>
    simp only [sumC] at m3
    (refine wkvp (w_7 e6 e7 e8 e2 m2 e3 m3) w_t (w_s ?_);intros)
    simp (disch:=omega) only [go_sem,e2]
 ·exact⟨zo,gC,gC,gC,_,_,gC,gC,gC,by(simp (disch:=omega) only [go_sem,sumC]<;>repeat' first|rfl|refine⟨?_,?_⟩)⟩
theorem ratSum (z w:Int) (hz:(toL z.natAbs).length≤100000000) (hw:(toL w.natAbs).length≤100000000):Pure prog 204 [.sl 2 [intZ z,intZ w]] (intZ (z+w)):=by
 have:=Zyw (decide (z < 0)) (decide (w < 0)) z.natAbs w.natAbs hz hw
 rwa [Zb3,Zb3] at this
theorem Zvw (n:Nat) (hn:n < 9223372036854775808):Pure prog 56 [.v (.int .i64 (n:Int))] (ratQ (n:Rat)):=by
 refine pI func56 rfl ntmps56 results56 call56 ?_;have hd:decide ((n:Rat).num < 0)=false:=ZCq (by show ¬((n:Int) < 0);omega);have hn':(n:Rat).num.natAbs=n:=ZFd n;unfold ratQ;rw [hd,hn',Rat.den_natCast]
 (refine wkvp w_t (w_2 (intOf n hn) Zrr) (w_s ?_);intros)
 simp (disch:=omega) only [go_sem]
theorem ratMul (a b:Rat) {j k:Nat} (ha:Sz a j) (hb:Sz b k) (hj:j≤2000000) (hk:k≤2000000):Pure prog 90 [ratQ a,ratQ b] (ratQ (a*b)):=by
 obtain⟨a1,a2⟩:=id ha;obtain⟨b1,b2⟩:=id hb;have l1:(toL (a.num*b.num).natAbs).length≤j+k:=by rw [ZFc];exact ZCk (Zf2 _ _) zo
 have l2:(toL (a.den*b.den)).length≤j+k:=ZCk (Zf2 _ _) zo;have c:=Zeu (decide (a.num*b.num < 0)) (a.num*b.num).natAbs (a.den*b.den) zo zo (ZE8 a.den_nz b.den_nz);rw [Zb3,←Rat.mul_def'] at c;refine pI func90 rfl ntmps90 results90 call90 ?_
 (refine wkvp w_t (w_5 (Zgf a ha zo) (Zgf b hb zo) (iMul a.num b.num zo zo) (nMul a.den b.den zo zo) c) (w_s ?_);intros)
 simp (disch:=omega) only [go_sem]
theorem Zyx (s t:Bool) (n d m c:Nat) {j k:Nat} (a1:(toL n).length≤j) (a2:(toL d).length≤j) (b1:(toL m).length≤k) (b2:(toL c).length≤k) (hd0:d≠0) (hc0:c≠0) (hj:j≤2000000) (hk:k≤2000000) :
 Pure prog 139 [ratA s n d,ratA t m c] (ratQ (mkRat (zI s n) d+mkRat (zI t m) c)):=by
 have oa:=Zk9 d zo;have ob:=Zk9 c zo;have l2:(toL (d*c)).length≤j+k:=ZCk (Zf2 _ _) zo;have z1:=Zd6 s n;have w1:=Zd6 t m;have pa:=Zk8 s n d zo hd0;have pb:=Zk8 t m c zo hc0;have eq:mkRat (zI s n) d+mkRat (zI t m) c=mkRat (zI s n*c+zI t m*d) (d*c):=Rat.mkRat_add_mkRat _ _ hd0 hc0;have cs0:=Zyw s t n m zo zo;have cm1:Pure prog 150 [intA s n,intA false c] (intZ (zI s n*c)):=Zuu s false n c zo zo;have cm2:Pure prog 150 [intA t m,intA false d] (intZ (zI t m*d)):=Zuu t false m d zo zo;rw [eq]
 have x1:(toL (zI s n*c).natAbs).length≤j+k:=by
  rw [ZFc,ZFd,z1];exact ZCk (Zf2 _ _) zo
 have x2:(toL (zI t m*d).natAbs).length≤j+k:=by
  rw [ZFc,ZFd,w1];exact ZCk (Zf2 _ _) zo
 by_cases h1:d=1∧c=1
 ·obtain⟨h1,h2⟩:=h1
  have l1:(toL (zI s n+zI t m).natAbs).length≤j+k+1:=by
   have h3:=Zc5 (Zeq (zI s n) (zI t m));have h4:=Zqe (zI s n).natAbs (zI t m).natAbs;rw [z1,w1] at h3 h4;omega
  have c:=Zeu (decide (zI s n+zI t m < 0)) (zI s n+zI t m).natAbs 1 zo (by rw [Zc8];omega) zo;rw [Zb3] at c;subst h1;subst h2;rw [ZCp rfl] at oa ob;have e1:zI s n*((1:Nat):Int)+zI t m*((1:Nat):Int)=zI s n+zI t m:=zo;rw [e1,ZFa];refine pI func139 rfl ntmps139 results139 call139 ?_
  (refine wkax w_t (w_5 pa pb oa ob c) w_t (w_1 cs0) w_t w_t w_y (w_r 0) (w_s ?_);intros)
  simp (disch:=omega) only [go_sem]
 ·have l1:(toL (zI s n*c+zI t m*d).natAbs).length≤j+k+1:=by
   have h3:=Zc5 (Zeq (zI s n*c) (zI t m*d));have h4:=Zqe (zI s n*c).natAbs (zI t m*d).natAbs;omega
  have cr:=Zeu (decide (zI s n*c+zI t m*d < 0)) (zI s n*c+zI t m*d).natAbs (d*c) zo zo (ZE8 hd0 hc0);rw [Zb3] at cr;have cs:=ratSum (zI s n*c) (zI t m*d) zo zo;have cw1:=Zkf c;have cw2:=Zkf d;have cm:=nMul d c zo zo;generalize zI s n*(c:Int)=y1 at *;generalize zI t m*(d:Int)=y2 at *;by_cases h2:d=1
  ·have h3:c≠1:=λh=>h1 ⟨h2,h⟩;rw [ZCp h2] at oa;rw [ZCq h3] at ob;refine pI func139 rfl ntmps139 results139 call139 ?_
   (refine wkax w_t (w_11 pa pb oa ob cw1 cm1 cw2 cm2 cs cm cr) (w_1 (w_d 5 [(2,intA false c),(3,intZ y1),(6,intA false d),(7,intZ y2),(8,.sl 2 [intZ y1,intZ y2]),(9,intZ (y1+y2)),(12,lim (toL (d*c))),(13,ratQ (mkRat (y1+y2) (d*c)))] [] [4])) w_t w_t w_t w_y (w_r 0) (w_s ?_);intros)
   simp (disch:=omega) only [go_sem]
  ·rw [ZCq h2] at oa;refine pI func139 rfl ntmps139 results139 call139 ?_
   (refine wkax w_t (w_10 pa pb oa cw1 cm1 cw2 cm2 cs cm cr) (w_1 (w_d 5 [(2,intA false c),(3,intZ y1),(6,intA false d),(7,intZ y2),(8,.sl 2 [intZ y1,intZ y2]),(9,intZ (y1+y2)),(12,lim (toL (d*c))),(13,ratQ (mkRat (y1+y2) (d*c)))] [] [4])) w_t w_t w_t w_y (w_r 0) (w_s ?_);intros)
   simp (disch:=omega) only [go_sem]
theorem Zyy (a b:Rat) {j k:Nat} (ha:Sz a j) (hb:Sz b k) (hj:j≤2000000) (hk:k≤2000000):Pure prog 139 [ratQ a,ratQ b] (ratQ (a+b)):=by
 have:=Zyx (decide (a.num < 0)) (decide (b.num < 0)) a.num.natAbs a.den b.num.natAbs b.den ha.1 ha.2 hb.1 hb.2 a.den_nz b.den_nz hj hk
 rwa [Zb3,Zb3,ZGj,ZGj] at this
theorem ratSub (a b:Rat) {j k:Nat} (ha:Sz a j) (hb:Sz b k) (hj:j≤2000000) (hk:k≤2000000):Pure prog 137 [ratQ a,ratQ b] (ratQ (a - b)):=by
 have c:=Zyx (decide (a.num < 0)) (!decide (b.num < 0)) a.num.natAbs a.den b.num.natAbs b.den ha.1 ha.2 hb.1 hb.2 a.den_nz b.den_nz hj hk
 have e:zI (!decide (b.num < 0)) b.num.natAbs=-b.num:=by
  have:=Zb3 b.num;unfold zI at *;by_cases h:b.num < 0
  ·simp only [ZCp h,ZHc,ZCy,ZDc];omega
  ·simp only [ZCq h,ZHg,ZDf];omega
 have e2:mkRat (-b.num) b.den=-b:=by rw [←Rat.neg_mkRat,ZGj]
 rw [Zb3,e,ZGj,e2,←Rat.sub_eq_add_neg] at c;refine pI func137 rfl ntmps137 results137 call137 ?_
 (refine wkvp w_t (w_1 c) (w_s ?_);intros)
 simp (disch:=omega) only [go_sem]
theorem ratCmp (a b:Rat) {j k:Nat} (ha:Sz a j) (hb:Sz b k) (hj:j≤2000000) (hk:k≤2000000):Pure prog 177 [ratQ a,ratQ b] (.v (.int .i64 (cmpQ a b))):=by
 obtain⟨a1,a2⟩:=id ha;obtain⟨b1,b2⟩:=id hb;have sa:=Ze1 a ha zo;have sb:=Ze1 b hb zo;have pa:=Zgf a ha zo;have pb:=Zgf b hb zo;have cm1:=iMulN a.num b.den zo zo;have cm2:=iMulN b.num a.den zo zo;have x1:(toL (a.num*b.den).natAbs).length≤j+k:=Zfj a b ha hb;have x2:(toL (b.num*a.den).natAbs).length≤k+j:=Zfj b a hb ha;have cc:=iCmp (a.num*b.den) (b.num*a.den) zo zo;have cw1:=Zkf b.den;have cw2:=Zkf a.den;have dp:(0:Int) < a.den:=by have:=a.den_pos;omega
 have ep:(0:Int) < b.den:=by have:=b.den_pos;omega
 rw [cmpQ_z]
 have sg:∀z:Int,(z.sign=1∧0 < z)∨(z.sign=0∧z=0)∨(z.sign=-1∧z < 0):=by
  intro z;rcases ZGi z 0 with h | h | h
  ·exact .inr (.inr ⟨ZGh h,h⟩)
  ·exact .inr (.inl ⟨by rw [h];rfl,h⟩)
  ·exact .inl ⟨ZH0 h,h⟩
 have mp:∀z w:Int,0 < z→0 < w→0 < z*w:=λz w=>Int.mul_pos;have mz:∀w:Int,0*w=0:=λw=>Int.zero_mul w;have mn:∀z w:Int,z < 0→0 < w→z*w < 0:=λz w=>Int.mul_neg_of_neg_of_pos
 have sA:(a.num.sign=1→0 < a.num*b.den)∧(a.num.sign=0→a.num*b.den=0)∧(a.num.sign=-1→a.num*b.den < 0):=by
  rcases sg a.num with⟨h,h'⟩ | ⟨h,h'⟩ | ⟨h,h'⟩
  ·exact⟨λ_=>mp _ _ h' ep,λh2=>zo,λh2=>zo⟩
  ·exact⟨λh2=>zo,λ_=>(by rw [h'];exact mz _),λh2=>zo⟩
  ·exact⟨λh2=>zo,λh2=>zo,λ_=>mn _ _ h' ep⟩
 have sB:(b.num.sign=1→0 < b.num*a.den)∧(b.num.sign=0→b.num*a.den=0)∧(b.num.sign=-1→b.num*a.den < 0):=by
  rcases sg b.num with⟨h,h'⟩ | ⟨h,h'⟩ | ⟨h,h'⟩
  ·exact⟨λ_=>mp _ _ h' dp,λh2=>zo,λh2=>zo⟩
  ·exact⟨λh2=>zo,λ_=>(by rw [h'];exact mz _),λh2=>zo⟩
  ·exact⟨λh2=>zo,λh2=>zo,λ_=>mn _ _ h' dp⟩
 have ga:=sg a.num;have gb:=sg b.num;generalize a.num*(b.den:Int)=y1 at *;generalize b.num*(a.den:Int)=y2 at *;rcases ZGi a.num.sign b.num.sign with h | h | h
 ·have hc:cmpZ y1 y2=-1:=by
   unfold cmpZ;rw [ZCh zo]
  rw [hc];clear ga gb sA sB;refine pI func177 rfl ntmps177 results177 call177 ?_
  (refine wkad w_t (w_2 sa sb) (w_1 (w_d 1 [(1,.v (.int .i64 a.num.sign)),(3,.v (.int .i64 b.num.sign))] [] [])) (w_s ?_);intros)
  simp (disch:=omega) only [go_sem]
 ·refine pI func177 rfl ntmps177 results177 call177 ?_
  (refine wkvp w_t (w_2 sa sb) (w_s ?_);intros)
  apply Zcf (Zdv [(1,.v (.int .i64 a.num.sign)),(3,.v (.int .i64 b.num.sign))]) [] [] zk zr zk;(focus (simp only [ZCu,ZC6,Nat.reduceAdd];rfl))
  (refine wkax w_t (w_4 sa sb pa pb) w_t w_t w_t w_t w_t (w_r 0) (w_s ?_);intros)
  apply Zcf (Zdv [(2,intA false b.den),(3,intZ y1),(6,intA false a.den),(7,intZ y2),(8,.v (.int .i64 (cmpZ y1 y2)))]) [] [] zk zr zk;(focus (simp only [ZCu,ZC6,Nat.reduceAdd];rfl))
  (refine wkax w_t (w_5 cw1 cm1 cw2 cm2 cc) w_t w_t w_t w_t w_t (w_r 0) (w_s ?_);intros)
  simp (disch:=omega) only [go_sem]
 ·have hc:cmpZ y1 y2=1:=by
   unfold cmpZ;rw [ZCg zo,ZCh zo]
  rw [hc];clear ga gb sA sB;refine pI func177 rfl ntmps177 results177 call177 ?_
  (refine wkad w_t (w_2 sa sb) (w_1 (w_d 1 [(1,.v (.int .i64 a.num.sign)),(3,.v (.int .i64 b.num.sign))] [] [])) (w_s ?_);intros)
  simp (disch:=omega) only [go_sem]
theorem Zhu {z:Int} (h:z < 0):intZ z=intA true z.natAbs:=by unfold intZ;rw [ZCp h]
theorem Zgk {z:Int} (h:¬z < 0):intZ z=intA false z.natAbs:=by unfold intZ;rw [ZCq h]
theorem zOf' (s:Bool) (n:Nat) (hn:(toL n).length≤100000000):Pure prog 173 [.v (.bool s),lim (toL n)] (intZ (zI s n)):=by
 rw [Zfr];have hp:=@Zbc n;cases s
 ·refine pI func173 rfl ntmps173 results173 call173 ?_
  (refine wkvp w_t (w_1 (rNorm n hn)) (w_s ?_);intros)
  simp (disch:=omega) only [go_sem,ZDi]
 ·by_cases h:0 < n
  ·have h2:=hp.2 h;refine pI func173 rfl ntmps173 results173 call173 ?_
   (refine wkvp w_t (w_1 (rNorm n hn)) (w_s ?_);intros)
   simp (disch:=omega) only [go_sem,ZCp h]
  ·have h2:¬0 < (toL n).length:=λh3=>h (hp.1 h3);refine pI func173 rfl ntmps173 results173 call173 ?_
   (refine wkvp w_t (w_1 (rNorm n hn)) (w_s ?_);intros)
   simp (disch:=omega) only [go_sem,ZCq h]
theorem zNorm (s:Bool) (n:Nat) (hn:(toL n).length≤100000000):Pure prog 198 [intA s n] (intZ (zI s n)):=by
 refine pI func198 rfl ntmps198 results198 call198 ?_
 (refine wkvp w_t (w_1 (zOf' s n hn)) (w_s ?_);intros)
 simp (disch:=omega) only [go_sem]
theorem Zw4 (z:Int) (hz:(toL z.natAbs).length≤100000000):Pure prog 198 [intZ z] (intZ z):=by
 have:=zNorm (decide (z < 0)) z.natAbs hz
 rwa [Zb3] at this
theorem zOf (n:Nat) (hn:n < 9223372036854775808):Pure prog 108 [.v (.int .i64 (n:Int))] (intA false n):=by
 have l4:(toL n).length≤4:=Zaf.2 zo;have hm:=zOf' false n zo;rw [Zfr,ZDi] at hm;refine pI func108 rfl ntmps108 results108 call108 ?_
 (refine wkvp w_t (w_2 (Zkb n zo) hm) (w_s ?_);intros)
 simp (disch:=omega) only [go_sem]
theorem zNeg (s:Bool) (n:Nat) (hn:(toL n).length≤100000000):Pure prog 172 [intA s n] (intZ (-zI s n)):=by
 have e:-zI s n=zI (!s) n:=by cases s<;>simp [zI]
 rw [e];refine pI func172 rfl ntmps172 results172 call172 ?_
 (refine wkvp w_t (w_1 (zOf' (!s) n hn)) (w_s ?_);intros)
 simp (disch:=omega) only [go_sem]
theorem zSign (z:Int) (hz:(toL z.natAbs).length≤100000000):Pure prog 165 [intZ z] (.v (.int .i64 z.sign)):=by
 have cn:=Zw4 z hz;have hp:=@Zbc z.natAbs;rcases ZGi z 0 with h | h | h
 ·rw [ZGh h];have h2:=hp.2 zo;rw [Zhu h] at cn ⊢;refine pI func165 rfl ntmps165 results165 call165 ?_
  (refine wkvp w_t (w_1 cn) (w_s ?_);intros)
  simp (disch:=omega) only [go_sem]
 ·have h2:¬0 < (toL z.natAbs).length:=λh3=>by have:=hp.1 h3;omega
  have hs:z.sign=0:=by rw [h];rfl
  rw [hs];rw [Zgk zo] at cn ⊢;refine pI func165 rfl ntmps165 results165 call165 ?_
  (refine wkvp w_t (w_1 cn) (w_s ?_);intros)
  simp (disch:=omega) only [go_sem]
 ·rw [ZH0 h];have h2:=hp.2 zo;rw [Zgk zo] at cn ⊢;refine pI func165 rfl ntmps165 results165 call165 ?_
  (refine wkvp w_t (w_1 cn) (w_s ?_);intros)
  simp (disch:=omega) only [go_sem]
theorem zCmp (z w:Int) (hz:(toL z.natAbs).length≤100000000) (hw:(toL w.natAbs).length≤100000000):Pure prog 201 [intZ z,intZ w] (.v (.int .i64 (cmpZ z w))):=by
 have c1:=Zw4 z hz;have c2:=Zw4 w hw;have ca:=rCmp z.natAbs w.natAbs hz hw;have cb:=rCmp w.natAbs z.natAbs hw hz;by_cases h1:z < 0
 ·by_cases h2:w < 0
  ·have hc:cmpZ z w=cmpN w.natAbs z.natAbs:=by
    unfold cmpZ cmpN;have e1:(z < w)↔(w.natAbs < z.natAbs):=zo;have e2:(w < z)↔(z.natAbs < w.natAbs):=zo;simp only [e1,e2]
   rw [hc];rw [Zhu h1] at c1 ⊢;rw [Zhu h2] at c2 ⊢;refine pI func201 rfl ntmps201 results201 call201 ?_
   (refine wkad w_t (w_3 c1 c2 cb) (w_1 (w_d 1 [(1,.agg [.v (.bool true),lim (toL z.natAbs)]),(3,.agg [.v (.bool true),lim (toL w.natAbs)])] [4,5] [])) (w_s ?_);intros)
   simp (disch:=omega) only [go_sem]
  ·have hc:cmpZ z w=-1:=ZCh zo;rw [hc];rw [Zhu h1] at c1 ⊢;rw [Zgk h2] at c2 ⊢;refine pI func201 rfl ntmps201 results201 call201 ?_
   (refine wkad w_t (w_2 c1 c2) (w_1 (w_d 1 [(1,.agg [.v (.bool true),lim (toL z.natAbs)]),(3,.agg [.v (.bool false),lim (toL w.natAbs)])] [4,5] [])) (w_s ?_);intros)
   simp (disch:=omega) only [go_sem]
 ·by_cases h2:w < 0
  ·have hc:cmpZ z w=1:=by unfold cmpZ;rw [ZCg zo,ZCh zo]
   rw [hc];rw [Zgk h1] at c1 ⊢;rw [Zhu h2] at c2 ⊢;refine pI func201 rfl ntmps201 results201 call201 ?_
   (refine wkad w_t (w_2 c1 c2) (w_1 (w_d 1 [(1,.agg [.v (.bool false),lim (toL z.natAbs)]),(3,.agg [.v (.bool true),lim (toL w.natAbs)])] [4,5] [])) (w_s ?_);intros)
   simp (disch:=omega) only [go_sem]
  ·have hc:cmpZ z w=cmpN z.natAbs w.natAbs:=by
    unfold cmpZ cmpN;have e1:(z < w)↔(z.natAbs < w.natAbs):=zo;have e2:(w < z)↔(w.natAbs < z.natAbs):=zo;simp only [e1,e2]
   rw [hc];rw [Zgk h1] at c1 ⊢;rw [Zgk h2] at c2 ⊢;refine pI func201 rfl ntmps201 results201 call201 ?_
   (refine wkad w_t (w_3 c1 c2 ca) (w_1 (w_d 1 [(1,.agg [.v (.bool false),lim (toL z.natAbs)]),(3,.agg [.v (.bool false),lim (toL w.natAbs)])] [4,5] [])) (w_s ?_);intros)
   simp (disch:=omega) only [go_sem]
theorem zMul (s t:Bool) (n m:Nat) (hn:(toL n).length≤40000000) (hm:(toL m).length≤40000000):Pure prog 133 [intA s n,intA t m] (intZ (zI s n*zI t m)):=by
 have e:zI s n*zI t m=zI (s != t) (n*m):=by cases s<;>cases t<;>simp [zI,Int.mul_neg,Int.neg_mul]
 have lm:=Zf2 n m;have hne:(!(s == t))=(s != t):=rfl;rw [e];refine pI func133 rfl ntmps133 results133 call133 ?_
 (refine wkad (w_1 hne) (w_2 (rMul n m zo zo) (zOf' (s != t) (n*m) zo)) (w_1 (w_d 1 [(9,lim (toL (n*m))),(10,intZ (zI (s != t) (n*m)))] [11] [])) (w_s ?_);intros)
 simp (disch:=omega) only [go_sem]
theorem zAdd (s t:Bool) (n m:Nat) (hn:(toL n).length≤40000000) (hm:(toL m).length≤40000000):Pure prog 234 [intA s n,intA t m] (intZ (zI s n+zI t m)):=by
 by_cases hst:s=t
 ·subst hst;have e:zI s n+zI s m=zI s (n+m):=by cases s<;>simp [zI]<;>omega
  have la:=Zqe n m;rw [e];have hb:(s == s)=true:=by cases s<;>rfl
  refine pI func234 rfl ntmps234 results234 call234 ?_
  (refine wkad (w_1 hb) (w_2 (rAdd n m zo zo) (zOf' s (n+m) zo)) (w_1 (w_d 2 [(6,lim (toL (n+m))),(7,intZ (zI s (n+m)))] [8] [])) (w_s ?_);intros)
  simp (disch:=omega) only [go_sem]
 ·have hb:(s == t)=false:=by cases s<;>cases t<;>first|rfl|exact absurd rfl hst
  have ht:t=!s:=by cases s<;>cases t<;>first|rfl|exact absurd rfl hst
  have c1:=rSub n m zo zo;have c2:=rSub m n zo zo;by_cases hlt:n < m
  ·have e:zI s n+zI t m=zI t (m - n):=by rw [ht];cases s<;>simp [zI]<;>omega
   have ls:(toL (m - n)).length≤100000000:=ZCk (Zc5 (Nat.sub_le _ _)) zo;rw [ZCh hlt,ZCh hlt] at c1;rw [ZCg zo,ZCg zo] at c2;rw [e];refine pI func234 rfl ntmps234 results234 call234 ?_
   (refine wkad (w_1 hb) (w_3 c1 c2 (zOf' t (m - n) ls)) w_t (w_s ?_);intros)
   simp (disch:=omega) only [go_sem]
  ·have e:zI s n+zI t m=zI s (n - m):=by rw [ht];cases s<;>simp [zI]<;>omega
   have ls:(toL (n - m)).length≤100000000:=ZCk (Zc5 (Nat.sub_le _ _)) zo;rw [ZCg hlt,ZCg hlt] at c1;rw [e];refine pI func234 rfl ntmps234 results234 call234 ?_
   (refine wkad (w_1 hb) (w_2 c1 (zOf' s (n - m) ls)) w_t (w_s ?_);intros)
   simp (disch:=omega) only [go_sem]
theorem gcd_le_l (n m:Nat) (h:m≠0):Nat.gcd n m≠0:=Nat.ne_of_gt (ZIa _ (ZEe h))
theorem intZ_div (s:Bool) (n g:Nat) (hg:g ∣ n) (h0:g≠0):intZ (zI s (n/g))=.agg [.v (.bool (decide (zI s n < 0))),lim (toL (n/g))]:=by
 rw [Zfr,zI_lt]
 have:(0 < n/g)↔(0 < n):=by
  obtain⟨k,rfl⟩:=hg;rw [Nat.mul_div_cancel_left _ (ZEe h0)];constructor
  ·intro h;exact Nat.mul_pos (ZEe h0) h
  ·intro h;exact ZEe λe=>by rw [e] at h;simp at h
 simp only [this]
theorem Zrt (s:Bool) (n m:Nat) (hn:(toL n).length≤10000000) (hm:(toL m).length≤10000000) (h0:m≠0):Pure prog 130 [intA s n,lim (toL m)] (ratQ (mkRat (zI s n) m)):=by
 rw [Zrs _ _ h0,Zd6];have g0:=gcd_le_l n m h0;have hgd:=Nat.gcd_dvd_left n m;have hmp:=Zbc.2 (ZEe h0);have hg:(toL (Nat.gcd n m)).length≤10000000:=ZCk (Zc5 (Nat.le_of_dvd zo (Nat.gcd_dvd_right _ _))) hm;have hq:(toL (n/Nat.gcd n m)).length≤10000000:=ZCk (Zc5 (ZGp _ _)) hn;have cg:=rGcd n m zo zo;have c1:=Zy2 n (Nat.gcd n m) zo zo g0;have c2:=Zy2 m (Nat.gcd n m) zo zo g0;have cn:=zNorm s (n/Nat.gcd n m) zo;rw [intZ_div s n _ hgd g0] at cn;refine pI func130 rfl ntmps130 results130 call130 ?_
 (refine wkvp w_t (w_5 (rNorm m zo) cg c1 c2 cn) (w_s ?_);intros)
 simp (disch:=omega) only [go_sem]
theorem Zy4 (q:Rat) {k:Nat} (h:Sz q k) (hk:k≤10000000):Pure prog 166 [ratQ q] (ratQ q):=by
 have c:=Zrt (decide (q.num < 0)) q.num.natAbs q.den (ZCk h.1 hk) (ZCk h.2 hk) q.den_nz;rw [Zb3,ZGj] at c;refine pI func166 rfl ntmps166 results166 call166 ?_
 (refine wkvp w_t (w_1 c) (w_s ?_);intros)
 simp (disch:=omega) only [go_sem]
theorem Zty (n:Nat):Pure prog 202 [lim (toL n)] (intA false n):=by
 refine pI func202 rfl ntmps202 results202 call202 ?_
 (refine wkvp w_t w_t (w_s ?_);intros)
 simp (disch:=omega) only [go_sem]
theorem qMake (z w:Int) (hz:(toL z.natAbs).length≤10000000) (hw:(toL w.natAbs).length≤10000000) (h0:w≠0):Pure prog 107 [intZ z,intZ w] (.tup [ratQ (Rat.divInt z w),.v (.int .i64 0)]):=by
 have cs:=zSign w zo;have hs:w.sign≠0:=λh=>h0 (Int.sign_eq_zero_iff_zero.1 h);rcases (by omega:w < 0∨0 < w) with h | h
 ·have e:Rat.divInt z w=mkRat (-z) w.natAbs:=by
   have hw1:w=-((w.natAbs:Nat):Int):=zo;rw [show Rat.divInt z w=Rat.divInt z (-((w.natAbs:Nat):Int)) by rw [←hw1],Rat.divInt_neg',ZHo]
  have cn:=zNeg (decide (z < 0)) z.natAbs zo;have c:=Zrt (decide (-z < 0)) (-z).natAbs w.natAbs (by rw [ZHn];omega) hw zo;rw [Zb3] at c cn;rw [←e] at c;generalize -z=y at *;generalize Rat.divInt z w=q at *;rw [Zhu h] at cs ⊢;refine pI func107 rfl ntmps107 results107 call107 ?_
  (refine wkvp w_t (w_3 cs cn c) (w_s ?_);intros)
  simp (disch:=omega) only [go_sem]
 ·have e:Rat.divInt z w=mkRat z w.natAbs:=by
   have hw1:w=((w.natAbs:Nat):Int):=zo;rw [show Rat.divInt z w=Rat.divInt z ((w.natAbs:Nat):Int) by rw [←hw1],ZHo]
  have c:=Zrt (decide (z < 0)) z.natAbs w.natAbs hz hw zo;rw [Zb3,←e] at c;generalize Rat.divInt z w=q at *;rw [Zgk (by omega:¬w < 0)] at cs ⊢;refine pI func107 rfl ntmps107 results107 call107 ?_
  (refine wkvp w_t (w_2 cs c) (w_s ?_);intros)
  simp (disch:=omega) only [go_sem]
theorem qOf (n:Nat) (hn:n < 9223372036854775808):Pure prog 65 [.v (.int .i64 (n:Int))] (ratQ (n:Rat)):=by
 have l4:(toL n).length≤4:=Zaf.2 zo;have c:=Zrt false n 1 zo (by rw [Zc8];omega) zo
 have e:mkRat (zI false n) 1=(n:Rat):=by
  have:=ZGj (n:Rat);exact this
 rw [e] at c;refine pI func65 rfl ntmps65 results65 call65 ?_
 (refine wkvp w_t (w_3 (zOf n hn) (Zkb 1 zo) c) (w_s ?_);intros)
 simp (disch:=omega) only [go_sem]
theorem qMul (a b:Rat) {j k:Nat} (ha:Sz a j) (hb:Sz b k) (hj:j≤2000000) (hk:k≤2000000):Pure prog 69 [ratQ a,ratQ b] (ratQ (a*b)):=by
 obtain⟨a1,a2⟩:=id ha;obtain⟨b1,b2⟩:=id hb;have l1:(toL (a.num*b.num).natAbs).length≤j+k:=by rw [ZFc];exact ZCk (Zf2 _ _) zo
 have l2:(toL (a.den*b.den)).length≤j+k:=ZCk (Zf2 _ _) zo;have c:=Zrt (decide (a.num*b.num < 0)) (a.num*b.num).natAbs (a.den*b.den) zo zo (ZE8 a.den_nz b.den_nz);rw [Zb3,←Rat.mul_def'] at c;have cz:=zMul (decide (a.num < 0)) (decide (b.num < 0)) a.num.natAbs b.num.natAbs zo zo;rw [Zb3,Zb3] at cz;have cd:=rMul a.den b.den zo zo;generalize a*b=q at *;generalize a.num*b.num=y at *;refine pI func69 rfl ntmps69 results69 call69 ?_
 (refine wkad w_t (w_3 cz cd c) (w_1 (w_d 1 [(4,intZ y),(9,lim (toL (a.den*b.den))),(10,ratQ q)] [11] [])) (w_s ?_);intros)
 simp (disch:=omega) only [go_sem]
theorem qAdd (a b:Rat) {j k:Nat} (ha:Sz a j) (hb:Sz b k) (hj:j≤2000000) (hk:k≤2000000):Pure prog 199 [ratQ a,ratQ b] (ratQ (a+b)):=by
 obtain⟨a1,a2⟩:=id ha;obtain⟨b1,b2⟩:=id hb;have na:=Zy4 a ha zo;have nb:=Zy4 b hb zo;have cm1:=zMul (decide (a.num < 0)) false a.num.natAbs b.den zo zo;have cm2:=zMul (decide (b.num < 0)) false b.num.natAbs a.den zo zo;rw [Zb3] at cm1 cm2;have cm1:Pure prog 133 [intZ a.num,intA false b.den] (intZ (a.num*b.den)):=cm1;have cm2:Pure prog 133 [intZ b.num,intA false a.den] (intZ (b.num*a.den)):=cm2;have x1:(toL (a.num*b.den).natAbs).length≤j+k:=Zfj a b ha hb;have x2:(toL (b.num*a.den).natAbs).length≤k+j:=Zfj b a hb ha
 have l1:(toL (a.num*b.den+b.num*a.den).natAbs).length≤j+k+1:=by
  have h3:=Zc5 (Zeq (a.num*b.den) (b.num*a.den));have h4:=Zqe (a.num*b.den).natAbs (b.num*a.den).natAbs;omega
 have l2:(toL (a.den*b.den)).length≤j+k:=ZCk (Zf2 _ _) zo;have ca:=zAdd (decide (a.num*b.den < 0)) (decide (b.num*a.den < 0)) (a.num*b.den).natAbs (b.num*a.den).natAbs zo zo;rw [Zb3,Zb3] at ca;have c:=Zrt (decide (a.num*b.den+b.num*a.den < 0)) (a.num*b.den+b.num*a.den).natAbs (a.den*b.den) zo zo (ZE8 a.den_nz b.den_nz);rw [Zb3,←Rat.add_def'] at c;have cw1:=Zty b.den;have cw2:=Zty a.den;have cd:=rMul a.den b.den zo zo;generalize a+b=q at *;generalize a.num*(b.den:Int)=y1 at *;generalize b.num*(a.den:Int)=y2 at *;refine pI func199 rfl ntmps199 results199 call199 ?_
 (refine wkvp w_t w_t (w_s ?_);intros)
 apply Zcf (Zdv [(1,ratQ a),(3,ratQ b)]) [4,5] [] zk zr zk;(focus (simp only [ZCu,ZC6,Nat.reduceAdd];rfl))
 (refine wkax w_t (w_2 na nb) w_t w_t w_t w_t w_t (w_r 0) (w_s ?_);intros)
 apply Zcf (Zdv [(4,intA false b.den),(5,intZ y1),(10,intA false a.den),(11,intZ y2),(12,intZ (y1+y2)),(17,lim (toL (a.den*b.den))),(18,ratQ q)]) [19] [] zk zr zk;(focus (simp only [ZCu,ZC6,Nat.reduceAdd];rfl))
 (refine wkax w_t (w_7 cw1 cm1 cw2 cm2 ca cd c) w_t w_t w_t w_t w_t (w_r 0) (w_s ?_);intros)
 simp (disch:=omega) only [go_sem]
theorem qCmp (a b:Rat) {j k:Nat} (ha:Sz a j) (hb:Sz b k) (hj:j≤2000000) (hk:k≤2000000):Pure prog 135 [ratQ a,ratQ b] (.v (.int .i64 (cmpQ a b))):=by
 obtain⟨a1,a2⟩:=id ha;obtain⟨b1,b2⟩:=id hb;have na:=Zy4 a ha zo;have nb:=Zy4 b hb zo;have cm1:=zMul (decide (a.num < 0)) false a.num.natAbs b.den zo zo;have cm2:=zMul (decide (b.num < 0)) false b.num.natAbs a.den zo zo;rw [Zb3] at cm1 cm2;have cm1:Pure prog 133 [intZ a.num,intA false b.den] (intZ (a.num*b.den)):=cm1;have cm2:Pure prog 133 [intZ b.num,intA false a.den] (intZ (b.num*a.den)):=cm2;have x1:(toL (a.num*b.den).natAbs).length≤j+k:=Zfj a b ha hb;have x2:(toL (b.num*a.den).natAbs).length≤k+j:=Zfj b a hb ha;have cc:=zCmp (a.num*b.den) (b.num*a.den) zo zo;rw [cmpQ_z]
 have cw1:=Zty b.den;have cw2:=Zty a.den;generalize a.num*(b.den:Int)=y1 at *;generalize b.num*(a.den:Int)=y2 at *;refine pI func135 rfl ntmps135 results135 call135 ?_
 (refine wkvp w_t w_t (w_s ?_);intros)
 apply Zcf (Zdv [(1,ratQ a),(3,ratQ b)]) [4,5] [] zk zr zk;(focus (simp only [ZCu,ZC6,Nat.reduceAdd];rfl))
 (refine wkax w_t (w_2 na nb) w_t w_t w_t w_t w_t (w_r 0) (w_s ?_);intros)
 apply Zcf (Zdv [(4,intA false b.den),(5,intZ y1),(10,intA false a.den),(11,intZ y2),(12,.v (.int .i64 (cmpZ y1 y2)))]) [] [] zk zr zk;(focus (simp only [ZCu,ZC6,Nat.reduceAdd];rfl))
 (refine wkax w_t (w_5 cw1 cm1 cw2 cm2 cc) w_t w_t w_t w_t w_t (w_r 0) (w_s ?_);intros)
 simp (disch:=omega) only [go_sem]
theorem qFrac (n m:Nat) (hn:n < 9223372036854775808) (hm:m < 9223372036854775808) (h0:m≠0):Pure prog 49 [.v (.int .i64 (n:Int)),.v (.int .i64 (m:Int))] (ratQ (mkRat n m)):=by
 have l4:(toL n).length≤4:=Zaf.2 zo;have m4:(toL m).length≤4:=Zaf.2 zo;have c:=qMake (n:Int) (m:Int) (by rw [ZFd];omega) (by rw [ZFd];omega) zo;rw [ZHo] at c
 have e1:intZ (n:Int)=intA false n:=by
  have:=Zfr false n
  rwa [ZDi] at this
 have e2:intZ (m:Int)=intA false m:=by
  have:=Zfr false m
  rwa [ZDi] at this
 rw [e1,e2] at c;generalize mkRat (n:Int) m=q at *;refine pI func49 rfl ntmps49 results49 call49 ?_
 (refine wkvp w_t (w_3 (zOf n hn) (zOf m hm) c) (w_s ?_);intros)
 simp (disch:=omega) only [go_sem]
theorem ratFrac (n m:Nat) (hn:n < 9223372036854775808) (hm:m < 9223372036854775808) (h0:m≠0):Pure prog 136 [.v (.int .i64 (n:Int)),.v (.int .i64 (m:Int))] (ratQ (mkRat n m)):=by
 have l4:(toL n).length≤4:=Zaf.2 zo;have m4:(toL m).length≤4:=Zaf.2 zo;have c:=ratMake (n:Int) (m:Int) (by rw [ZFd];omega) (by rw [ZFd];omega) zo;rw [ZHo] at c
 have e1:intZ (n:Int)=intA false n:=by
  have:=Zfr false n
  rwa [ZDi] at this
 have e2:intZ (m:Int)=intA false m:=by
  have:=Zfr false m
  rwa [ZDi] at this
 rw [e1,e2] at c;generalize mkRat (n:Int) m=q at *;refine pI func136 rfl ntmps136 results136 call136 ?_
 (refine wkvp w_t (w_3 (intOf n hn) (intOf m hm) c) (w_s ?_);intros)
 simp (disch:=omega) only [go_sem]
attribute [go_sem] underlying2 underlying95 szU8 byU8 zU8 zStr
attribute [local go_sem] Zbg
def decB:Nat→Nat→ByteArray→ByteArray
 | 0,_,s=>s
 | f+1,n,s=>if n=0 then s else decB f (n/10) (Zgu [((48+n%10:Nat):Int)]++s)
def decS (n:Nat):ByteArray:=if n=0 then Zgu [48] else decB n n ByteArray.empty
theorem Zqv:∀(f g n:Nat) (s:ByteArray),n≤f→n≤g→decB f n s=decB g n s
 | 0,0,_,_,_,_=>rfl
 | 0,g+1,n,s,h,_=>by
   have:n=0:=zo;subst this;rfl
 | f+1,0,n,s,_,h=>by
   have:n=0:=zo;subst this;rfl
 | f+1,g+1,n,s,h1,h2=>by
   unfold decB;by_cases h:n=0
   ·rw [ZCh h,ZCh h]
   ·rw [ZCg h,ZCg h];exact Zqv f g _ _ zo zo
theorem ZBj {n:Nat} {s:ByteArray} (h:n≠0):decB n n s=decB (n/10) (n/10) (Zgu [((48+n%10:Nat):Int)]++s):=by
 obtain⟨m,rfl⟩:∃m,n=m+1:=⟨n - 1,zo⟩;rw [decB,ZCg h];exact Zqv _ _ _ _ zo zo
theorem Zet (l:List Int):(Zgu l).size=l.length:=by
 have key:∀(l:List Int) (s:ByteArray),(l.foldl (λr n=>r.push (UInt8.ofNat n.toNat)) s).size=s.size+l.length:=by
  intro l
  induction l with
  | nil=>intro s;rfl
  | cons a l ih=>intro s;rw [ZHd,ih,ByteArray.size_push,ZCu];omega
 unfold Zgu;rw [key];show 0+l.length=l.length;omega
def decZ (z:Int):ByteArray:=if z < 0 then Zgu [45]++decS z.natAbs else decS z.natAbs
def decQ (q:Rat):ByteArray:=if q.den=1 then decZ q.num else decZ q.num++Zgu [47]++decS q.den
theorem ZBk {k:Nat}:∀(f n:Nat) (s:ByteArray),n < 10 ^ k→(decB f n s).size≤s.size+k:=by
 induction k with
 | zero =>
   intro f n s h;have:n=0:=by simpa using h
   subst this;cases f<;>simp [decB]
 | succ k ih =>
   intro f n s h
   cases f with
   | zero=>simp [decB]
   | succ f =>
     unfold decB;split
     ·omega
     ·have:=ih f (n/10) (Zgu [((48+n%10:Nat):Int)]++s) (by rw [ZDk] at h;omega);rw [ZEt,Zet] at this;simp only [ZCu,ZC6] at this;omega
theorem Zf8 (n:Nat):(decS n).size≤5*(toL n).length+1:=by
 unfold decS;split
 ·rw [Zet];simp
 ·have h1:=Zaf.1 (ZCi ((toL n).length))
  have h3:65536 ^ (toL n).length≤10 ^ (5*(toL n).length):=by
   rw [Nat.pow_mul];exact ZIc zd _
  have:=ZBk (k:=5*(toL n).length) n n ByteArray.empty zo;have e:ByteArray.empty.size=0:=rfl;omega
theorem Zqt (z:Int):(decZ z).size≤5*(toL z.natAbs).length+2:=by
 have:=Zf8 z.natAbs;unfold decZ;split
 ·rw [ZEt,Zet];simp only [ZCu,ZC6];omega
 ·omega
attribute [go_sem] underlying45
attribute [local go_sem] Zah Zap Zxo Zca Zcg Zai Bool.and_self
def dig36:ByteArray:=⟨#[48,49,50,51,52,53,54,55,56,57,97,98,99,100,101,102,103,104,105,106,107,108,109,110,111,112,113,114,115,116,117,118,119,120,121,122]⟩
def dig200:ByteArray:=⟨#[48,48,48,49,48,50,48,51,48,52,48,53,48,54,48,55,48,56,48,57,49,48,49,49,49,50,49,51,49,52,49,53,49,54,49,55,49,56,49,57,50,48,50,49,50,50,50,51,50,52,50,53,50,54,50,55,50,56,50,57,51,48,51,49,51,50,51,51,51,52,51,53,51,54,51,55,51,56,51,57,52,48,52,49,52,50,52,51,52,52,52,53,52,54,52,55,52,56,52,57,53,48,53,49,53,50,53,51,53,52,53,53,53,54,53,55,53,56,53,57,54,48,54,49,54,50,54,51,54,52,54,53,54,54,54,55,54,56,54,57,55,48,55,49,55,50,55,51,55,52,55,53,55,54,55,55,55,56,55,57,56,48,56,49,56,50,56,51,56,52,56,53,56,54,56,55,56,56,56,57,57,48,57,49,57,50,57,51,57,52,57,53,57,54,57,55,57,56,57,57]⟩
theorem dig36_at:∀n,n < 10→dig36.extract n (n+1)=decS n:=by decide +kernel
theorem ZBh:∀n,n < 100→10≤n→dig200.extract (n*2) (n*2+2)=decS n:=by decide +kernel
theorem scSmall (n:Nat) (hn:n < 100):Pure prog 260 [iv (n:Int)] (.v (.string (decS n))):=by
 by_cases h:n < 10
 ·refine pI func260 rfl ntmps260 results260 call260 ?_
  (refine wkvp w_t w_t (w_s ?_);intros)
  simp (disch:=omega) only [go_sem];exact ZD2 (λs=>AV.v (.string s)) (dig36_at n h)
 ·have e1:(n:Int)*2=((n*2:Nat):Int):=zo;have e2:((n*2:Nat):Int)+2=((n*2+2:Nat):Int):=zo;refine pI func260 rfl ntmps260 results260 call260 ?_
  (repeat' (first|(with_reducible first|refine stp ?_|apply gx1|apply gx2|apply gx3|apply gx4|apply gx5|apply gx6|apply gx7)|(with_reducible refine Zcn ?_;intro _)|((with_reducible refine gE ?_);(try simp (disch:=omega) only [go_sem,e1,e2,List.append_eq,ZDa])<;>first|rfl|omega)|with_reducible refine Zam zd ?_))
  simp (disch:=omega) only [go_sem];exact ZD2 (λs=>AV.v (.string s)) (ZBh n hn zo)
theorem scFormat (n:Nat) (hn:n < 100):Pure prog 252 [.v (.int .i64 (n:Int)),iv 10] (.v (.string (decS n))):=by
 have c:=scSmall n hn;refine pI func252 rfl ntmps252 results252 call252 ?_
 (refine wkvp w_t (w_1 c) (w_s ?_);intros)
 simp (disch:=omega) only [go_sem]
theorem scItoaI (n:Nat) (hn:n < 100):Pure prog 225 [iv (n:Int)] (.v (.string (decS n))):=by
 have c:=scFormat n hn;refine pI func225 rfl ntmps225 results225 call225 ?_
 (refine wkvp w_t (w_1 c) (w_s ?_);intros)
 simp (disch:=omega) only [go_sem]
theorem scItoa (n:Nat) (hn:n < 100):Pure prog 179 [iv (n:Int)] (.v (.string (decS n))):=by
 have c:=scItoaI n hn;refine pI func179 rfl ntmps179 results179 call179 ?_
 (refine wkvp w_t (w_1 c) (w_s ?_);intros)
 simp (disch:=omega) only [go_sem]
def c1 (s:ByteArray) (ss:List ByteArray) (n:Int):ByteArray:=s++ss.getD n.toNat ByteArray.empty
def Qt.txt (q:Qt) (ss:List ByteArray):ByteArray :=
 if q.k=3 then ⟨#[116,40]⟩++decS q.a.toNat++⟨#[41]⟩
 else (if q.k=2 then ⟨#[80,40]⟩ else ⟨#[83,40]⟩)++ss.getD q.a.toNat ByteArray.empty++⟨#[44,32]⟩++ss.getD q.b.toNat ByteArray.empty++⟨#[44,32]⟩++ss.getD q.c.toNat ByteArray.empty++⟨#[41]⟩
theorem ZBp {k a b c n m:Int} (h:Qt.chk ⟨k,a,b,c⟩ n m=0):(k=3∧0≤a∧a < 64∧a < m)∨(k≠3∧(k=1∨k=2)∧(0≤a∧a < n)∧(0≤b∧b < n)∧(0≤c∧c < n)):=by
 unfold Qt.chk Qt.ok at h;simp only [ZDb] at h;split at h
 ·split at h
  ·split at h<;>omega
  ·split at h<;>omega
 ·omega
theorem Zra {ss:List ByteArray} {j:Nat} (h:j < ss.length):(ss.map strA).getD j .u=strA (ss.getD j ByteArray.empty):=by
 rw [ZCx,ZDn,ZCs h,ZCx,ZCs h];rfl
theorem Zgd {ss:List ByteArray} (h:∀s∈ss,s.size≤1000) (j:Nat):(ss.getD j ByteArray.empty).size≤1000:=by
 rw [ZCx];rcases ZC5 j ss.length with h1 | h1
 ·rw [ZCs h1];exact h _ (ZCt h1)
 ·rw [ZD6 h1];exact ZCr _
theorem quText (k a b c:Int) (ss:List ByteArray) (hl:ss.length≤1000000000) (hs:∀s∈ss,s.size≤1000):Pure prog 112 [Qt.av ⟨k,a,b,c⟩,.sl 1 (ss.map strA)] (if Qt.chk ⟨k,a,b,c⟩ ss.length 64=0 then .tup [strA (Qt.txt ⟨k,a,b,c⟩ ss),iv 0] else .tup [strA ⟨#[]⟩,iv (Qt.chk ⟨k,a,b,c⟩ ss.length 64)]):=by
 have cc:=quCheck k a b c ss.length 64;have ok:=@ZBp k a b c ss.length 64;generalize Qt.chk ⟨k,a,b,c⟩ ss.length 64=v at *;by_cases hv:v=0
 ·subst hv;rw [ZCh rfl];rcases ok rfl with⟨rfl,h1,h2,h3⟩ | ⟨h0,h1,h2,h3,h4⟩
  ·obtain⟨n,rfl⟩:∃n:Nat,a=n:=⟨a.toNat,zo⟩;have ci:=scItoa n zo;have z:=Zf8 n;have zl:(toL n).length≤1:=Zaf.2 zo;have e:Qt.txt ⟨3,n,b,c⟩ ss=⟨#[116,40]⟩++decS n++⟨#[41]⟩:=by unfold Qt.txt;rfl
   rw [e];generalize decS n=s at *;have s1:(⟨#[116,40]⟩:ByteArray).size=2:=rfl;have s2:(⟨#[41]⟩:ByteArray).size=1:=rfl;refine pI func112 rfl ntmps112 results112 call112 ?_;exact wkld (w_4 @ZEt s1 s2 @Zn7) (w_2 cc ci) w_t w_t w_z
  ·obtain⟨x,rfl⟩:∃n:Nat,a=n:=⟨a.toNat,zo⟩;obtain⟨y,rfl⟩:∃n:Nat,b=n:=⟨b.toNat,zo⟩;obtain⟨w,rfl⟩:∃n:Nat,c=n:=⟨c.toNat,zo⟩;have hx:=Zra (ss:=ss) (j:=x) zo;have hy:=Zra (ss:=ss) (j:=y) zo;have hw:=Zra (ss:=ss) (j:=w) zo;have zx:=Zgd hs x;have zy:=Zgd hs y;have zw:=Zgd hs w;unfold Qt.txt;simp only [ZE9];generalize ss.getD x ByteArray.empty=sx at *;generalize ss.getD y ByteArray.empty=sy at *;generalize ss.getD w ByteArray.empty=sw at *;have s1:(⟨#[83,40]⟩:ByteArray).size=2:=rfl;have s2:(⟨#[80,40]⟩:ByteArray).size=2:=rfl;have s3:(⟨#[44,32]⟩:ByteArray).size=2:=rfl
   have s4:(⟨#[41]⟩:ByteArray).size=1:=rfl;refine pI func112 rfl ntmps112 results112 call112 ?_;exact wkld (w_9 @ZEt s1 s2 s3 s4 @Zn7 hx hy hw) (w_1 cc) w_t w_t w_z
 ·rw [ZCg hv];refine pI func112 rfl ntmps112 results112 call112 ?_;exact wkld (w_1 @Zn7) (w_1 cc) w_t w_t w_z
def isP (a b c:Int) (p:Nat):Bool:=decide (a=(p:Int)∨b=(p:Int)∨c=(p:Int))
def Qt.pts (q:Qt):List Int:=if q.ok=true∧q.k≠3 then ((List.range 40).filter (isP q.a q.b q.c)).map λn:Nat=>(n:Int) else []
theorem Znm (k a b c:Int):Pure prog 32 [Qt.av ⟨k,a,b,c⟩] (ivs (Qt.pts ⟨k,a,b,c⟩)):=by
 have c1:=Zlb k a b c;have c2:=quOf k a b c;unfold Qt.pts;generalize Qt.ok ⟨k,a,b,c⟩=v at *;by_cases hv:v=true∧k≠3
 ·obtain⟨rfl,hk⟩:=hv;rw [ZCh ⟨rfl,hk⟩];refine pI func32 rfl ntmps32 results32 call32 ?_
  (refine wkap w_t (w_1 c1) (w_r 0) (w_s ?_);intros)
  refine Zdj (Frz.nilOwn (d:=3) 38 1 3 (gC)) ?_;refine Zad (ι:=Nat) (λi e m=>i≤40∧e 14=iv i∧(∃g,e 1=.pbox 1 g 0∧m 1=some (.box g 39 [iv k,iv a,iv b,iv c] false))∧∃sv,e 3=.own 38 sv∧m 38=some (.row sv 3 1 ((((List.range i).filter (isP a b c)).map λn:Nat=>(n:Int)).map iv) 0)) (λi=>40 - i) 0 zr ?_ ?_
  ·rintro i e m ⟨hi,e14,⟨g,e1,m1⟩,sv,e3,m38⟩
   by_cases h40:i < 40
   ·have hstep:(List.range (i+1)).filter (isP a b c)=(List.range i).filter (isP a b c)++(if a=i∨b=i∨c=i then [i] else []):=by
     rw [List.range_succ,ZFe];congr 1;by_cases h:a=i∨b=i∨c=i
     ·have hp:isP a b c i=true:=ZCp h;rw [ZCh h,ZFo,ZCh hp];rfl
     ·have hp:isP a b c i=false:=ZCq h;rw [ZCg h,ZFo,ZCg (by rw [hp];simp)];rfl
    have hlen:((List.range i).filter (isP a b c)).length≤40:=ZCk (ZG5 _ _) (by simp;omega);by_cases h:a=i∨b=i∨c=i
    ·rw [ZCh h] at hstep;generalize (List.range i).filter (isP a b c)=l at *;(focus (refine wkap (w_6 e14 e1 m1 e3 m38 @Zn7) (w_1 c2) (w_r 0) ?_;(repeat' first|exact w_t|apply w_l);all_goals intros));all_goals refine⟨i+1,⟨zo,gS,⟨_,gW e1,gW m1⟩,_,gW e3,?_⟩,zo⟩
     all_goals (rw [hstep,ZDd,ZDd];exact gC)
    ·rw [ZCg h,ZDo] at hstep;generalize (List.range i).filter (isP a b c)=l at *
     (refine wkap (w_6 e14 e1 m1 e3 m38 @Zn7) (w_1 c2) (w_r 0) (w_s ?_);intros)
     all_goals refine⟨i+1,⟨zo,gS,⟨_,gW e1,gW m1⟩,_,gW e3,?_⟩,zo⟩
     all_goals (rw [hstep];exact gW m38)
   ·have:i=40:=zo;subst this
    (refine wkap (w_6 e14 e1 m1 e3 m38 @Zn7) w_t (w_r 0) (w_s ?_);intros)
    simp (disch:=omega) only [go_sem,m38,ZCj]
  ·refine⟨zo,gC,⟨_,gC,gC⟩,_,gC,by(simp (disch:=omega) only [go_sem,List.range_zero,List.filter_nil]<;>repeat' first|rfl|refine⟨?_,?_⟩)⟩
 ·rw [ZCg hv];refine Zfg (r:=.v (.slice none 0 0)) ?_ (.nil 1);cases v
  ·refine pI func32 rfl ntmps32 results32 call32 ?_;exact wklp w_t (w_1 c1) w_t (w_r 0) w_z
  ·have hk:k=3:=by
    rcases Decidable.em (k=3) with h | h
    ·exact h
    ·exact(hv ⟨rfl,h⟩).elim
   subst hk;refine pI func32 rfl ntmps32 results32 call32 ?_;exact wklp w_t (w_1 c1) w_t (w_r 0) w_z
abbrev ptQ (x y:Rat):AV:=.agg [.v (.bool (decide (x.num < 0))),lim (toL x.num.natAbs),lim (toL x.den),.v (.bool (decide (y.num < 0))),lim (toL y.num.natAbs),lim (toL y.den)]
abbrev PQ:=Rat × Rat
abbrev PQ.av (p:PQ):AV:=ptQ p.1 p.2
def PQ.sz (p:PQ) (j:Nat):Prop:=Sz p.1 j∧Sz p.2 j
def Zfm (p q r s:PQ):Rat:=(q.1 - p.1)*(s.2 - r.2) - (q.2 - p.2)*(s.1 - r.1)
def dotP (p q r s:PQ):Rat:=(q.1 - p.1)*(s.1 - r.1)+(q.2 - p.2)*(s.2 - r.2)
theorem qEqual (a b:Rat) {j k:Nat} (ha:Sz a j) (hb:Sz b k) (hj:j≤1000000) (hk:k≤1000000):Pure prog 72 [ratQ a,ratQ b] (.v (.bool (decide (a=b)))):=by
 have c:=qCmp a b ha hb zo zo
 have e:(cmpQ a b == 0)=decide (a=b):=by
  rw [ZDg,ZEk,ZDb];unfold cmpQ;constructor
  ·intro h;split at h
   ·omega
   ·split at h
    ·omega
    ·rename_i h1 h2;exact Rat.le_antisymm (Rat.not_lt.1 h2) (Rat.not_lt.1 h1)
  ·rintro rfl
   simp
 rw [←e];generalize cmpQ a b=s at *;refine pI func72 rfl ntmps72 results72 call72 ?_
 (refine wkvp w_t (w_1 c) (w_s ?_);intros)
 simp (disch:=omega) only [go_sem]
def Qt.val (q:Qt) (ps:List PQ) (rs:List Rat):Rat :=
 if q.k=3 then rs.getD q.a.toNat 0
 else if q.k=1 then Zfm (ps.getD q.a.toNat (0,0)) (ps.getD q.b.toNat (0,0)) (ps.getD q.a.toNat (0,0)) (ps.getD q.c.toNat (0,0))
 else 2*dotP (ps.getD q.b.toNat (0,0)) (ps.getD q.a.toNat (0,0)) (ps.getD q.b.toNat (0,0)) (ps.getD q.c.toNat (0,0))
theorem chk_val {k a b c n m:Int} (h:Qt.chk ⟨k,a,b,c⟩ n m=0):(k=3∧0≤a∧a < 64∧a < m)∨(k≠3∧(k=1∨k=2)∧(0≤a∧a < n)∧(0≤b∧b < n)∧(0≤c∧c < n)):=ZBp h
abbrev zeroQ:AV:=.agg [.v (.bool false),.v (.slice none 0 0),.v (.slice none 0 0)]
theorem Zmw:∀(n x y z:Nat),x≤y→y≤z→(List.range n).filter (λp=>decide (x=p∨y=p∨z=p))=(if x < n then [x] else [])++(if x < y∧y < n then [y] else [])++(if y < z∧z < n then [z] else [])
 | 0,x,y,z,_,_=>by simp
 | n+1,x,y,z,h1,h2=>by
   rw [List.range_succ,ZFe,Zmw n x y z h1 h2,ZFo,List.filter_nil];by_cases hm:x=n∨y=n∨z=n
   ·rw [ZCh (ZCp hm)];by_cases hx:x=n
    ·subst hx;simp (disch:=omega) only [ZCh,ZCg,ZFu,ZDo]
    ·by_cases hy:y=n
     ·subst hy;simp (disch:=omega) only [ZCh,ZCg,ZFu,ZDo]
     ·have hz:z=n:=zo;subst hz;by_cases hxy:x < y
      ·simp (disch:=omega) only [ZCh,ZCg,ZFu,ZDo]
      ·simp (disch:=omega) only [ZCh,ZCg,ZFu,ZDo]
   ·have hd:decide (x=n∨y=n∨z=n)=false:=ZCq hm;have e:∀t,t≠n→(t < n+1↔t < n):=λt ht=>zo;simp only [hd,ZCy,ZDc,ZDo,e x zo,e y zo,e z zo]
theorem pts_of (a b c x y z:Nat) (h1:x≤y) (h2:y≤z) (h3:z < 40) (hp:∀p:Nat,(a=p∨b=p∨c=p)↔(x=p∨y=p∨z=p)) :
 (List.range 40).filter (isP a b c)=[x]++(if x < y then [y] else [])++(if y < z then [z] else []):=by
 have e:isP (a:Int) (b:Int) (c:Int)=λp=>decide (x=p∨y=p∨z=p):=by
  funext p
  unfold isP;rw [ZDg,ZDb,ZDb,←hp p];omega
 rw [e,Zmw 40 x y z h1 h2,ZCh zo];have e1:(x < y∧y < 40)↔x < y:=zo;have e2:(y < z∧z < 40)↔y < z:=zo;simp only [e1,e2]
theorem Zx8 (k a b c:Int) (hv:¬(Qt.ok ⟨k,a,b,c⟩=true∧k≠3)):Pure prog 118 [Qt.av ⟨k,a,b,c⟩] (.v (.slice none 0 0)):=by
 have c1:=Zk4 k a b c;generalize Qt.ok ⟨k,a,b,c⟩=v at *;cases v
 ·refine pI func118 rfl ntmps118 results118 call118 ?_;exact wkld w_t (w_1 c1) w_t w_t w_z
 ·have hk:k=3:=by
   rcases Decidable.em (k=3) with h | h
   ·exact h
   ·exact(hv ⟨rfl,h⟩).elim
  subst hk;refine pI func118 rfl ntmps118 results118 call118 ?_;exact wkld w_t (w_1 c1) w_t w_t w_z
theorem Zx7 (k:Int) (a b c x y z:Nat) (hk:k≠3) (hok:Qt.ok ⟨k,a,b,c⟩=true) (h1:x≤y) (h2:y≤z) (h3:z < 40) (hord:(a=x∧b=y∧c=z)∨(a=x∧b=z∧c=y)∨(a=y∧b=x∧c=z)∨(a=y∧b=z∧c=x)∨(a=z∧b=x∧c=y)∨(a=z∧b=y∧c=x)) :
 Pure prog 118 [Qt.av ⟨k,a,b,c⟩] (ivs (([x]++(if x < y then [y] else [])++(if y < z then [z] else [])).map λn:Nat=>(n:Int))):=by
 have c1:=Zk4 k a b c;rw [hok] at c1;have emn:(if (c:Int) < (if (b:Int) < (a:Int) then (b:Int) else a) then (c:Int) else (if (b:Int) < (a:Int) then (b:Int) else a))=(x:Int):=by split<;>split at*<;> omega
 have emx:max (max (a:Int) (b:Int)) (c:Int)=(z:Int):=zo;have ey:(a:Int)+b+c - x - z=y:=zo;clear hok;by_cases hxy:x < y
 ·by_cases hyz:y < z
  ·rw [ZCh hxy,ZCh hyz];refine pI func118 rfl ntmps118 results118 call118 ?_;exact wkld (w_3 emn emx ey) (w_1 c1) w_t w_t w_z;all_goals (simp only [ivs,ZDq,ZE3,AV.sl.injEq,List.cons.injEq,AV.v.injEq,Value.int.injEq,true_and,and_true];omega)
  ·rw [ZCh hxy,ZCg hyz];refine pI func118 rfl ntmps118 results118 call118 ?_
   (refine wkld (w_3 emn emx ey) (w_1 c1) w_t w_t (w_s ?_);intros)
   all_goals (simp only [ivs,ZDq,ZE3,AV.sl.injEq,List.cons.injEq,AV.v.injEq,Value.int.injEq,true_and,and_true];omega)
 ·by_cases hyz:y < z
  ·rw [ZCg hxy,ZCh hyz];refine pI func118 rfl ntmps118 results118 call118 ?_;exact wkld (w_3 emn emx ey) (w_1 c1) w_t w_t w_z;all_goals (simp only [ivs,ZDq,ZE3,AV.sl.injEq,List.cons.injEq,AV.v.injEq,Value.int.injEq,true_and,and_true];omega)
  ·rw [ZCg hxy,ZCg hyz];refine pI func118 rfl ntmps118 results118 call118 ?_
   (refine wkld (w_3 emn emx ey) (w_1 c1) w_t w_t (w_s ?_);intros)
   all_goals (simp only [ivs,ZDq,ZE3,AV.sl.injEq,List.cons.injEq,AV.v.injEq,Value.int.injEq,true_and,and_true];omega)
theorem rqPoints (k a b c:Int):Pure prog 118 [Qt.av ⟨k,a,b,c⟩] (ivs (Qt.pts ⟨k,a,b,c⟩)):=by
 unfold Qt.pts;by_cases hv:Qt.ok ⟨k,a,b,c⟩=true∧k≠3
 ·rw [ZCh hv];obtain⟨hok,hk⟩:=hv
  have hb:(0≤a∧a < 40)∧(0≤b∧b < 40)∧(0≤c∧c < 40):=by
   unfold Qt.ok at hok;simp only [ZDb] at hok;omega
  obtain⟨a,rfl⟩:∃n:Nat,a=n:=⟨a.toNat,zo⟩;obtain⟨b,rfl⟩:∃n:Nat,b=n:=⟨b.toNat,zo⟩;obtain⟨c,rfl⟩:∃n:Nat,c=n:=⟨c.toNat,zo⟩
  obtain⟨x,y,z,h1,h2,hord⟩:∃x y z:Nat,x≤y∧y≤z∧((a=x∧b=y∧c=z)∨(a=x∧b=z∧c=y)∨(a=y∧b=x∧c=z)∨(a=y∧b=z∧c=x)∨(a=z∧b=x∧c=y)∨(a=z∧b=y∧c=x)):=by
   by_cases h1:a≤b
   ·by_cases h2:b≤c
    ·exact⟨a,b,c,h1,h2,zo⟩
    ·by_cases h3:a≤c
     ·exact⟨a,c,b,h3,zo,zo⟩
     ·exact⟨c,a,b,zo,h1,zo⟩
   ·by_cases h2:a≤c
    ·exact⟨b,a,c,zo,h2,zo⟩
    ·by_cases h3:b≤c
     ·exact⟨b,c,a,h3,zo,zo⟩
     ·exact⟨c,b,a,zo,zo,zo⟩
  have h3:z < 40:=zo;rw [pts_of a b c x y z h1 h2 h3 (λp=>zo)];exact Zx7 k a b c x y z hk hok h1 h2 h3 hord
 ·rw [ZCg hv];exact Zfg (Zx8 k a b c hv) (.nil 1)
def shortB (ss:List ByteArray):Bool:=decide (ss.length≤60) && ss.all λs=>decide (s.size≤30)
section
attribute [local go_sem] underlying3 underlying2 underlying4 underlying33 underlying39 underlying69 underlying45 underlying9 underlying54 sz3 by3 z3 Zah Zap Zca zErr Zbg Zcg zStr Zai Bool.and_self Zaw zRat
end
attribute [local go_sem] beq_self_eq_true
section
variable {N n:Nat} {cs:List AV}
end
theorem Zal:Zh5 prog 39=some 32:=by kernel_rfl
theorem Za8:szOf prog 55=some 1:=by kernel_rfl
theorem zSlQ:Za0 prog 55=some (.slice none 0 0):=by kernel_rfl
theorem Zjw:szOf prog 95=some 1:=by kernel_rfl
theorem Zox:Za0 prog 95=some (.slice none 0 0):=by kernel_rfl
theorem szQT:szOf prog 57=some 4:=by kernel_rfl
theorem byQT:Zh5 prog 57=some 80:=by kernel_rfl
theorem zQT:Za0 prog 57=some (.agg #[.bool false,.slice none 0 0,.slice none 0 0,.slice none 0 0]):=by kernel_rfl
theorem Zba:szOf prog 26=some 1:=by kernel_rfl
theorem zSlT:Za0 prog 26=some (.slice none 0 0):=by kernel_rfl
theorem szQP:szOf prog 27=some 1:=by kernel_rfl
theorem zQP:Za0 prog 27=some (.slice none 0 0):=by kernel_rfl
theorem Zo5:szOf prog 167=some 2:=by kernel_rfl
theorem Zjx:szOf prog 123=some 1:=by kernel_rfl
theorem Zoy:Za0 prog 123=some (.pointer none):=by kernel_rfl
theorem Zo6:szOf prog 165=some 1:=by kernel_rfl
def expOk (x:Int):Bool:=!decide (x < 0) && !decide (1048576 < x)
def rightB (l:List Int):Bool:=decide (l.length≤64) && !(l.getLast?.getD 1 == 0) && l.all expOk
def Sm (l:List Int):Prop:=l.length≤1000∧∀j,0≤gI l j∧gI l j≤16777216
def sumT (l:List Int):Nat→Int
 | 0=>0
 | k+1=>sumT l k+gI l k
def expI (l:List Int) (v:Int):Int:=if v < 0 then 0 else gI l v.toNat
theorem toNat_lt {l:List Int} {v:Int} (h0:0≤v) (h:v < l.length):v.toNat < l.length:=zo
def sgn (n:Int):Int:=if n < 0 then -1 else if 0 < n then 1 else 0
def trimN (l:List Int):Nat→Nat
 | 0=>0
 | n+1=>if gI l n=0 then trimN l n else n+1
def trimI (l:List Int):List Int:=l.take (trimN l l.length)
def zipI (F:Int→Int→Int) (a b:List Int):List Int:=(List.range (max a.length b.length)).map λi=>F (gI a i) (gI b i)
def upto (n k:Nat) (F:Nat→Int):List AV:=(List.range n).map λi=>AV.v (.int .i64 (if i < k then F i else 0))
def Wd (l:List Int):Prop:=l.length≤1000∧∀j,-4503599627370496≤gI l j∧gI l j≤4503599627370496
theorem Sm.wd {l:List Int} (h:Sm l):Wd l:=⟨h.1,λj=>by have:=h.2 j;omega⟩
def divI (a b:List Int):Bool:=(List.range a.length).all λi=>decide (gI a i≤gI b i)
def copI (a b:List Int):Bool:=(List.range a.length).all λi=>decide (gI a i=0∨gI b i=0)
def outL (F:Nat→Int) (k:Nat):List AV:=(List.range k).map λi=>AV.v (.int .i64 (F i))
def quoI (a b:List Int):List Int:=if divI b a=true then trimI (zipI (· - ·) a b) else []
def quoR (a b:List Int):List Int:=if divI b a=true then trimI ((List.range a.length).map λi=>gI a i - gI b i) else []
def normI (l:List Int):List Int:=if rightB (trimI l)=true then trimI l else []
def lt1 (x y:Int):Int:=if x < y then -1 else 1
def lexC (a b:List Int):Nat→Int
 | 0=>0
 | n+1=>if gI a n=gI b n then lexC a b n else lt1 (gI a n) (gI b n)
def cmpI (a b:List Int) (o:Int):Int :=
 if o=1∧sumT a a.length≠sumT b b.length then lt1 (sumT a a.length) (sumT b b.length) else lexC a b (max a.length b.length)
def low (x:Int):Bool:=!decide (262144 < x)
def rightL (ls:List (List Int)):Bool:=ls.all λl=>rightB l && l.all low
def gLs (ls:List (List Int)) (k:Nat):List Int:=ls.getD k []
structure RQ where
 s:Bool
 l:List Nat
 d:List Nat
def RQ.lm (r:RQ) (k:Nat):Prop:=Lm r.l∧Lm r.d∧r.l.length≤k∧r.d.length≤k
abbrev RQ.av (r:RQ):AV:=.agg [.v (.bool r.s),lim r.l,lim r.d]
def RQ.zok (s:Bool) (l:List Nat):Bool:=valL l && !(s && decide (l.length=0))
def RQ.ok (r:RQ):Bool:=RQ.zok r.s r.l && valL r.d && (Nat.gcd (nv r.l) (nv r.d) == 1) && decide (0 < r.d.length)
def RQ.q (r:RQ):Rat:=mkRat (zI r.s (nv r.l)) (nv r.d)
theorem RQ.ok_av {r:RQ} {k:Nat} (hl:r.lm k) (h:r.ok=true):r.av=ratQ r.q∧Sz r.q k:=by
 obtain⟨s,l,d⟩:=r;obtain⟨h1,h2,h3,h4⟩:=hl;simp only [RQ.ok,RQ.zok,ZC2,ZDb,ZEz,ZEk] at h;obtain⟨⟨⟨⟨v1,v2⟩,v3⟩,v4⟩,v5⟩:=h;have e1:=(Zip h1).1 v1;have e2:=(Zip h2).1 v3;simp only [RQ.av,RQ.q] at *;generalize nv l=n at *;generalize nv d=m at *;subst e1;subst e2;have hm:m≠0:=by have:=Zbc.1 v5;omega
 have hs:decide (zI s n < 0)=s:=by
  rw [zI_lt];cases s
  ·rfl
  ·have:(toL n).length≠0:=by simpa using v2
   rw [ZCp (Zbc.1 zo)];rfl
 refine⟨?_,Sz.mk (by rw [Zd6];exact h3) h4 zo⟩;rw [Zrs _ _ hm,Zd6,v4,ZGa,ZGa,hs]
theorem Zq3 {a b:Nat}:toL a=toL b↔a=b:=⟨λh=>by rw [←Zao a,h,Zao],λh=>by rw [h]⟩
theorem zRight (s:Bool) (l:List Nat) (hs:l.length≤100000000) (hl:Lm l):Pure prog 161 [.agg [.v (.bool s),lim l]] (.v (.bool (RQ.zok s l))):=by
 have cv:=Ztu l zo hl;unfold RQ.zok;generalize valL l=v at *;cases v
 ·refine pI func161 rfl ntmps161 results161 call161 ?_
  (refine wkvp (w_1 @ZDi) (w_1 cv) (w_s ?_);intros)
  simp (disch:=omega) only [go_sem,ZDi]
 ·cases s
  ·refine pI func161 rfl ntmps161 results161 call161 ?_
   (refine wkvp (w_1 @ZDi) (w_1 cv) (w_s ?_);intros)
   simp (disch:=omega) only [go_sem,ZDi]
  ·by_cases h0:l.length=0
   ·refine pI func161 rfl ntmps161 results161 call161 ?_
    (refine wkvp (w_2 h0 @ZEo) (w_1 cv) (w_s ?_);intros)
    simp (disch:=omega) only [go_sem,h0]
   ·refine pI func161 rfl ntmps161 results161 call161 ?_
    (refine wkvp w_t (w_1 cv) (w_s ?_);intros)
    simp (disch:=omega) only [go_sem,h0,ZCq h0]
theorem Zpm (s:Bool) (l d:List Nat) (h1:Lm l) (h2:Lm d) (h3:l.length≤100000000) (h4:d.length≤100000000):Pure prog 101 [.agg [.v (.bool s),lim l,lim d]] (.v (.bool (RQ.ok ⟨s,l,d⟩))):=by
 have cz:=zRight s l h3 h1;have cv:=Ztu d zo h2;have cg:=refGcd l d zo zo h1 h2
 have hgl:(toL (Nat.gcd (nv l) (nv d))).length≤100000000:=by
  have l1:=Zat h1;have l2:=Zat h2;by_cases hd:nv d=0
  ·rw [hd,Nat.gcd_zero_right];omega
  ·exact ZCk (Zc5 (Nat.gcd_le_right _ zo)) zo
 have cs:=refSameN (toL (Nat.gcd (nv l) (nv d))) (toL 1) zo (by rw [Zc8];omega) (Zar _) (Zar _);rw [show decide (toL (Nat.gcd (nv l) (nv d))=toL 1)=(Nat.gcd (nv l) (nv d) == 1) from by rw [ZDg,ZDb,ZEk];exact Zq3] at cs;unfold RQ.ok;generalize RQ.zok s l=v at *;simp only;generalize Nat.gcd (nv l) (nv d)=g at *;cases v
 ·refine pI func101 rfl ntmps101 results101 call101 ?_
  (refine wkvp (w_1 @ZDi) (w_1 cz) (w_s ?_);intros)
  simp (disch:=omega) only [go_sem,ZDi]
 ·generalize valL d=v at *;cases v
  ·refine pI func101 rfl ntmps101 results101 call101 ?_
   (refine wkvp (w_1 @ZDi) (w_2 cz cv) (w_s ?_);intros)
   simp (disch:=omega) only [go_sem,ZDi]
  ·by_cases hg:g=1
   ·have hgb:(g == 1)=true:=by rw [ZEk];exact hg
    rw [hgb] at cs ⊢;by_cases hd:0 < d.length
    ·rw [ZCp hd];refine pI func101 rfl ntmps101 results101 call101 ?_
     (refine wkvp w_t (w_5 cz cv cg (Zkb 1 zo) cs) (w_s ?_);intros)
     simp (disch:=omega) only [go_sem]
    ·rw [ZCq hd];refine pI func101 rfl ntmps101 results101 call101 ?_
     (refine wkvp w_t (w_5 cz cv cg (Zkb 1 zo) cs) (w_s ?_);intros)
     simp (disch:=omega) only [go_sem,ZGk]
   ·have hgb:(g == 1)=false:=by rw [ZG2];exact hg
    rw [hgb] at cs ⊢;refine pI func101 rfl ntmps101 results101 call101 ?_
    (refine wkvp (w_2 @ZGk @ZDi) (w_5 cz cv cg (Zkb 1 zo) cs) (w_s ?_);intros)
    simp (disch:=omega) only [go_sem,ZGk,ZDi]
section
variable {N n:Nat} {cs:List AV}
theorem agN16:Zhi prog 128=false:=by kernel_rfl
theorem cs16:prog.cellsOf 128=1:=by kernel_rfl
theorem shNat (h:Zcd prog N n 50 cs):∃l:List Nat,cs=[lim l]∧Lm l∧l.length≤N:=by
 obtain⟨bs,rfl,hl,hq⟩:=Zct (g:=λk:Nat=>[AV.v (.int .u16 (k:Int))]) (Q:=λk=>k < 65536) underlying50 h λm x hx=>by
  obtain⟨i,rfl,hw⟩:=Zdh underlying128 hx;have:=wf_u16 hw;exact⟨i.toNat,by rw [ZHp this.1],zo⟩
 refine⟨bs,?_,hq,hl⟩;rw [cs16];have:(bs.map λb:Nat=>Zcy prog 128 [AV.v (.int .u16 (b:Int))])=u16s bs:=ZE4 λb _=>Zkt agN16 _;rw [this]
theorem shInt (h:Zcd prog N n 52 cs):∃(s:Bool) (l:List Nat),cs=[.v (.bool s),lim l]∧Lm l∧l.length≤N:=by
 obtain⟨m,rfl,hs⟩:=Zce underlying52 zk h;obtain⟨x,y,rfl,h1,hs⟩:=hs.inv;obtain⟨z,y,rfl,h2,hs⟩:=hs.inv;obtain rfl:=hs.inv0;obtain⟨s,rfl⟩:=Zvn underlying4 h1;obtain⟨l,rfl,h3,h4⟩:=shNat h2;exact⟨s,l,rfl,h3,h4⟩
theorem shRat (h:Zcd prog N n 54 cs):∃r:RQ,cs=[.v (.bool r.s),lim r.l,lim r.d]∧r.lm N:=by
 obtain⟨m,rfl,hs⟩:=Zce underlying54 zk h;obtain⟨x,y,rfl,h1,hs⟩:=hs.inv;obtain⟨z,y,rfl,h2,hs⟩:=hs.inv;obtain rfl:=hs.inv0;obtain⟨s,l,rfl,h3,h4⟩:=shInt h1;obtain⟨d,rfl,h5,h6⟩:=shNat h2;exact⟨⟨s,l,d⟩,rfl,h3,h5,h4,h6⟩
structure RP where
 x:RQ
 y:RQ
abbrev RP.av (p:RP):AV:=.agg [.v (.bool p.x.s),lim p.x.l,lim p.x.d,.v (.bool p.y.s),lim p.y.l,lim p.y.d]
def RP.lm (p:RP) (k:Nat):Prop:=p.x.lm k∧p.y.lm k
end
theorem intOfM:Pure prog 116 [iv (-1)] (intZ (-1)):=by
 have hm:=Zjn true 1 (by rw [Zc8];omega);have hn:=natOf 1 zo;rw [show zI true 1=-1 from rfl] at hm;rw [show intZ (-1)=.agg [.v (.bool true),lim (toL 1)] from rfl] at hm ⊢;generalize toL 1=l at *;refine pI func116 rfl ntmps116 results116 call116 ?_;exact wklp w_t (w_2 hn hm) w_t (w_r 0) w_z
theorem ratOfM:Pure prog 56 [iv (-1)] (ratQ (-1)):=by
 have c:=intOfM;rw [show intZ (-1)=.agg [.v (.bool true),lim (toL 1)] from rfl] at c;rw [show ratQ (-1)=.agg [.v (.bool true),lim (toL 1),lim (toL 1)] from rfl];have u:=Zrr;generalize toL 1=l at *;refine pI func56 rfl ntmps56 results56 call56 ?_;exact wklp w_t (w_2 c u) w_t (w_r 0) w_z
theorem zOfM:Pure prog 108 [iv (-1)] (intZ (-1)):=by
 have hm:=zOf' true 1 (by rw [Zc8];omega);have h0:=Zkb 0 zo;have h1:=Zkb 1 zo;have ha:=rAdd 0 1 (by rw [Zaz];simp) (by rw [Zc8];omega);rw [show zI true 1=-1 from rfl] at hm;rw [show 0+1=1 from rfl] at ha;rw [show intZ (-1)=.agg [.v (.bool true),lim (toL 1)] from rfl] at hm ⊢;generalize toL 1=l at *;generalize toL 0=k at *;refine pI func108 rfl ntmps108 results108 call108 ?_;exact wklp w_t (w_4 h0 h1 ha hm) w_t (w_r 0) w_z
theorem qOfM:Pure prog 65 [iv (-1)] (ratQ (-1)):=by
 have c:=zOfM;have h1:=Zkb 1 zo;have co:Pure prog 130 [.agg [.v (.bool true),lim (toL 1)],lim (toL 1)] (ratQ (mkRat (zI true 1) 1)):=Zrt true 1 1 (by rw [Zc8];omega) (by rw [Zc8];omega) zo;rw [show mkRat (zI true 1) 1=(-1:Rat) from rfl] at co;rw [show intZ (-1)=.agg [.v (.bool true),lim (toL 1)] from rfl] at c;rw [show ratQ (-1)=.agg [.v (.bool true),lim (toL 1),lim (toL 1)] from rfl] at *;generalize toL 1=l at *;refine pI func65 rfl ntmps65 results65 call65 ?_;exact wklp w_t (w_3 c h1 co) w_t (w_r 0) w_z
theorem ZBz (x:Nat) (hx:x < 256):Pure prog 189 [.v (.int .u64 (x:Int))] (iv (len8 x:Nat)):=by
 refine Zaa (tok:=0) (rs:=[.tmp 2]) func189 rfl ntmps189 results189 call189 zr zs ?_;have b:=Zgj (i:=x) zo
 (repeat' (first|(apply Zrz (g:=len8) (n:=256) zk zk zo)|(with_reducible first|refine stp ?_|apply gx1|apply gx2|apply gx3|apply gx4|apply gx5|apply gx6|apply gx7)|(with_reducible refine Zcn ?_;intro _)|((with_reducible refine gE ?_);(try simp (disch:=omega) only [go_sem])<;>first|rfl|omega)|with_reducible refine Zam zd ?_))
 simp (disch:=omega) only [go_sem,ZC3]
theorem bitsLen (x:Nat) (hx:x < 256):Pure prog 114 [.v (.int .u64 (x:Int))] (iv (len8 x:Nat)):=by
 have c:=ZBz x hx;generalize ((len8 x:Nat):Int)=r at *;refine pI func114 rfl ntmps114 results114 call114 ?_
 (refine wkap w_t (w_1 c) (w_r 0) (w_s ?_);intros)
 all_goals exact gL
theorem szXs:szOf prog 227=some 1:=by kernel_rfl
theorem byXs:Zh5 prog 227=some 8:=by kernel_rfl
theorem zXs:Za0 prog 227=some (.int .u64 0):=by kernel_rfl
theorem zSum:Za0 prog 167=some (.agg #[.map none,.slice none 0 0]):=by kernel_rfl
theorem zMap:Za0 prog 165=some (.map none):=by kernel_rfl
theorem szOpn:szOf prog 164=some 1:=by kernel_rfl
theorem zOpn:Za0 prog 164=some (.agg #[.nilFunc]):=by kernel_rfl
theorem szFnR:szOf prog 106=some 1:=by kernel_rfl
theorem zFnR:Za0 prog 106=some (.nilFunc):=by kernel_rfl
theorem undFnR:prog.underlying 106=some (.func #[54,54] #[54] false):=by kernel_rfl
theorem szFr:szOf prog 29=some 2:=by kernel_rfl
theorem byFr:Zh5 prog 29=some 48:=by kernel_rfl
theorem zFr:Za0 prog 29=some (.agg #[.slice none 0 0,.slice none 0 0]):=by kernel_rfl
theorem Zb4:szOf prog 81=some 1:=by kernel_rfl
theorem Zb6:Zh5 prog 27=some 24:=by kernel_rfl
theorem zSQP:Za0 prog 81=some (.slice none 0 0):=by kernel_rfl
theorem ratEqual (a b:Rat) {j k:Nat} (ha:Sz a j) (hb:Sz b k) (hj:j≤1000000) (hk:k≤1000000):Pure prog 111 [ratQ a,ratQ b] (.v (.bool (decide (a=b)))):=by
 have c:=ratCmp a b ha hb zo zo
 have e:(cmpQ a b == 0)=decide (a=b):=by
  rw [ZDg,ZEk,ZDb];unfold cmpQ;constructor
  ·intro h;split at h
   ·omega
   ·split at h
    ·omega
    ·rename_i h1 h2;exact Rat.le_antisymm (Rat.not_lt.1 h2) (Rat.not_lt.1 h1)
  ·rintro rfl
   simp
 rw [←e];generalize cmpQ a b=s at *;refine pI func111 rfl ntmps111 results111 call111 ?_
 (refine wkvp w_t (w_1 c) (w_s ?_);intros)
 simp (disch:=omega) only [go_sem]
section
variable {N n:Nat} {cs:List AV}
theorem shQuantP (h:Zcd prog N n 39 cs):∃k a b c:Int,cs=[iv k,iv a,iv b,iv c]:=by
 obtain⟨m,rfl,hs⟩:=Zce underlying39 zk h;obtain⟨x,y,rfl,h1,hs⟩:=hs.inv;obtain⟨x2,y,rfl,h2,hs⟩:=hs.inv;obtain⟨x3,y,rfl,h3,hs⟩:=hs.inv;obtain⟨x4,y,rfl,h4,hs⟩:=hs.inv;obtain rfl:=hs.inv0;obtain⟨k,rfl,_⟩:=Zdh underlying3 h1;obtain⟨a,rfl,_⟩:=Zdh underlying3 h2;obtain⟨b,rfl,_⟩:=Zdh underlying3 h3;obtain⟨c,rfl,_⟩:=Zdh underlying3 h4;exact⟨k,a,b,c,rfl⟩
theorem ZB1 (cs:List AV):Zcy prog 39 cs=.agg cs:=Zfw underlying39 cs
end
attribute [go_sem] underlying55
def RQ.tiny (r:RQ):Bool:=decide (r.l.length≤2) && decide (r.d.length≤2) && r.ok
theorem RQ.tiny_av {r:RQ} (h1:Lm r.l) (h2:Lm r.d) (h:r.tiny=true):r.av=ratQ r.q∧Sz r.q 2:=by
 unfold RQ.tiny at h;simp only [ZC2,ZDb] at h;exact RQ.ok_av ⟨h1,h2,h.1.1,h.1.2⟩ h.2
def RP.tiny (p:RP):Bool:=p.x.tiny && p.y.tiny
def RP.q (p:RP):PQ:=(p.x.q,p.y.q)
theorem RP.tiny_av {p:RP} {k:Nat} (hl:p.lm k) (h:p.tiny=true):p.av=p.q.av∧p.q.sz 2:=by
 unfold RP.tiny at h;simp only [ZC2] at h;obtain⟨ex,sx⟩:=RQ.tiny_av hl.1.1 hl.1.2.1 h.1;obtain⟨ey,sy⟩:=RQ.tiny_av hl.2.1 hl.2.2.1 h.2;refine⟨?_,sx,sy⟩;show AV.agg (p.x.av.cells++p.y.av.cells)=AV.agg ((ratQ p.x.q).cells++(ratQ p.y.q).cells);rw [ex,ey]
theorem rqTiny (r:RQ) (h:r.lm 9223372036854775807):Pure prog 45 [.agg [.v (.bool r.s),lim r.l,lim r.d]] (.v (.bool r.tiny)):=by
 obtain⟨s,l,d⟩:=r;obtain⟨h1,h2,h3,h4⟩:=h;unfold RQ.tiny;simp only at *;by_cases hl:l.length≤2
 ·by_cases hd:d.length≤2
  ·have c:=Zpm s l d h1 h2 zo zo;generalize RQ.ok ⟨s,l,d⟩=v at *;rw [ZCp hl,ZCp hd];refine pI func45 rfl ntmps45 results45 call45 ?_;exact wkld (w_1 @Za7) (w_1 c) (w_1 @ZEf) w_t w_z
  ·rw [ZCp hl,ZCq hd];refine pI func45 rfl ntmps45 results45 call45 ?_;exact wkld (w_1 @Za7) w_t (w_2 @ZEf @ZDi) w_t w_z
 ·rw [ZCq hl];refine pI func45 rfl ntmps45 results45 call45 ?_;exact wkld (w_1 @Za7) w_t (w_1 @ZDi) w_t w_z
def mildB (ps:List RP) (rs:List RQ):Bool:=decide (ps.length≤10) && decide (rs.length≤10) && ps.all RP.tiny && rs.all RQ.tiny
theorem Zm0 (A B C:PQ):Zfm A B A C=- Zfm B A B C:=by unfold Zfm;grind
theorem Zf9 (A B C:PQ):Zfm A B A C=Zfm B C B A:=by unfold Zfm;grind
theorem dot_swap (A B C:PQ):dotP B A B C=dotP B C B A:=by unfold dotP;grind
theorem Zv8 {k a b c:Int} {ps:List PQ} {rs:List Rat} (h:Qt.chk ⟨k,a,b,c⟩ ps.length rs.length=0) (hl:ps.length≤40) :
 (Qt.norm ⟨k,a,b,c⟩=(Qt.zero,0)∧Qt.val ⟨k,a,b,c⟩ ps rs=0) ∨
 (∃(k1 a1 b1 c1 s:Int),Qt.norm ⟨k,a,b,c⟩=(⟨k1,a1,b1,c1⟩,s)∧(s=1∨s=-1)∧Qt.norm ⟨k1,a1,b1,c1⟩=(⟨k1,a1,b1,c1⟩,1)∧Qt.chk ⟨k1,a1,b1,c1⟩ ps.length rs.length=0∧Qt.val ⟨k,a,b,c⟩ ps rs=Qt.val ⟨k1,a1,b1,c1⟩ ps rs*(s:Rat)):=by
 have hh:=chk_val h
 have hok:Qt.ok ⟨k,a,b,c⟩=true:=by
  unfold Qt.chk at h;split at h
  ·assumption
  ·omega
 rcases hh with⟨rfl,h1,h2,h3⟩ | ⟨h0,h1,h2,h3,h4⟩
 ·have hn:Qt.norm ⟨3,a,b,c⟩=(⟨3,a,b,c⟩,1):=by
   unfold Qt.norm;rw [ZCh hok];rfl
  refine .inr ⟨3,a,b,c,1,hn,.inl rfl,hn,h,?_⟩;rw [show((1:Int):Rat)=1 from rfl,ZGt]
 ·have okN:∀k x y z:Int,(k=1∨k=2)→(0≤x∧x < ps.length)→(0≤y∧y < ps.length)→(0≤z∧z < ps.length)→Qt.ok ⟨k,x,y,z⟩=true:=by
   intro k x y z hk hx hy hz;unfold Qt.ok;rw [ZDb];simp only;omega
  have chN:∀k x y z:Int,(k=1∨k=2)→(0≤x∧x < ps.length)→(0≤y∧y < ps.length)→(0≤z∧z < ps.length)→Qt.chk ⟨k,x,y,z⟩ ps.length rs.length=0:=by
   intro k x y z hk hx hy hz;unfold Qt.chk;rw [ZCh (okN k x y z hk hx hy hz)];simp only;rw [ZCg zo,ZCg zo]
  rcases h1 with rfl | rfl
  ·have v1:∀x y z:Int,Qt.val ⟨1,x,y,z⟩ ps rs=Zfm (ps.getD x.toNat (0,0)) (ps.getD y.toNat (0,0)) (ps.getD x.toNat (0,0)) (ps.getD z.toNat (0,0)):=λx y z=>by unfold Qt.val;rfl
   have nN:∀x y z:Int,(0≤x∧x < ps.length)→(0≤y∧y < ps.length)→(0≤z∧z < ps.length)→Qt.norm ⟨1,x,y,z⟩=Zea x y z:=by
    intro x y z hx hy hz;unfold Qt.norm;rw [ZCh (okN 1 x y z (.inl rfl) hx hy hz)];rfl
   have nS:∀x y z:Int,x < y→y < z→Zea x y z=(⟨1,x,y,z⟩,1):=by
    intro x y z hxy hyz;unfold Zea;rw [ZCg zo,ZCh hxy,ZCh hyz]
   rw [nN a b c h2 h3 h4,v1];have one:∀x:Rat,x=x*((1:Int):Rat):=λx=>by rw [show((1:Int):Rat)=1 from rfl,ZGt]
   have neg:∀x:Rat,-x=x*((-1:Int):Rat):=λx=>by rw [show((-1:Int):Rat)=-1 from rfl];grind
   by_cases he:a=b∨b=c∨a=c
   ·refine .inl ⟨by unfold Zea;rw [ZCh he],?_⟩;rcases he with rfl | rfl | rfl
    ·unfold Zfm;grind
    ·unfold Zfm;grind
    ·unfold Zfm;grind
   ·have fin:∀(x y z:Int) (s:Int),Zea a b c=(⟨1,x,y,z⟩,s)→x < y→y < z→(0≤x∧x < ps.length)→(0≤y∧y < ps.length)→(0≤z∧z < ps.length)→(s=1∨s=-1) →
     Zfm (ps.getD a.toNat (0,0)) (ps.getD b.toNat (0,0)) (ps.getD a.toNat (0,0)) (ps.getD c.toNat (0,0))=Qt.val ⟨1,x,y,z⟩ ps rs*(s:Rat) →
     ∃(k1 a1 b1 c1 s:Int),Zea a b c=(⟨k1,a1,b1,c1⟩,s)∧(s=1∨s=-1)∧Qt.norm ⟨k1,a1,b1,c1⟩=(⟨k1,a1,b1,c1⟩,1)∧Qt.chk ⟨k1,a1,b1,c1⟩ ps.length rs.length=0∧Zfm (ps.getD a.toNat (0,0)) (ps.getD b.toNat (0,0)) (ps.getD a.toNat (0,0)) (ps.getD c.toNat (0,0))=Qt.val ⟨k1,a1,b1,c1⟩ ps rs*(s:Rat) :=
     λx y z s e hxy hyz hx hy hz hs hv=>⟨1,x,y,z,s,e,hs,by rw [nN x y z hx hy hz,nS x y z hxy hyz],chN 1 x y z (.inl rfl) hx hy hz,hv⟩
    right;by_cases h5:a < b
    ·by_cases h6:b < c
     ·exact fin a b c 1 (by unfold Zea;rw [ZCg he,ZCh h5,ZCh h6]) h5 h6 h2 h3 h4 (.inl rfl) (by rw [v1];exact one _)
     ·by_cases h7:a < c
      ·exact fin a c b (-1) (by unfold Zea;rw [ZCg he,ZCh h5,ZCg h6,ZCh h7]) h7 zo h2 h4 h3 (.inr rfl) (by rw [v1,←neg,Zf9,Zm0,Zf9 (ps.getD a.toNat (0,0))])
      ·exact fin c a b 1 (by unfold Zea;rw [ZCg he,ZCh h5,ZCg h6,ZCg h7]) zo h5 h4 h2 h3 (.inl rfl) (by rw [v1,←one,Zf9,Zf9])
    ·by_cases h6:a < c
     ·exact fin b a c (-1) (by unfold Zea;rw [ZCg he,ZCg h5,ZCh h6]) zo h6 h3 h2 h4 (.inr rfl) (by rw [v1,←neg];exact Zm0 _ _ _)
     ·by_cases h7:b < c
      ·exact fin b c a 1 (by unfold Zea;rw [ZCg he,ZCg h5,ZCg h6,ZCh h7]) h7 zo h3 h4 h2 (.inl rfl) (by rw [v1,←one];exact Zf9 _ _ _)
      ·exact fin c b a (-1) (by unfold Zea;rw [ZCg he,ZCg h5,ZCg h6,ZCg h7]) zo zo h4 h3 h2 (.inr rfl) (by rw [v1,←neg];unfold Zfm;grind)
  ·have v2:∀x y z:Int,Qt.val ⟨2,x,y,z⟩ ps rs=2*dotP (ps.getD y.toNat (0,0)) (ps.getD x.toNat (0,0)) (ps.getD y.toNat (0,0)) (ps.getD z.toNat (0,0)):=λx y z=>by unfold Qt.val;rfl
   have nN:∀x y z:Int,(0≤x∧x < ps.length)→(0≤y∧y < ps.length)→(0≤z∧z < ps.length)→Qt.norm ⟨2,x,y,z⟩=Ze9 x y z:=by
    intro x y z hx hy hz;unfold Qt.norm;rw [ZCh (okN 2 x y z (.inr rfl) hx hy hz)];rfl
   have one:∀x:Rat,x=x*((1:Int):Rat):=λx=>by rw [show((1:Int):Rat)=1 from rfl,ZGt]
   rw [nN a b c h2 h3 h4,v2];by_cases he:a=b∨b=c
   ·refine .inl ⟨by unfold Ze9;rw [ZCh he],?_⟩;rcases he with rfl | rfl
    ·unfold dotP;grind
    ·unfold dotP;grind
   ·right;by_cases h5:a=c∧b < a
    ·obtain⟨rfl,h6⟩:=h5;refine⟨2,b,a,b,1,by unfold Ze9;rw [ZCg he,ZCh ⟨rfl,h6⟩],.inl rfl,?_,chN 2 b a b (.inr rfl) h3 h2 h3,?_⟩
     ·rw [nN b a b h3 h2 h3];unfold Ze9;rw [ZCg zo,ZCg zo,ZCg zo]
     ·rw [v2,←one];unfold dotP;grind
    ·by_cases h6:c < a
     ·refine⟨2,c,b,a,1,by unfold Ze9;rw [ZCg he,ZCg h5,ZCh h6],.inl rfl,?_,chN 2 c b a (.inr rfl) h4 h3 h2,?_⟩
      ·rw [nN c b a h4 h3 h2];unfold Ze9;rw [ZCg zo,ZCg zo,ZCg zo]
      ·rw [v2,←one,dot_swap]
     ·refine⟨2,a,b,c,1,by unfold Ze9;rw [ZCg he,ZCg h5,ZCg h6],.inl rfl,?_,chN 2 a b c (.inr rfl) h2 h3 h4,?_⟩
      ·rw [nN a b c h2 h3 h4];unfold Ze9;rw [ZCg he,ZCg h5,ZCg h6]
      ·rw [v2,←one]
def sumV (ps:List PQ) (l:List Qt):Rat:=l.foldl (λs q=>s+Qt.val q ps []) 0
end Go.Proofs.YtpkcophcldjboaaGreatDoor
namespace Go.Proofs.YtpkcophcldjboaaGreatDoor
attribute [-bool_to_prop] Bool.and_eq_decide Bool.or_eq_decide Bool.decide_beq_decide decide_eq_decide
section
open Go Go.RowKit Go.Pg
end
section
open Go Go.RowKit Go.Pg
end
end Go.Proofs.YtpkcophcldjboaaGreatDoor
namespace Go.Pol
structure KO {α:Type} (D:α→Prop) (lt:α→α→Prop):Prop where
 irr:∀x,¬lt x x
 tr:∀x y z,lt x y→lt y z→lt x z
 tri:∀x y,D x→D y→lt x y∨x=y∨lt y x
section
variable {α:Type} {D:α→Prop} {lt:α→α→Prop} [DecidableEq α]
def cof:List (Rat × α)→α→Rat
 | [],_=>0
 | t :: p,x=>(if t.2=x then t.1 else 0)+cof p x
end
section
variable {α:Type} {D:α→Prop} {lt:α→α→Prop}
def addP (lt:α→α→Prop) [DecidableRel lt]:List (Rat × α)→List (Rat × α)→List (Rat × α)
 | [],q=>q
 | s :: p,[]=>s :: p
 | s :: p,t :: q =>
   if lt t.2 s.2 then s :: addP lt p (t :: q)
   else if lt s.2 t.2 then t :: addP lt (s :: p) q
   else if s.1+t.1=0 then addP lt p q
   else (s.1+t.1,s.2) :: addP lt p q
termination_by p q=>p.length+q.length
def Srt (D:α→Prop) (lt:α→α→Prop) (p:List (Rat × α)):Prop:=(∀t∈p,t.1≠0∧D t.2)∧p.Pairwise (λs t=>lt t.2 s.2)
end
section
variable {α:Type} {D:α→Prop} {lt:α→α→Prop} [DecidableEq α]
end
section
variable {α:Type} {D:α→Prop} {lt:α→α→Prop} [DecidableRel lt]
theorem Zvd (p:List (Rat × α)):addP lt p []=p:=by cases p<;>simp [addP]
theorem Ziz {p q:List (Rat × α)} {t:Rat × α} (h:t∈addP lt p q):∃s∈p++q,t.2=s.2:=by
 fun_induction addP lt p q with
 | case1 q=>exact⟨t,by simpa using h,rfl⟩
 | case2 s p=>exact⟨t,by simpa using h,rfl⟩
 | case3 s p u q h1 ih =>
   rcases List.mem_cons.1 h with rfl | h
   ·exact⟨t,by simp,rfl⟩
   ·obtain⟨v,hv,e⟩:=ih h;exact⟨v,by simp only [ZGy,ZF7,ZFy] at hv ⊢;rcases hv with hv | hv | hv<;>simp [hv],e⟩
 | case4 s p u q h1 h2 ih =>
   rcases List.mem_cons.1 h with rfl | h
   ·exact⟨t,by simp,rfl⟩
   ·obtain⟨v,hv,e⟩:=ih h;exact⟨v,by simp only [ZGy,ZF7,ZFy] at hv ⊢;rcases hv with hv | hv | hv<;>simp [hv],e⟩
 | case5 s p u q h1 h2 h3 ih =>
   obtain⟨v,hv,e⟩:=ih h;exact⟨v,by simp only [ZGy,ZF7,ZFy] at hv ⊢;rcases hv with hv | hv<;>simp [hv],e⟩
 | case6 s p u q h1 h2 h3 ih =>
   rcases List.mem_cons.1 h with rfl | h
   ·exact⟨s,by simp,rfl⟩
   ·obtain⟨v,hv,e⟩:=ih h;exact⟨v,by simp only [ZGy,ZF7,ZFy] at hv ⊢;rcases hv with hv | hv<;>simp [hv],e⟩
end
section
variable {α:Type} {D:α→Prop} {lt:α→α→Prop} [DecidableEq α] [DecidableRel lt]
theorem Zgn (o:KO D lt) {p q:List (Rat × α)} (x:α) (hp:∀t∈p,D t.2) (hq:∀t∈q,D t.2):cof (addP lt p q) x=cof p x+cof q x:=by
 fun_induction addP lt p q with
 | case1 q=>show cof q x=0+cof q x;rw [ZGr]
 | case2 s p=>show cof (s :: p) x=cof (s :: p) x+0;rw [ZEu]
 | case3 s p u q h1 ih =>
   have:=ih (λt h=>hp t (.tail _ h)) hq;simp only [cof] at this ⊢;rw [this];grind
 | case4 s p u q h1 h2 ih =>
   have:=ih hp (λt h=>hq t (.tail _ h));simp only [cof] at this ⊢;rw [this];grind
 | case5 s p u q h1 h2 h3 ih =>
   have e:s.2=u.2:=by rcases o.tri s.2 u.2 (hp s (.head _)) (hq u (.head _)) with h | h | h;exact absurd h h2;exact h;exact absurd h h1
   have:=ih (λt h=>hp t (.tail _ h)) (λt h=>hq t (.tail _ h));simp only [cof] at this ⊢;rw [this,e];split<;>grind
 | case6 s p u q h1 h2 h3 ih =>
   have e:s.2=u.2:=by rcases o.tri s.2 u.2 (hp s (.head _)) (hq u (.head _)) with h | h | h;exact absurd h h2;exact h;exact absurd h h1
   have:=ih (λt h=>hp t (.tail _ h)) (λt h=>hq t (.tail _ h));simp only [cof] at this ⊢;rw [this,e];split<;>grind
end
section
variable {α:Type} {D:α→Prop} {lt:α→α→Prop}
theorem Srt.nil:Srt D lt ([]:List (Rat × α)):=⟨by simp,.nil⟩
theorem Srt.tail {t:Rat × α} {p:List (Rat × α)} (h:Srt D lt (t :: p)):Srt D lt p:=⟨λu hu=>h.1 u (.tail _ hu),(List.pairwise_cons.1 h.2).2⟩
theorem Srt.cons {t:Rat × α} {p:List (Rat × α)} (h:Srt D lt p) (h1:t.1≠0) (h2:D t.2) (h3:∀u∈p,lt u.2 t.2):Srt D lt (t :: p) :=
 ⟨λu hu=>by rcases List.mem_cons.1 hu with rfl | hu;exact⟨h1,h2⟩;exact h.1 u hu,List.pairwise_cons.2 ⟨h3,h.2⟩⟩
theorem Srt.dom {p:List (Rat × α)} (h:Srt D lt p):∀t∈p,D t.2:=λt ht=>(h.1 t ht).2
theorem Srt.head_lt {t:Rat × α} {p:List (Rat × α)} (h:Srt D lt (t :: p)):∀u∈p,lt u.2 t.2:=(List.pairwise_cons.1 h.2).1
end
section
variable {α:Type} {D:α→Prop} {lt:α→α→Prop} [DecidableRel lt]
theorem Zc1 (o:KO D lt) {p q:List (Rat × α)} (hp:Srt D lt p) (hq:Srt D lt q):Srt D lt (addP lt p q):=by
 fun_induction addP lt p q with
 | case1 q=>exact hq
 | case2 s p=>exact hp
 | case3 s p u q h1 ih =>
   refine(ih hp.tail hq).cons (hp.1 s (.head _)).1 (hp.1 s (.head _)).2 λv hv=>?_;obtain⟨w,hw,e⟩:=Ziz hv;rw [e];rcases List.mem_append.1 hw with hw | hw
   ·exact hp.head_lt w hw
   ·rcases List.mem_cons.1 hw with rfl | hw
    ·exact h1
    ·exact o.tr _ _ _ (hq.head_lt w hw) h1
 | case4 s p u q h1 h2 ih =>
   refine(ih hp hq.tail).cons (hq.1 u (.head _)).1 (hq.1 u (.head _)).2 λv hv=>?_;obtain⟨w,hw,e⟩:=Ziz hv;rw [e];rcases List.mem_append.1 hw with hw | hw
   ·rcases List.mem_cons.1 hw with rfl | hw
    ·exact h2
    ·exact o.tr _ _ _ (hp.head_lt w hw) h2
   ·exact hq.head_lt w hw
 | case5 s p u q h1 h2 h3 ih=>exact ih hp.tail hq.tail
 | case6 s p u q h1 h2 h3 ih =>
   have es:s.2=u.2:=by rcases o.tri s.2 u.2 (hp.dom s (.head _)) (hq.dom u (.head _)) with h | h | h;exact absurd h h2;exact h;exact absurd h h1
   refine(ih hp.tail hq.tail).cons h3 (hp.1 s (.head _)).2 λv hv=>?_;obtain⟨w,hw,e⟩:=Ziz hv;rw [e];rcases List.mem_append.1 hw with hw | hw
   ·exact hp.head_lt w hw
   ·show lt w.2 s.2;rw [es];exact hq.head_lt w hw
end
section
variable {α:Type} {D:α→Prop} {lt:α→α→Prop} [DecidableEq α]
theorem Zlx (o:KO D lt) {p:List (Rat × α)} {x:α} (h:∀t∈p,lt t.2 x):cof p x=0:=by
 induction p with
 | nil=>rfl
 | cons t p ih =>
   show(if t.2=x then t.1 else 0)+cof p x=0;rw [ZCg (by rintro rfl;exact o.irr _ (h t (.head _))),ih λu hu=>h u (.tail _ hu),ZEu]
theorem Zhy (o:KO D lt) {t:Rat × α} {p:List (Rat × α)} (h:Srt D lt (t :: p)):cof (t :: p) t.2=t.1:=by
 show(if t.2=t.2 then t.1 else 0)+cof p t.2=t.1;rw [ZCh rfl,Zlx o h.head_lt,ZEu]
theorem Zjh (o:KO D lt):∀{p q:List (Rat × α)},Srt D lt p→Srt D lt q→(∀x,cof p x=cof q x)→p=q
 | [],[],_,_,_=>rfl
 | [],t :: q,_,hq,h=>absurd ((Zhy o hq).symm.trans (h t.2).symm) (hq.1 t (.head _)).1
 | s :: p,[],hp,_,h=>absurd ((Zhy o hp).symm.trans (h s.2)) (hp.1 s (.head _)).1
 | s :: p,t :: q,hp,hq,h=>by
   have ks:s.2=t.2:=by
    rcases o.tri s.2 t.2 (hp.dom s (.head _)) (hq.dom t (.head _)) with hl | hl | hl
    ·have h1:cof (s :: p) t.2=0:=Zlx o λu hu=>by
      rcases List.mem_cons.1 hu with rfl | hu
      ·exact hl
      ·exact o.tr _ _ _ (hp.head_lt u hu) hl
     exact absurd (((h t.2).symm.trans h1).symm.trans (Zhy o hq)).symm (hq.1 t (.head _)).1
    ·exact hl
    ·have h1:cof (t :: q) s.2=0:=Zlx o λu hu=>by
      rcases List.mem_cons.1 hu with rfl | hu
      ·exact hl
      ·exact o.tr _ _ _ (hq.head_lt u hu) hl
     exact absurd (((h s.2).trans h1).symm.trans (Zhy o hp)).symm (hp.1 s (.head _)).1
   have kc:s.1=t.1:=by
    have h1:=h s.2;rw [Zhy o hp,ks,Zhy o hq] at h1;exact h1
   have e:s=t:=Prod.ext kc ks;subst e;congr 1;refine Zjh o hp.tail hq.tail λx=>?_;have h1:=h x;simp only [cof] at h1
   grind
end
section
variable {α:Type} {D:α→Prop} {lt:α→α→Prop}
def Zku (m:α→α→α) (p:List (Rat × α)) (t:Rat × α):List (Rat × α):=p.map λs=>(s.1*t.1,m s.2 t.2)
structure KM (D:α→Prop) (lt:α→α→Prop) (m:α→α→α):Prop where
 comm:∀x y,m x y=m y x
 dom:∀x y,D x→D y→D (m x y)
 mono:∀x y z,D x→D y→D z→lt x y→lt (m x z) (m y z)
theorem Zxg {m:α→α→α} (k:KM D lt m) {p:List (Rat × α)} {t:Rat × α} (hp:Srt D lt p) (h1:t.1≠0) (h2:D t.2):Srt D lt (Zku m p t):=by
 refine⟨λu hu=>?_,?_⟩
 ·obtain⟨s,hs,rfl⟩:=List.mem_map.1 hu;have:=hp.1 s hs;exact⟨by show s.1*t.1≠0;intro h0;rcases Rat.mul_eq_zero.1 h0 with h | h;exact this.1 h;exact h1 h,k.dom _ _ this.2 h2⟩
 ·refine List.pairwise_map.2 (hp.2.imp_of_mem λ{a b} ha hb hl=>k.mono _ _ _ (hp.dom b hb) (hp.dom a ha) h2 hl)
end
section
variable {α:Type} {D:α→Prop} {lt:α→α→Prop} [DecidableEq α]
def cofM (m:α→α→α) (p:List (Rat × α)):List (Rat × α)→α→Rat
 | [],_=>0
 | t :: q,x=>cof (Zku m p t) x+cofM m p q x
end
section
variable {α:Type} {D:α→Prop} {lt:α→α→Prop}
def mulR (lt:α→α→Prop) [DecidableRel lt] (m:α→α→α) (p q:List (Rat × α)):List (Rat × α):=q.foldl (λout t=>addP lt out (Zku m p t)) []
end
section
variable {α:Type} {D:α→Prop} {lt:α→α→Prop} [DecidableRel lt]
theorem Zqn (o:KO D lt) {m:α→α→α} (k:KM D lt m) {p:List (Rat × α)} (hp:Srt D lt p):∀(q out:List (Rat × α)),Srt D lt q→Srt D lt out→Srt D lt (q.foldl (λout t=>addP lt out (Zku m p t)) out)
 | [],_,_,ho=>ho
 | t :: q,_,hq,ho=>Zqn o k hp q _ hq.tail (Zc1 o ho (Zxg k hp (hq.1 t (.head _)).1 (hq.1 t (.head _)).2))
end
section
variable {α:Type} {D:α→Prop} {lt:α→α→Prop} [DecidableEq α] [DecidableRel lt]
end
section
variable {α:Type} {D:α→Prop} {lt:α→α→Prop} [DecidableRel lt]
theorem mulR_srt (o:KO D lt) {m:α→α→α} (k:KM D lt m) {p q:List (Rat × α)} (hp:Srt D lt p) (hq:Srt D lt q):Srt D lt (mulR lt m p q):=Zqn o k hp q [] hq .nil
end
section
variable {α:Type} {D:α→Prop} {lt:α→α→Prop} [DecidableEq α] [DecidableRel lt]
end
section
variable {α:Type} {D:α→Prop} {lt:α→α→Prop}
def sumH (lt:α→α→Prop) [DecidableRel lt]:List (List (Rat × α))→List (Rat × α)
 | []=>[]
 | [p]=>p
 | p :: q :: l=>addP lt (sumH lt ((p :: q :: l).take ((p :: q :: l).length/2))) (sumH lt ((p :: q :: l).drop ((p :: q :: l).length/2)))
termination_by l=>l.length
decreasing_by all_goals (simp only [ZCz,ZEj,ZCu];omega)
end
section
variable {α:Type} {D:α→Prop} {lt:α→α→Prop} [DecidableEq α]
def cofL:List (List (Rat × α))→α→Rat
 | [],_=>0
 | p :: l,x=>cof p x+cofL l x
theorem cofL_app (l k:List (List (Rat × α))) (x:α):cofL (l++k) x=cofL l x+cofL k x:=by
 induction l with
 | nil=>show cofL k x=0+cofL k x;rw [ZGr]
 | cons p l ih=>show _+cofL (l++k) x=(_+cofL l x)+cofL k x;rw [ih,Rat.add_assoc]
end
section
variable {α:Type} {D:α→Prop} {lt:α→α→Prop} [DecidableRel lt]
theorem Zhl (o:KO D lt) (l:List (List (Rat × α))) (h:∀p∈l,Srt D lt p):Srt D lt (sumH lt l):=by
 fun_induction sumH lt l with
 | case1=>exact .nil
 | case2 p=>exact h p (.head _)
 | case3 p q l ih1 ih2=>exact Zc1 o (ih1 λu hu=>h u (ZDw hu)) (ih2 λu hu=>h u (ZE2 hu))
end
section
variable {α:Type} {D:α→Prop} {lt:α→α→Prop} [DecidableEq α] [DecidableRel lt]
theorem sumH_cof (o:KO D lt) (x:α) (l:List (List (Rat × α))) (h:∀p∈l,Srt D lt p):cof (sumH lt l) x=cofL l x:=by
 fun_induction sumH lt l with
 | case1=>rfl
 | case2 p=>show cof p x=cof p x+0;rw [ZEu]
 | case3 p q l ih1 ih2 =>
   have h1:∀u∈(p :: q :: l).take ((p :: q :: l).length/2),Srt D lt u:=λu hu=>h u (ZDw hu);have h2:∀u∈(p :: q :: l).drop ((p :: q :: l).length/2),Srt D lt u:=λu hu=>h u (ZE2 hu);rw [Zgn o x (Zhl o _ h1).dom (Zhl o _ h2).dom,ih1 h1,ih2 h2,←cofL_app,ZEq]
end
section
variable {α:Type} {D:α→Prop} {lt:α→α→Prop}
def mulH (lt:α→α→Prop) [DecidableRel lt] (m:α→α→α) (p q:List (Rat × α)):List (Rat × α):=sumH lt (p.map λt=>Zku m q t)
end
section
variable {α:Type} {D:α→Prop} {lt:α→α→Prop} [DecidableEq α] [DecidableRel lt]
theorem ZB5 (o:KO D lt) {p q:List (Rat × α)} (hp:Srt D lt p) (hq:Srt D lt q):addP lt p q=addP lt q p :=
 Zjh o (Zc1 o hp hq) (Zc1 o hq hp) λx=>by rw [Zgn o x hp.dom hq.dom,Zgn o x hq.dom hp.dom,Rat.add_comm]
theorem Zw2 (o:KO D lt) {p q r:List (Rat × α)} (hp:Srt D lt p) (hq:Srt D lt q) (hr:Srt D lt r):addP lt (addP lt p q) r=addP lt p (addP lt q r) :=
 Zjh o (Zc1 o (Zc1 o hp hq) hr) (Zc1 o hp (Zc1 o hq hr)) λx=>by
  rw [Zgn o x (Zc1 o hp hq).dom hr.dom,Zgn o x hp.dom hq.dom,Zgn o x hp.dom (Zc1 o hq hr).dom,Zgn o x hq.dom hr.dom,Rat.add_assoc]
end
section
variable {α:Type} {D:α→Prop} {lt:α→α→Prop} [DecidableRel lt]
theorem Zfo (p q:List (Rat × α)):(addP lt p q).length≤p.length+q.length:=by
 fun_induction addP lt p q<;>simp_all only [ZCu,ZC6]<;>omega
end
def evl {α:Type} (φ:α→Rat):List (Rat × α)→Rat
 | []=>0
 | t :: p=>t.1*φ t.2+evl φ p
theorem ZA2 {α:Type} (φ:α→Rat) (p q:List (Rat × α)):evl φ (p++q)=evl φ p+evl φ q:=by
 induction p with
 | nil=>show evl φ q=0+evl φ q;rw [ZGr]
 | cons t p ih=>show _+evl φ (p++q)=(_+evl φ p)+evl φ q;rw [ih,Rat.add_assoc]
section
variable {α:Type} {D:α→Prop} {lt:α→α→Prop} [DecidableRel lt]
theorem Zu2 (o:KO D lt) (φ:α→Rat) {p q:List (Rat × α)} (hp:∀t∈p,D t.2) (hq:∀t∈q,D t.2):evl φ (addP lt p q)=evl φ p+evl φ q:=by
 fun_induction addP lt p q with
 | case1 q=>show evl φ q=0+evl φ q;rw [ZGr]
 | case2 s p=>show evl φ (s :: p)=evl φ (s :: p)+0;rw [ZEu]
 | case3 s p u q h1 ih =>
   have:=ih (λt h=>hp t (.tail _ h)) hq;simp only [evl] at this ⊢;rw [this];grind
 | case4 s p u q h1 h2 ih =>
   have:=ih hp (λt h=>hq t (.tail _ h));simp only [evl] at this ⊢;rw [this];grind
 | case5 s p u q h1 h2 h3 ih =>
   have e:s.2=u.2:=by rcases o.tri s.2 u.2 (hp s (.head _)) (hq u (.head _)) with h | h | h;exact absurd h h2;exact h;exact absurd h h1
   have:=ih (λt h=>hp t (.tail _ h)) (λt h=>hq t (.tail _ h));simp only [evl] at this ⊢;have e2:s.1*φ s.2+u.1*φ u.2=0:=by rw [e,←Rat.add_mul,h3,Rat.zero_mul]
   rw [this];grind
 | case6 s p u q h1 h2 h3 ih =>
   have e:s.2=u.2:=by rcases o.tri s.2 u.2 (hp s (.head _)) (hq u (.head _)) with h | h | h;exact absurd h h2;exact h;exact absurd h h1
   have:=ih (λt h=>hp t (.tail _ h)) (λt h=>hq t (.tail _ h));simp only [evl] at this ⊢;rw [this,e];grind
end
section
variable {α:Type} {D:α→Prop} {lt:α→α→Prop}
def Zcv (a:Rat) (p:List (Rat × α)):List (Rat × α):=p.map λs=>(s.1*a,s.2)
theorem Zpb {a:Rat} {p:List (Rat × α)} (hp:Srt D lt p) (h:a≠0):Srt D lt (Zcv a p):=by
 refine⟨λu hu=>?_,List.pairwise_map.2 hp.2⟩;obtain⟨s,hs,rfl⟩:=List.mem_map.1 hu;have:=hp.1 s hs;exact⟨by show s.1*a≠0;intro h0;rcases Rat.mul_eq_zero.1 h0 with h1 | h1;exact this.1 h1;exact h h1,this.2⟩
end
section
variable {α:Type} [DecidableEq α]
end
section
variable {α:Type} {D:α→Prop} {lt:α→α→Prop} [DecidableEq α] [DecidableRel lt]
end
section
variable {α:Type} {lt:α→α→Prop} [DecidableRel lt]
end
section
variable {α:Type} {D:α→Prop} {lt:α→α→Prop} [DecidableRel lt]
def subP (lt:α→α→Prop) [DecidableRel lt] (p q:List (Rat × α)):List (Rat × α):=addP lt p (Zcv (-1) q)
theorem neg1:(-1:Rat)≠0:=by decide
end
section
variable {α:Type} {D:α→Prop} {lt:α→α→Prop} [DecidableEq α] [DecidableRel lt]
end
section
variable {α:Type} {lt:α→α→Prop} [DecidableRel lt]
theorem Zg8 {p q:List (Rat × α)} {t:Rat × α} (h:t∈addP lt p q):t∈p∨t∈q∨∃s∈p,∃u∈q,t=(s.1+u.1,s.2):=by
 fun_induction addP lt p q with
 | case1 q=>exact .inr (.inl h)
 | case2 s p=>exact .inl h
 | case3 s p u q h1 ih =>
   rcases List.mem_cons.1 h with rfl | h
   ·exact .inl (.head _)
   ·rcases ih h with h | h | ⟨a,ha,b,hb,e⟩
    ·exact .inl (.tail _ h)
    ·exact .inr (.inl h)
    ·exact .inr (.inr ⟨a,.tail _ ha,b,hb,e⟩)
 | case4 s p u q h1 h2 ih =>
   rcases List.mem_cons.1 h with rfl | h
   ·exact .inr (.inl (.head _))
   ·rcases ih h with h | h | ⟨a,ha,b,hb,e⟩
    ·exact .inl h
    ·exact .inr (.inl (.tail _ h))
    ·exact .inr (.inr ⟨a,ha,b,.tail _ hb,e⟩)
 | case5 s p u q h1 h2 h3 ih =>
   rcases ih h with h | h | ⟨a,ha,b,hb,e⟩
   ·exact .inl (.tail _ h)
   ·exact .inr (.inl (.tail _ h))
   ·exact .inr (.inr ⟨a,.tail _ ha,b,.tail _ hb,e⟩)
 | case6 s p u q h1 h2 h3 ih =>
   rcases List.mem_cons.1 h with rfl | h
   ·exact .inr (.inr ⟨s,.head _,u,.head _,rfl⟩)
   ·rcases ih h with h | h | ⟨a,ha,b,hb,e⟩
    ·exact .inl (.tail _ h)
    ·exact .inr (.inl (.tail _ h))
    ·exact .inr (.inr ⟨a,.tail _ ha,b,.tail _ hb,e⟩)
end
def BQ (D B:Nat) (q:Rat):Prop:=q.den ∣ D∧q.num.natAbs≤B*q.den
theorem Zuk {z:Int} {m:Nat} (hm:m≠0) {D B:Nat} (hd:m ∣ D*Nat.gcd z.natAbs m) (hb:z.natAbs≤B*m):BQ D B (mkRat z m):=by
 have h0:0 < Nat.gcd z.natAbs m:=ZIa _ (ZEe hm);obtain⟨c,hc⟩:=Nat.gcd_dvd_right z.natAbs m;obtain⟨a,ha⟩:=Nat.gcd_dvd_left z.natAbs m;unfold BQ;rw [Rat.num_mkRat,Rat.den_mkRat,ZCg hm,ZGq m z.natAbs];generalize Nat.gcd z.natAbs m=g at *;have e1:m/g=c:=by rw [hc];exact Nat.mul_div_cancel_left _ h0
 have e2:(z/(g:Int)).natAbs=a:=by
  rcases Int.natAbs_eq z with h | h
  ·rw [h,ha,show((g*a:Nat):Int)=(g:Int)*(a:Int) from by simp,ZIb _ zo];simp
  ·rw [h,ha,show -((g*a:Nat):Int)=(g:Int)*(-(a:Int)) from by simp [Int.mul_neg],ZIb _ zo];simp
 rw [e1,ZCg hm,e2];constructor
 ·rw [hc,ZDh D] at hd;exact Nat.dvd_of_mul_dvd_mul_left h0 hd
 ·rw [ha,hc,show B*(g*c)=g*(B*c) from by simp only [ZGe]] at hb;exact Nat.le_of_mul_le_mul_left hb h0
theorem BQ.mono {D B E C:Nat} {q:Rat} (h:BQ D B q) (hd:D ∣ E) (hb:B≤C):BQ E C q:=⟨Nat.dvd_trans h.1 hd,ZCk h.2 (ZCw _ hb)⟩
theorem BQ.mul {D B E C:Nat} {a b:Rat} (h:BQ D B a) (k:BQ E C b):BQ (D*E) (B*C) (a*b):=by
 rw [Rat.mul_def'];refine Zuk (ZE8 a.den_nz b.den_nz) (Nat.dvd_trans (Nat.mul_dvd_mul h.1 k.1) (ZF2 _ _)) ?_;rw [ZFc]
 calc _≤(B*a.den)*(C*b.den):=ZDe h.2 k.2
  _=B*C*(a.den*b.den):=by simp only [ZDm,ZGe]
theorem BQ.add {D B C:Nat} {a b:Rat} (h:BQ D B a) (k:BQ D C b):BQ D (B+C) (a+b):=by
 obtain⟨x,hx⟩:=h.1;obtain⟨y,hy⟩:=k.1;have e:a+b=mkRat (a.num*b.den+b.num*a.den) (a.den*b.den):=Rat.add_def' a b;rw [e];refine Zuk (ZE8 a.den_nz b.den_nz) ?_ ?_
 ·
  rw [←Nat.gcd_mul_left];refine Nat.dvd_gcd ?_ (ZH2 _ _)
  have e2:((D*(a.num*b.den+b.num*a.den).natAbs:Nat):Int)=((D:Int)*(a.num*b.den+b.num*a.den)).natAbs:=by
   rw [ZFc];simp
  have e3:D*(a.num*b.den+b.num*a.den).natAbs=((D:Int)*(a.num*b.den+b.num*a.den)).natAbs:=zo;rw [e3]
  have e4:(D:Int)*(a.num*b.den+b.num*a.den)=((a.den*b.den:Nat):Int)*(x*a.num+y*b.num):=by
   have h1:(D:Int)=a.den*x:=by rw [hx];simp
   have h2:(D:Int)=b.den*y:=by rw [hy];simp
   rw [Int.mul_add,Int.mul_add,show((a.den*b.den:Nat):Int)=(a.den:Int)*b.den from by simp];congr 1
   ·rw [h1];simp only [Int.mul_assoc,Int.mul_left_comm,Int.mul_comm]
   ·rw [h2];simp only [Int.mul_assoc,Int.mul_left_comm,Int.mul_comm]
  rw [e4,ZFc,ZFd];exact ZF2 _ _
 ·have h1:=h.2;have h2:=k.2
  calc _≤(a.num*b.den).natAbs+(b.num*a.den).natAbs:=zo
   _=a.num.natAbs*b.den+b.num.natAbs*a.den:=by rw [ZFc,ZFc,ZFd,ZFd]
   _≤(B*a.den)*b.den+(C*b.den)*a.den:=ZDt (ZCw _ h1) (ZCw _ h2)
   _=(B+C)*(a.den*b.den):=by rw [ZC8];simp only [ZDm,ZDh b.den]
theorem BQ.neg {D B:Nat} {a:Rat} (h:BQ D B a):BQ D B (-a):=by
 refine⟨h.1,?_⟩;show(-a.num).natAbs≤B*a.den;rw [ZHn];exact h.2
theorem BQ.int (z:Int) {D B:Nat} (h:z.natAbs≤B):BQ D B (z:Rat):=⟨⟨D,(ZEp D).symm⟩,by show z.natAbs≤B*1;omega⟩
end Go.Pol
namespace Go.Proofs.YtpkcophcldjboaaGreatDoor
open Go Go.RowKit Go.Pg Go.Proofs.Tryz
def Can (l:List Int):Prop:=(∀j,0≤gI l j)∧(l.length=0∨gI l (l.length - 1)≠0)
def LTm (a b:List Int):Prop:=∃k,gI a k < gI b k∧∀j,k < j→gI a j=gI b j
def ltM (a b:List Int):Prop:=lexC a b (max a.length b.length)=-1
instance:DecidableRel ltM:=λa b=>inferInstanceAs (Decidable (lexC a b (max a.length b.length)=-1))
theorem Zz8 {a b:List Int}:∀n,lexC a b n=-1↔∃k,k < n∧gI a k < gI b k∧∀j,k < j→j < n→gI a j=gI b j
 | 0=>by
   constructor
   ·intro h;exact absurd h (by show ¬(0:Int)=-1;omega)
   ·rintro ⟨k,h,_⟩;omega
 | n+1=>by
   unfold lexC;by_cases h:gI a n=gI b n
   ·rw [ZCh h,Zz8 n];constructor
    ·rintro ⟨k,h1,h2,h3⟩
     exact⟨k,zo,h2,λj h4 h5=>by by_cases hj:j=n;subst hj;exact h;exact h3 j h4 zo⟩
    ·rintro ⟨k,h1,h2,h3⟩
     have:k≠n:=by rintro rfl;omega
     exact⟨k,zo,h2,λj h4 h5=>h3 j h4 zo⟩
   ·rw [ZCg h];unfold lt1;constructor
    ·intro h1;by_cases h2:gI a n < gI b n
     ·exact⟨n,zo,h2,λj h3 h4=>zo⟩
     ·rw [ZCg h2] at h1;omega
    ·rintro ⟨k,h1,h2,h3⟩
     by_cases hk:k=n
     ·subst hk;rw [ZCh h2]
     ·exact absurd (h3 n zo zo) h
theorem Zjl {a b:List Int}:ltM a b↔LTm a b:=by
 unfold ltM LTm;rw [Zz8];constructor
 ·rintro ⟨k,h1,h2,h3⟩
  refine⟨k,h2,λj h4=>?_⟩;by_cases hj:j < max a.length b.length
  ·exact h3 j h4 hj
  ·rw [Ze5 zo,Ze5 zo]
 ·rintro ⟨k,h2,h3⟩
  refine⟨k,?_,h2,λj h4 _=>h3 j h4⟩;by_cases hk:k < max a.length b.length
  ·exact hk
  ·rw [Ze5 zo,Ze5 zo] at h2;omega
theorem Zmr {a b:List Int}:∀n,lexC a b n=0∧(∀j,j < n→gI a j=gI b j)∨lexC a b n=-1∨lexC a b n=1
 | 0=>.inl ⟨rfl,λj h=>zo⟩
 | n+1=>by
   unfold lexC;by_cases h:gI a n=gI b n
   ·rw [ZCh h];rcases @Zmr a b n with⟨h1,h2⟩ | h1
    ·exact .inl ⟨h1,λj hj=>by by_cases e:j=n;subst e;exact h;exact h2 j zo⟩
    ·exact .inr h1
   ·rw [ZCg h];unfold lt1;split
    ·exact .inr (.inl rfl)
    ·exact .inr (.inr rfl)
theorem Zup {a b:List Int}:∀n,lexC b a n=- lexC a b n
 | 0=>rfl
 | n+1=>by
   unfold lexC;by_cases h:gI a n=gI b n
   ·rw [ZCh h,ZCh h.symm,Zup n]
   ·rw [ZCg h,ZCg (λe=>h e.symm)];unfold lt1;by_cases h1:gI a n < gI b n
    ·rw [ZCh h1,ZCg zo];rfl
    ·rw [ZCg h1,ZCh zo]
theorem can_ext {a b:List Int} (ha:Can a) (hb:Can b) (h:∀j,gI a j=gI b j):a=b:=by
 have hl:a.length=b.length:=by
  have h1:=h (a.length - 1);have h2:=h (b.length - 1);rcases Nat.lt_trichotomy a.length b.length with hl | hl | hl
  ·rcases hb.2 with hb0 | hb0
   ·omega
   ·rw [←h2,Ze5 zo] at hb0;exact absurd rfl hb0
  ·exact hl
  ·rcases ha.2 with ha0 | ha0
   ·omega
   ·rw [h1,Ze5 zo] at ha0;exact absurd rfl ha0
 refine List.ext_getElem hl λj h1 h2=>?_;have:=h j
 rwa [Zfb h1,Zfb h2] at this
theorem ordM:Go.Pol.KO Can ltM where
 irr x h:=by obtain⟨k,h1,_⟩:=Zjl.1 h;omega
 tr x y z h g:=by
  obtain⟨k,h1,h2⟩:=Zjl.1 h;obtain⟨i,g1,g2⟩:=Zjl.1 g;rw [Zjl];rcases Nat.lt_trichotomy k i with h3 | h3 | h3
  ·exact⟨i,by rw [h2 i h3];exact g1,λj hj=>by rw [h2 j zo,g2 j hj]⟩
  ·subst h3;exact⟨k,zo,λj hj=>by rw [h2 j hj,g2 j hj]⟩
  ·exact⟨k,by rw [←g2 k h3];exact h1,λj hj=>by rw [h2 j hj,g2 j zo]⟩
 tri x y hx hy:=by
  rcases @Zmr x y (max x.length y.length) with⟨_,h⟩ | h | h
  ·refine .inr (.inl (can_ext hx hy λj=>?_));by_cases hj:j < max x.length y.length
   ·exact h j hj
   ·rw [Ze5 zo,Ze5 zo]
  ·exact .inl h
  ·refine .inr (.inr ?_);unfold ltM;rw [Nat.max_comm,Zup,h]
theorem Zlp (F:Int→Int→Int) (h0:F 0 0=0) (a b:List Int) (j:Nat):gI (zipI F a b) j=F (gI a j) (gI b j):=by
 by_cases h:j < max a.length b.length
 ·rw [Zfb (by unfold zipI;simpa using h)];unfold zipI;simp only [ZG6,List.getElem_range]
 ·rw [Ze5 (by unfold zipI;simp only [ZCj,List.length_range];omega),Ze5 zo,Ze5 zo,h0]
abbrev mulM (a b:List Int):List Int:=zipI (·+·) a b
theorem Zuh (a b:List Int):(mulM a b).length=max a.length b.length:=by simp [mulM,zipI]
theorem mulK:Go.Pol.KM Can ltM mulM where
 comm x y:=by
  unfold mulM zipI;rw [Nat.max_comm];exact ZE4 λi _=>Int.add_comm _ _
 dom x y hx hy:=by
  refine⟨λj=>by rw [Zlp _ rfl];have:=hx.1 j;have:=hy.1 j;omega,?_⟩;rw [Zuh,Zlp _ rfl];have a1:=hx.1 (max x.length y.length - 1);have b1:=hy.1 (max x.length y.length - 1);rcases Nat.le_total x.length y.length with h | h
  ·rw [Nat.max_eq_right h] at *;rcases hy.2 with h1 | h1
   ·exact .inl h1
   ·exact .inr zo
  ·rw [Nat.max_eq_left h] at *;rcases hx.2 with h1 | h1
   ·exact .inl h1
   ·exact .inr zo
 mono x y z _ _ _ h:=by
  obtain⟨k,h1,h2⟩:=Zjl.1 h;rw [Zjl];exact⟨k,by rw [Zlp _ rfl,Zlp _ rfl];omega,λj hj=>by rw [Zlp _ rfl,Zlp _ rfl,h2 j hj]⟩
def mvN (v:Nat→Rat) (m:List Int):Nat→Rat
 | 0=>1
 | n+1=>mvN v m n*v n ^ (gI m n).toNat
def mv (v:Nat→Rat) (m:List Int):Rat:=mvN v m m.length
theorem ubSize:(prog.info? 221).map (·.size)=some 2:=by kernel_rfl
theorem ubLies:liesAt prog prog.depth 221 (2/prog.cellsOf 221) 0 221 1=true:=by kernel_rfl
theorem ubCells:prog.cellsOf 5=1:=by kernel_rfl
theorem ubUsed (b:Nat) (w:World) (h0:w.cell? ⟨b,0,none⟩=some (.pointer (some ⟨b,0,none⟩))) :
 Calls prog 250 #[.pointer (some ⟨b,0,none⟩)] w λe w'=>e=.returned (.tuple #[])∧w'=w:=by
 obtain⟨j,hj,_⟩:=Option.map_eq_some_iff.1 ubSize
 go_enter func250,ntmps250
 go_wp2
 rw [Lib.run_neq_ptr_same w _ underlying219 hj]
 go_wp2
 go_end0
 exact⟨rfl,rfl⟩
theorem ubFresh (b:Nat) (w:World) (h0:w.cell? ⟨b,0,none⟩=some (.pointer none)) (hsh:w.shape? b=some (221,2)) (hfz:w.frozen? ⟨b,0,none⟩=false) :
 Calls prog 250 #[.pointer (some ⟨b,0,none⟩)] w λe w'=>e=.returned (.tuple #[])∧w'=w.setCell ⟨b,0,none⟩ (.pointer (some ⟨b,0,none⟩)):=by
 obtain⟨j,hj,hjs⟩:=Option.map_eq_some_iff.1 ubSize
 go_enter func250,ntmps250
 go_wp2
 rw [Lib.run_to_unsafe w ⟨b,0,none⟩ underlying219 underlying252 hj (by rw [hjs];decide) hsh (Nat.zero_lt_succ 1)];simp only [Result.andThen];rw [Oper.upon_value]
 go_wp2
 rw [run_callFunc_extern func259 zk zk zk (e:=Extern.AbiNoEscape.same) zk];rw [Lib.run_noEscape];simp only [Result.andThen];rw [Oper.upon_value]
 go_wp2
 rw [Lib.run_from_unsafe w ⟨b,0,none⟩ underlying252 underlying219 hj hsh ubLies];simp only [Result.andThen];rw [Oper.upon_value]
 go_wp2
 go_end0
 exact⟨rfl,rfl⟩
theorem ubString (b g cap:Nat) (p:Value) (cur:Array Value) (l:List UInt8) (w:World) (hbk:w.heap[b]?=some (.cells #[p,.slice (some ⟨g,0,none⟩) l.length cap] 221 (0,0)))
 (hg:w.heap[g]?=some (.cells cur 5 (0,0))) (h0:l≠[]) (hnc:l.length≤cap) (hcm:cap≤maxLen) (hcs:cur.size=cap) (hc:∀j x,l[j]?=some x→w.cell? ((⟨g,0,none⟩:Addr).add j)=some (.int .u8 x.toNat)) :
 Calls prog 223 #[.pointer (some ⟨b,0,none⟩)] w λe w'=>e=.returned (.string ⟨l.toArray⟩)∧w'=w.drew.freeze ⟨g,0,none⟩ l.length:=by
 have hl0:l.length≠0:=by simpa using h0
 have c1:w.drew.cell? ⟨b,1,none⟩=some (.slice (some ⟨g,0,none⟩) l.length cap):=by
  have:w.drew.heap[b]?=some (.cells #[p,.slice (some ⟨g,0,none⟩) l.length cap] 221 (0,0)):=hbk;rw [Lib.cell_of_heap this];rfl
 have hSD:(Builtin.unsafeSliceData_ #[95] 245 #[.slice (some ⟨g,0,none⟩) l.length cap]).run prog w.drew=.ok (.pointer (some ⟨g,0,none⟩)) w.drew :=
  Lib.run_unsafeSliceData_row _ _ _ _ _ _ zo
 have hUS:(Builtin.unsafeString_ #[245,3] 9 #[.pointer (some ⟨g,0,none⟩),.int .i64 l.length]).run prog w.drew=.ok (.string ⟨l.toArray⟩) (w.drew.freeze ⟨g,0,none⟩ l.length) :=
  Lib.run_unsafeString_row w.drew 245 3 9 5 underlying245 ubCells g cur.size (by have hg':w.drew.heap[g]?=some (.cells cur 5 (0,0)):=hg;simp [World.shape?,hg']) l h0 zo (by unfold maxLen at hcm;omega) hc
 have mixed:prog.follows .mixedOrders=true:=by kernel_rfl
 go_enter func223,ntmps223
 go_wp2
 go_region_o
 all_goals (go_wp2;go_ret;exact⟨rfl,rfl⟩)
end Go.Proofs.YtpkcophcldjboaaGreatDoor
