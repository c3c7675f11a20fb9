/- Contracts of the functions that the law reaches, and the rules by which they are walked. They say what a call hands back for every input within the bounds that each names; no other condition. -/
import Derived.Test.YtkefeinbjbeidaaGreatDoorBt7
set_option linter.unusedSimpArgs false
set_option linter.unusedVariables false
set_option maxRecDepth 20000
set_option maxHeartbeats 16000000
namespace Go.Proofs.YtkefeinbjbeidaaGreatDoor
open Go Go.RowKit Go.Pg Go.Pol Go.Proofs.Tryz
attribute [-bool_to_prop] Bool.and_eq_decide Bool.or_eq_decide Bool.decide_beq_decide decide_eq_decide
attribute [local go_sem] Zbu Za8 Zbx Zas Zaw Zav Zbe Zbg Zce Zbs Zbt Zcy Zch Zcg Zcf Zcz
def RS.sm (s:RS):Prop:=s.r.lm 100000000∧s.nm.size≤1000000000∧s.ar.length≤1000000000
def RG.sm (g:RG):Prop:=g.r.lm 100000000∧g.ar.length≤1000000000
theorem lwCheck (ss:List RS) (i:Nat) (hi:i < ss.length) (hl:ss.length≤1000000000) (hs:∀s∈ss,s.sm):Pure prog 166 [.sl 6 (ss.map RS.av),iv i] (iv (errS ss i)):=by
 have hg:=Zam RS.av hi;have hsm:=hs _ (ZB7 hi);have e0:errS ss i=errS ss i:=rfl;unfold errS at e0 ⊢;rw [show ss.getD i RS.zero=ss[i] from by rw [ZCb,ZB6 hi];rfl];clear e0;have htk:(ss.map RS.av).take i=(ss.take i).map RS.av:=(List.map_take ..).symm;have c2:=slCon2 (ss.take i) ss[i] (by rw [ZCh];omega);rw [←htk] at c2;have hlm:(ss.map RS.av).length=ss.length:=ZB2 ..;generalize ss.map RS.av=M at *;generalize ss[i]=s at *;clear htk;clear hs;obtain⟨h1,h2,h3⟩:=hsm;have ca:=lwAr s.k;have cr:=Zrh s.r h1;have cn:=lwNone s.r
 have cm:=nmName s.nm h2;have c1:=slCon1 s.ar i h3;have hst:=Zeh s.nm;have hla:(s.ar.map iv).length=s.ar.length:=ZB2 ..;obtain⟨k,nm,ar,r,rl,rd⟩:=s;simp only at *;generalize (ss.take i).any (λt=>t.nm.toList == nm.toList)=any at *;generalize arS k=a at *;generalize outB (i:Int) ar=o at *;generalize RQ.ok ⟨r,rl,rd⟩=ok at *;generalize RQ.none ⟨r,rl,rd⟩=no at *;generalize namB nm=nb at *;by_cases w1:a < 0
 ·rw [ZBv w1];refine pI func166 rfl ntmps166 results166 call166 ?_;(focus (refine wklp (w_3 hg hlm hla) (w_1 ca) w_t (w_r 0) ?_;(repeat' first|exact w_t|apply w_l);all_goals intros))
 ·rw [ZBu w1];by_cases w2:(ar.length:Int)≠a
  ·rw [ZBv w2];refine pI func166 rfl ntmps166 results166 call166 ?_;(focus (refine wklp (w_3 hg hlm hla) (w_1 ca) w_t (w_r 0) ?_;(repeat' first|exact w_t|apply w_l);all_goals intros))
  ·rw [ZBu w2]
   cases o with
   | true =>
     rw [ZBv rfl];refine pI func166 rfl ntmps166 results166 call166 ?_;(focus (refine wkax (w_3 hg hlm hla) (w_1 ca) w_t (w_1 c1) w_t w_t w_y (w_r 0) ?_;(repeat' first|exact w_t|apply w_l);all_goals intros))
     (all_goals (try simp (disch:=omega) only [go_sem,ZB4,ZB3,ZBv,ZBu,Int.reduceAdd,Int.reduceSub,Int.reduceToNat,ZB9]));(all_goals first|done|rfl|(congr 2;first|done|omega|(rw [ZCk];simp only [bool_to_prop,ZB8,ZCt,ZCu,ZCv,ZCw];omega))|skip)
   | false =>
     rw [ZBu zd];by_cases w3:(k=2∧ok=false)∨(k≠2∧no=false)
     ·rw [ZBv w3];rcases w3 with⟨hk,rfl⟩ | ⟨hk,rfl⟩
      ·subst hk;refine pI func166 rfl ntmps166 results166 call166 ?_;(focus (refine wkax (w_3 hg hlm hla) (w_2 ca cr) w_t (w_1 c1) w_t w_t w_y (w_r 0) ?_;(repeat' first|exact w_t|apply w_l);all_goals intros))
       (all_goals (try simp (disch:=omega) only [go_sem,ZB4,ZB3,ZBv,ZBu,Int.reduceAdd,Int.reduceSub,Int.reduceToNat,ZB9]));(all_goals first|done|rfl|(congr 2;first|done|omega|(rw [ZCk];simp only [bool_to_prop,ZB8,ZCt,ZCu,ZCv,ZCw];omega))|skip)
      ·refine pI func166 rfl ntmps166 results166 call166 ?_;(focus (refine wkax (w_3 hg hlm hla) (w_2 ca cn) w_t (w_1 c1) w_t w_t w_y (w_r 0) ?_;(repeat' first|exact w_t|apply w_l);all_goals intros))
       (all_goals (try simp (disch:=omega) only [go_sem,ZB4,ZB3,ZBv,ZBu,Int.reduceAdd,Int.reduceSub,Int.reduceToNat,ZB9]));(all_goals first|done|rfl|(congr 2;first|done|omega|(rw [ZCk];simp only [bool_to_prop,ZB8,ZCt,ZCu,ZCv,ZCw];omega))|skip)
     ·rw [ZBu w3]
      have w4:(k=2∧ok=true)∨(k≠2∧no=true):=by
       by_cases hk:k=2
       ·cases ok
        ·exact absurd (.inl ⟨hk,rfl⟩) w3
        ·exact .inl ⟨hk,rfl⟩
       ·cases no
        ·exact absurd (.inr ⟨hk,rfl⟩) w3
        ·exact .inr ⟨hk,rfl⟩
      clear w3;by_cases w5:nm.size=0
      ·rw [ZBv w5];rw [ZB4 w5] at hst;rcases w4 with⟨hk,rfl⟩ | ⟨hk,rfl⟩
       ·subst hk;refine pI func166 rfl ntmps166 results166 call166 ?_;(focus (refine wkax (w_4 hg hlm hla hst) (w_2 ca cr) w_t (w_1 c1) w_t w_t w_y (w_r 0) ?_;(repeat' first|exact w_t|apply w_l);all_goals intros))
        (all_goals (try simp (disch:=omega) only [go_sem,ZB4,ZB3,ZBv,ZBu,Int.reduceAdd,Int.reduceSub,Int.reduceToNat,ZB9]));(all_goals first|done|rfl|(congr 2;first|done|omega|(rw [ZCk];simp only [bool_to_prop,ZB8,ZCt,ZCu,ZCv,ZCw];omega))|skip)
       ·refine pI func166 rfl ntmps166 results166 call166 ?_;(focus (refine wkax (w_4 hg hlm hla hst) (w_2 ca cn) w_t (w_1 c1) w_t w_t w_y (w_r 0) ?_;(repeat' first|exact w_t|apply w_l);all_goals intros))
        (all_goals (try simp (disch:=omega) only [go_sem,ZB4,ZB3,ZBv,ZBu,Int.reduceAdd,Int.reduceSub,Int.reduceToNat,ZB9]));(all_goals first|done|rfl|(congr 2;first|done|omega|(rw [ZCk];simp only [bool_to_prop,ZB8,ZCt,ZCu,ZCv,ZCw];omega))|skip)
      ·rw [ZBu w5];rw [ZB3 w5] at hst
       cases nb with
       | false =>
         rw [ZBv rfl];rcases w4 with⟨hk,rfl⟩ | ⟨hk,rfl⟩
         ·subst hk;refine pI func166 rfl ntmps166 results166 call166 ?_;(focus (refine wkax (w_4 hg hlm hla hst) (w_3 ca cr cm) w_t (w_1 c1) w_t w_t w_y (w_r 0) ?_;(repeat' first|exact w_t|apply w_l);all_goals intros))
          (all_goals (try simp (disch:=omega) only [go_sem,ZB4,ZB3,ZBv,ZBu,Int.reduceAdd,Int.reduceSub,Int.reduceToNat,ZB9]));(all_goals first|done|rfl|(congr 2;first|done|omega|(rw [ZCk];simp only [bool_to_prop,ZB8,ZCt,ZCu,ZCv,ZCw];omega))|skip)
         ·refine pI func166 rfl ntmps166 results166 call166 ?_;(focus (refine wkax (w_4 hg hlm hla hst) (w_3 ca cn cm) w_t (w_1 c1) w_t w_t w_y (w_r 0) ?_;(repeat' first|exact w_t|apply w_l);all_goals intros))
          (all_goals (try simp (disch:=omega) only [go_sem,ZB4,ZB3,ZBv,ZBu,Int.reduceAdd,Int.reduceSub,Int.reduceToNat,ZB9]));(all_goals first|done|rfl|(congr 2;first|done|omega|(rw [ZCk];simp only [bool_to_prop,ZB8,ZCt,ZCu,ZCv,ZCw];omega))|skip)
       | true =>
         rw [ZBu zd];rcases w4 with⟨hk,rfl⟩ | ⟨hk,rfl⟩
         ·subst hk;cases any
          ·refine pI func166 rfl ntmps166 results166 call166 ?_;(focus (refine wkax (w_5 hg hlm hla hst @Zg3) (w_3 ca cr cm) w_t (w_2 c1 c2) w_t w_t w_y (w_r 0) ?_;(repeat' first|exact w_t|apply w_l);all_goals intros))
           (all_goals (try simp (disch:=omega) only [go_sem,ZB4,ZB3,ZBv,ZBu,Int.reduceAdd,Int.reduceSub,Int.reduceToNat,ZB9]));(all_goals first|done|rfl|(congr 2;first|done|omega|(rw [ZCk];simp only [bool_to_prop,ZB8,ZCt,ZCu,ZCv,ZCw];omega))|skip)
          ·refine pI func166 rfl ntmps166 results166 call166 ?_;(focus (refine wkax (w_5 hg hlm hla hst @Zg3) (w_3 ca cr cm) w_t (w_2 c1 c2) w_t w_t w_y (w_r 0) ?_;(repeat' first|exact w_t|apply w_l);all_goals intros))
           (all_goals (try simp (disch:=omega) only [go_sem,ZB4,ZB3,ZBv,ZBu,Int.reduceAdd,Int.reduceSub,Int.reduceToNat,ZB9]));(all_goals first|done|rfl|(congr 2;first|done|omega|(rw [ZCk];simp only [bool_to_prop,ZB8,ZCt,ZCu,ZCv,ZCw];omega))|skip)
         ·cases any
          ·refine pI func166 rfl ntmps166 results166 call166 ?_;(focus (refine wkax (w_5 hg hlm hla hst @Zg3) (w_3 ca cn cm) w_t (w_2 c1 c2) w_t w_t w_y (w_r 0) ?_;(repeat' first|exact w_t|apply w_l);all_goals intros))
           (all_goals (try simp (disch:=omega) only [go_sem,ZB4,ZB3,ZBv,ZBu,Int.reduceAdd,Int.reduceSub,Int.reduceToNat,ZB9]));(all_goals first|done|rfl|(congr 2;first|done|omega|(rw [ZCk];simp only [bool_to_prop,ZB8,ZCt,ZCu,ZCv,ZCw];omega))|skip)
          ·refine pI func166 rfl ntmps166 results166 call166 ?_;(focus (refine wkax (w_5 hg hlm hla hst @Zg3) (w_3 ca cn cm) w_t (w_2 c1 c2) w_t w_t w_y (w_r 0) ?_;(repeat' first|exact w_t|apply w_l);all_goals intros))
           (all_goals (try simp (disch:=omega) only [go_sem,ZB4,ZB3,ZBv,ZBu,Int.reduceAdd,Int.reduceSub,Int.reduceToNat,ZB9]));(all_goals first|done|rfl|(congr 2;first|done|omega|(rw [ZCk];simp only [bool_to_prop,ZB8,ZCt,ZCu,ZCv,ZCw];omega))|skip)
theorem Zlh {n:Int} {l:List Int} {k:Nat} (hk:k < l.length):outB n (l.take (k+1))=(outB n (l.take k) || (decide (l[k] < 0) || decide (n≤l[k]))):=by
 unfold outB;rw [ZEe hk,List.any_append,List.any_cons,List.any_nil,Bool.or_false]
theorem Zrw {n:Int} {l:List Int} {k:Nat} (hk:k < l.length) (h:(decide (l[k] < 0) || decide (n≤l[k]))=true):outB n l=true:=List.any_eq_true.2 ⟨l[k],ZB7 hk,h⟩
theorem Zyl (g:RG) (n:Nat) (hn:n≤1000000000) (hs:g.sm):Pure prog 22 [g.av,iv n] (iv (errG g n)):=by
 obtain⟨h1,h3⟩:=hs;unfold errG;have ca:=prAr g.k;have cr:Pure prog 62 [g.r.av] (.v (.bool g.r.ok)):=Zrh g.r h1;have cn:=prNone g.r;have hla:(g.ar.map iv).length=g.ar.length:=ZB2 ..;obtain⟨k,ar,r,rl,rd⟩:=g;simp only at *;generalize arG k=a at *;generalize RQ.ok ⟨r,rl,rd⟩=ok at *;generalize RQ.none ⟨r,rl,rd⟩=no at *;by_cases w1:a=0
 ·rw [ZBv w1];subst w1;refine pI func22 rfl ntmps22 results22 call22 ?_;(focus (refine wklp (w_1 hla) (w_1 ca) w_t (w_r 0) ?_;(repeat' first|exact w_t|apply w_l);all_goals intros))
 ·rw [ZBu w1];by_cases w2:(ar.length:Int)≠a
  ·rw [ZBv w2];refine pI func22 rfl ntmps22 results22 call22 ?_;(focus (refine wklp (w_1 hla) (w_1 ca) w_t (w_r 0) ?_;(repeat' first|exact w_t|apply w_l);all_goals intros))
  ·rw [ZBu w2];refine pI func22 rfl ntmps22 results22 call22 ?_;(focus (refine wkap (w_1 hla) (w_1 ca) (w_r 0) ?_;(repeat' first|exact w_t|apply w_l);all_goals intros));rename_i g2;refine Zad (ι:=Nat) (λi e m=>i≤ar.length∧e 1=iv n∧e 2=.pbox 2 g2 0∧m 2=some (.box g2 30 [iv k,ivs ar,.v (.bool r),lim rl,lim rd] false)∧e 19=ivs ar∧e 20=iv ar.length∧e 21=iv i∧outB n (ar.take i)=false) (λi=>ar.length - i) 0 zr ?_ ?_
   ·rintro i e m ⟨hi,e1,e2,m2,ea,en,ei,hno⟩
    by_cases hlt:i < ar.length
    ·have hg:=Zam iv hlt;have hst:=Zlh (n:=n) hlt;have hat:=Zrw (n:=n) hlt;rw [hno,Bool.false_or] at hst;generalize ar[i]=x at *;by_cases hx:x < 0∨(n:Int)≤x
     ·have hb:(decide (x < 0) || decide ((n:Int)≤x))=true:=by simpa using hx
      rw [ZBv (hat hb)];clear hat hst hb;rcases hx with hx | hx
      ·(focus (refine wklp (w_8 e1 e2 m2 ea en ei hg hla) w_t w_t (w_r 0) ?_;(repeat' first|exact w_t|apply w_l);all_goals intros))
      ·(focus (refine wklp (w_8 e1 e2 m2 ea en ei hg hla) w_t w_t (w_r 0) ?_;(repeat' first|exact w_t|apply w_l);all_goals intros))
     ·have hb:(decide (x < 0) || decide ((n:Int)≤x))=false:=by simpa using hx
      rw [hb] at hst;clear hat hb;(focus (refine wkap (w_8 e1 e2 m2 ea en ei hg hla) w_t (w_r 0) ?_;(repeat' first|exact w_t|apply w_l);all_goals intros));exact⟨i+1,⟨zo,gW e1,gW e2,gW m2,gW ea,gW en,gS,hst⟩,zo⟩
    ·have hi2:i=ar.length:=zo;subst hi2;rw [ZDg] at hno;rw [hno,ZBu zd];by_cases hk:k=9
     ·subst hk;cases ok
      ·rw [ZBv zs];(focus (refine wklp (w_7 e1 e2 m2 ea en ei hla) (w_2 cr cn) w_t (w_r 0) ?_;(repeat' first|exact w_t|apply w_l);all_goals intros))
      ·rw [ZBu zs];(focus (refine wklp (w_7 e1 e2 m2 ea en ei hla) (w_2 cr cn) w_t (w_r 0) ?_;(repeat' first|exact w_t|apply w_l);all_goals intros))
     ·cases no
      ·rw [ZBv (by simp [hk])];(focus (refine wklp (w_7 e1 e2 m2 ea en ei hla) (w_2 cr cn) w_t (w_r 0) ?_;(repeat' first|exact w_t|apply w_l);all_goals intros))
      ·rw [ZBu (by simp [hk])];(focus (refine wklp (w_7 e1 e2 m2 ea en ei hla) (w_2 cr cn) w_t (w_r 0) ?_;(repeat' first|exact w_t|apply w_l);all_goals intros))
   ·exact⟨ZB5 _,gC,gC,gC,gC,gW hla,gC,by simp [outB]⟩
theorem rrRight (g:RG) (n:Nat) (hn:n≤1000000000) (hs:g.sm):Pure prog 31 [g.av,iv n] (iv (errG g n)):=by
 obtain⟨h1,h3⟩:=hs;unfold errG;have ca:=rrAr g.k;have cr:Pure prog 71 [g.r.av] (.v (.bool g.r.ok)):=Ztw g.r.s g.r.l g.r.d h1.1 h1.2.1 h1.2.2.1 h1.2.2.2;have cn:=rrNone g.r;have hla:(g.ar.map iv).length=g.ar.length:=ZB2 ..;obtain⟨k,ar,r,rl,rd⟩:=g;simp only at *;generalize arG k=a at *;generalize RQ.ok ⟨r,rl,rd⟩=ok at *;generalize RQ.none ⟨r,rl,rd⟩=no at *;by_cases w1:a=0
 ·rw [ZBv w1];subst w1;refine pI func31 rfl ntmps31 results31 call31 ?_;exact wkld (w_1 hla) (w_1 ca) w_t w_t w_z
 ·rw [ZBu w1];by_cases w2:(ar.length:Int)≠a
  ·rw [ZBv w2];refine pI func31 rfl ntmps31 results31 call31 ?_;exact wkld (w_1 hla) (w_1 ca) w_t (w_1 (w_d 3 [(5,iv a)] [] [])) w_z
  ·rw [ZBu w2];refine pI func31 rfl ntmps31 results31 call31 ?_
   (refine wkad (w_1 hla) (w_1 ca) (w_1 (w_d 3 [(5,iv a)] [] [])) (w_s ?_);intros)
   rename_i g2;refine Zad (ι:=Nat) (λi e m=>i≤ar.length∧e 1=iv n∧e 2=.pbox 2 g2 0∧m 2=some (.box g2 30 [iv k,ivs ar,.v (.bool r),lim rl,lim rd] false)∧e 19=ivs ar∧e 20=iv ar.length∧e 21=iv i∧outB n (ar.take i)=false) (λi=>ar.length - i) 0 zr ?_ ?_
   ·rintro i e m ⟨hi,e1,e2,m2,ea,en,ei,hno⟩
    by_cases hlt:i < ar.length
    ·have hg:=Zam iv hlt;have hst:=Zlh (n:=n) hlt;have hat:=Zrw (n:=n) hlt;rw [hno,Bool.false_or] at hst;generalize ar[i]=x at *;by_cases hx:x < 0∨(n:Int)≤x
     ·have hb:(decide (x < 0) || decide ((n:Int)≤x))=true:=by simpa using hx
      rw [ZBv (hat hb)];clear hat hst hb;rcases hx with hx | hx
      ·exact wkld (w_8 e1 e2 m2 ea en ei hg hla) w_t w_t w_t w_z
      ·exact wkld (w_8 e1 e2 m2 ea en ei hg hla) w_t w_t w_t w_z
     ·have hb:(decide (x < 0) || decide ((n:Int)≤x))=false:=by simpa using hx
      rw [hb] at hst;clear hat hb
      (refine wkad (w_8 e1 e2 m2 ea en ei hg hla) w_t w_t (w_s ?_);intros)
      exact⟨i+1,⟨zo,gW e1,gW e2,gW m2,gW ea,gW en,gS,hst⟩,zo⟩
    ·have hi2:i=ar.length:=zo;subst hi2;rw [ZDg] at hno;rw [hno,ZBu zd];by_cases hk:k=9
     ·subst hk;cases ok
      ·rw [ZBv zs];exact wkld (w_7 e1 e2 m2 ea en ei hla) (w_2 cr cn) w_t w_t w_z
      ·rw [ZBu zs];exact wkld (w_7 e1 e2 m2 ea en ei hla) (w_2 cr cn) w_t w_t w_z
     ·cases no
      ·rw [ZBv (by simp [hk])];exact wkld (w_7 e1 e2 m2 ea en ei hla) (w_2 cr cn) w_t w_t w_z
      ·rw [ZBu (by simp [hk])];exact wkld (w_7 e1 e2 m2 ea en ei hla) (w_2 cr cn) w_t w_t w_z
   ·exact⟨ZB5 _,gC,gC,gC,gC,gW hla,gC,by simp [outB]⟩
theorem lwRight (ss:List RS) (gs:List RG) (h1:ss.length≤1000000000) (h2:gs.length≤1000000000) (hs:∀s∈ss,s.sm) (hg:∀g∈gs,g.sm):Pure prog 102 [figA ss gs] (iv (figE ss gs)):=by
 have hls:(ss.map RS.av).length=ss.length:=ZB2 ..;have hlg:(gs.map RG.av).length=gs.length:=ZB2 ..;have eg:∀i (h:i < gs.length),(gs.map RG.av).getD i .u=gs[i].av:=λi h=>Zam RG.av h;have eg2:∀i (h:i < gs.length),gs.getD i ⟨0,[],⟨false,[],[]⟩⟩=gs[i]:=λi h=>by rw [ZCb,ZB6 h];rfl
 have cc:∀i,i < ss.length→Pure prog 166 [.sl 6 (ss.map RS.av),iv i] (iv (errS ss i)):=λi hi=>lwCheck ss i hi h1 hs;have cg:∀i (h:i < gs.length),Pure prog 22 [gs[i].av,iv ss.length] (iv (errG gs[i] ss.length)):=λi h=>Zyl gs[i] ss.length h1 (hg _ (ZB7 h));unfold figE;show Pure _ _ [.agg [.sl 6 (ss.map RS.av),.sl 5 (gs.map RG.av)]] _;generalize ss.map RS.av=M at *;generalize gs.map RG.av=N at *;by_cases hb:40 < ss.length∨8 < gs.length
 ·rw [ZBv hb];refine pI func102 rfl ntmps102 results102 call102 ?_;(focus (refine wklp (w_2 hls hlg) w_t w_t (w_r 0) ?_;(repeat' first|exact w_t|apply w_l);all_goals intros))
 ·rw [ZBu hb];refine pI func102 rfl ntmps102 results102 call102 ?_;(focus (refine wkap (w_2 hls hlg) w_t (w_r 0) ?_;(repeat' first|exact w_t|apply w_l);all_goals intros));rename_i g1;refine Zad (ι:=Nat) (λi e m=>i≤ss.length∧e 1=.pbox 1 g1 0∧m 1=some (.box g1 42 [.sl 6 M,.sl 5 N] false)∧e 20=iv ss.length∧e 21=iv i∧∀j,j < i→errS ss j=0) (λi=>ss.length - i) 0 zr ?_ ?_
  ·rintro i e m ⟨hi,e1,m1,e20,e21,hz⟩
   by_cases hlt:i < ss.length
   ·have c:=cc i hlt;by_cases he:errS ss i=0
    ·rw [he] at c;(focus (refine wkap (w_6 e1 m1 e20 e21 hls hlg) (w_1 c) (w_r 0) ?_;(repeat' first|exact w_t|apply w_l);all_goals intros));exact⟨i+1,⟨zo,gW e1,gW m1,gW e20,gS,λj hj=>by by_cases e:j=i;rw [e];exact he;exact hz j zo⟩,zo⟩
    ·rw [Zlr hz he hlt,ZBv he];generalize errS ss i=z at *;(focus (refine wklp (w_6 e1 m1 e20 e21 hls hlg) (w_1 c) w_t (w_r 0) ?_;(repeat' first|exact w_t|apply w_l);all_goals intros))
   ·have hi2:i=ss.length:=zo;subst hi2;rw [Zf5 hz,ZBu zs];(focus (refine wkap (w_6 e1 m1 e20 e21 hls hlg) w_t (w_r 0) ?_;(repeat' first|exact w_t|apply w_l);all_goals intros));refine Zad (ι:=Nat) (λi e m=>i≤gs.length∧e 1=.pbox 1 g1 0∧m 1=some (.box g1 42 [.sl 6 M,.sl 5 N] false)∧e 33=.sl 5 N∧e 34=iv gs.length∧e 35=iv i∧∀j,j < i→errG (gs.getD j ⟨0,[],⟨false,[],[]⟩⟩) ss.length=0) (λi=>gs.length - i) 0 zr ?_ ?_
    ·rintro i e m ⟨hi,e1,m1,e33,e34,e35,hz⟩
     by_cases hlt:i < gs.length
     ·have c:=cg i hlt;have hgi:=eg i hlt;have hgj:=eg2 i hlt;have hfa:=@Zlr (λi=>errG (gs.getD i ⟨0,[],⟨false,[],[]⟩⟩) ss.length) i hz;simp only [hgj] at hfa;generalize gs[i]=G at *;by_cases he:errG G ss.length=0
      ·rw [he] at c;clear hfa;obtain⟨k,ar,r,rl,rd⟩:=G;(focus (refine wkap (w_8 e1 m1 e33 e34 e35 hls hlg hgi) (w_1 c) (w_r 0) ?_;(repeat' first|exact w_t|apply w_l);all_goals intros));exact⟨i+1,⟨zo,gW e1,gW m1,gW e33,gW e34,gS,λj hj=>by by_cases e:j=i;rw [e,hgj];exact he;exact hz j zo⟩,zo⟩
      ·rw [hfa he hlt];clear hfa;generalize errG G ss.length=z at *;obtain⟨k,ar,r,rl,rd⟩:=G;(focus (refine wklp (w_8 e1 m1 e33 e34 e35 hls hlg hgi) (w_1 c) w_t (w_r 0) ?_;(repeat' first|exact w_t|apply w_l);all_goals intros))
     ·have hi2:i=gs.length:=zo;subst hi2;rw [Zf5 hz];(focus (refine wklp (w_7 e1 m1 e33 e34 e35 hls hlg) w_t w_t (w_r 0) ?_;(repeat' first|exact w_t|apply w_l);all_goals intros))
    ·exact⟨ZB5 _,gW e1,gW m1,gC,gW hlg,gC,λj hj=>zo⟩
  ·exact⟨ZB5 _,gC,gC,gW hls,gC,λj hj=>zo⟩
theorem rlCheck (ss:List RS) (i:Nat) (hi:i < ss.length) (hl:ss.length≤1000000000) (hs:∀s∈ss,s.sm):Pure prog 207 [.sl 6 (ss.map RS.av),iv i] (iv (errS ss i)):=by
 have hg:=Zam RS.av hi;have hsm:=hs _ (ZB7 hi);unfold errS;rw [show ss.getD i RS.zero=ss[i] from by rw [ZCb,ZB6 hi];rfl];have hgt:∀k,k < i→∃t:RS,((ss.map RS.av).take i).getD k .u=t.av∧(ss.take i)[k]?=some t:=λk hk=>by
  refine⟨ss[k],?_,?_⟩
  ·rw [ZCb,ZDy,ZBv hk,ZC4,ZB6 zo];rfl
  ·rw [ZDy,ZBv hk,ZB6 zo]
 have hlm:(ss.map RS.av).length=ss.length:=ZB2 ..;have hlt:(ss.take i).length=i:=by rw [ZCh];omega
 generalize ss.map RS.av=M at *;generalize ss[i]=s at *;generalize ss.take i=T at *;clear hs;obtain⟨h1,h2,h3⟩:=hsm;have ca:=rlAr s.k;have cr:Pure prog 71 [s.r.av] (.v (.bool s.r.ok)):=Ztw s.r.s s.r.l s.r.d h1.1 h1.2.1 h1.2.2.1 h1.2.2.2;have cn:=rlNone s.r;have cm:=rnName s.nm h2;have hst:=Zeh s.nm;have hla:(s.ar.map iv).length=s.ar.length:=ZB2 ..;obtain⟨k,nm,ar,r,rl,rd⟩:=s;simp only at *;generalize arS k=a at *;generalize RQ.ok ⟨r,rl,rd⟩=ok at *;generalize RQ.none ⟨r,rl,rd⟩=no at *;generalize namB nm=nb at *;by_cases w1:a < 0
 ·rw [ZBv w1];refine pI func207 rfl ntmps207 results207 call207 ?_;exact wkld (w_3 hg hlm hla) (w_1 ca) w_t w_t w_z
 ·rw [ZBu w1];by_cases w2:(ar.length:Int)≠a
  ·rw [ZBv w2];refine pI func207 rfl ntmps207 results207 call207 ?_;exact wkld (w_3 hg hlm hla) (w_1 ca) w_t (w_1 (w_d 4 [(5,iv a)] [] [])) w_z
  ·rw [ZBu w2];refine pI func207 rfl ntmps207 results207 call207 ?_
   (refine wkad (w_3 hg hlm hla) (w_1 ca) (w_1 (w_d 4 [(5,iv a)] [] [])) (w_s ?_);intros)
   rename_i g5;refine Zad (ι:=Nat) (λx e m=>x≤ar.length∧e 0=.sl 6 M∧e 1=iv i∧e 5=.pbox 5 g5 0∧m 5=some (.box g5 81 [iv k,strA nm,ivs ar,.v (.bool r),lim rl,lim rd] false)∧e 26=ivs ar∧e 27=iv ar.length∧e 28=iv x∧outB i (ar.take x)=false) (λx=>ar.length - x) 0 zr ?_ ?_
   ·rintro x e m ⟨hx,e0,e1,e5,m5,e26,e27,e28,hno⟩
    by_cases hlt2:x < ar.length
    ·have hga:=Zam iv hlt2;have hso:=Zlh (n:=(i:Int)) hlt2;have hat:=Zrw (n:=(i:Int)) hlt2;rw [hno,Bool.false_or] at hso;generalize ar[x]=y at *;by_cases hy:y < 0∨(i:Int)≤y
     ·have hb:(decide (y < 0) || decide ((i:Int)≤y))=true:=by simpa using hy
      rw [ZBv (hat hb)];clear hat hso hb;rcases hy with hy | hy
      ·exact wkld (w_9 e0 e1 e5 m5 e26 e27 e28 hga hla) w_t w_t w_t w_z
      ·exact wkld (w_9 e0 e1 e5 m5 e26 e27 e28 hga hla) w_t w_t w_t w_z
     ·have hb:(decide (y < 0) || decide ((i:Int)≤y))=false:=by simpa using hy
      rw [hb] at hso;clear hat hb
      (refine wkad (w_9 e0 e1 e5 m5 e26 e27 e28 hga hla) w_t w_t (w_s ?_);intros)
      exact⟨x+1,⟨zo,gW e0,gW e1,gW e5,gW m5,gW e26,gW e27,gS,hso⟩,zo⟩
    ·have hi2:x=ar.length:=zo;subst hi2;rw [ZDg] at hno;rw [hno,ZBu zd];by_cases w3:(k=2∧ok=false)∨(k≠2∧no=false)
     ·rw [ZBv w3];rcases w3 with⟨hk,rfl⟩ | ⟨hk,rfl⟩
      ·subst hk;exact wkld (w_8 e0 e1 e5 m5 e26 e27 e28 hla) (w_1 cr) w_t w_t w_z
      ·exact wkld (w_8 e0 e1 e5 m5 e26 e27 e28 hla) (w_1 cn) w_t w_t w_z
     ·rw [ZBu w3]
      have w4:(k=2∧ok=true)∨(k≠2∧no=true):=by
       by_cases hk:k=2
       ·cases ok
        ·exact absurd (.inl ⟨hk,rfl⟩) w3
        ·exact .inl ⟨hk,rfl⟩
       ·cases no
        ·exact absurd (.inr ⟨hk,rfl⟩) w3
        ·exact .inr ⟨hk,rfl⟩
      clear w3;have rest:∀(e:Nat→AV) (m:Mem),e 0=.sl 6 M→e 1=iv i→e 5=.pbox 5 g5 0→m 5=some (.box g5 81 [iv k,strA nm,ivs ar,.v (.bool r),lim rl,lim rd] false)→True:=λ_ _ _ _ _ _=>trivial;clear rest;by_cases w5:nm.size=0
      ·rw [ZBv w5];rw [ZB4 w5] at hst;rcases w4 with⟨hk,rfl⟩ | ⟨hk,rfl⟩
       ·subst hk;exact wkld (w_9 e0 e1 e5 m5 e26 e27 e28 hla hst) (w_1 cr) w_t w_t w_z
       ·exact wkld (w_9 e0 e1 e5 m5 e26 e27 e28 hla hst) (w_1 cn) w_t w_t w_z
      ·rw [ZBu w5];rw [ZB3 w5] at hst
       cases nb with
       | false =>
         rw [ZBv rfl];rcases w4 with⟨hk,rfl⟩ | ⟨hk,rfl⟩
         ·subst hk;exact wkld (w_9 e0 e1 e5 m5 e26 e27 e28 hla hst) (w_2 cr cm) w_t w_t w_z
         ·exact wkld (w_9 e0 e1 e5 m5 e26 e27 e28 hla hst) (w_2 cn cm) w_t w_t w_z
       | true =>
         rw [ZBu zd];rcases w4 with⟨hk,rfl⟩ | ⟨hk,rfl⟩
         all_goals first|(subst hk;(refine wkad (w_12 e0 e1 e5 m5 e26 e27 e28 hla hlm hst @Zg3 @Zui) (w_2 cr cm) w_t (w_s ?_);intros))|(refine wkad (w_12 e0 e1 e5 m5 e26 e27 e28 hla hlm hst @Zg3 @Zui) (w_2 cn cm) w_t (w_s ?_);intros)
         all_goals
          refine Zad (ι:=Nat) (λx e m=>x≤i∧e 5=.pbox 5 g5 0∧(∃k,m 5=some (.box g5 81 [iv k,strA nm,ivs ar,.v (.bool r),lim rl,lim rd] false))∧e 69=.sl 6 (M.take i)∧e 70=iv i∧e 71=iv x∧(T.take x).any (λt=>t.nm.toList == nm.toList)=false) (λx=>i - x) 0 zr ?_ ?_
          ·rintro x e m ⟨hx,e5,⟨k,m5⟩,e69,e70,e71,hnq⟩
           by_cases hlt2:x < i
           ·obtain⟨t,ht,ht2⟩:=hgt x hlt2;have htl:x < T.length:=zo;have htx:T[x]=t:=by rw [ZB6 htl] at ht2;cases ht2;rfl
            have hsn:T.take (x+1)=T.take x++[t]:=by rw [ZEe htl,htx]
            have hmem:t∈T:=by rw [←htx];exact ZB7 htl
            obtain⟨tk,tn,ta,tr,tl,td⟩:=t;have hll:(M.take i).length=i:=by rw [ZCh];omega
            cases hw:(tn.toList == nm.toList) with
            | true =>
              have hany:T.any (λt=>t.nm.toList == nm.toList)=true:=List.any_eq_true.2 ⟨_,hmem,hw⟩;rw [ZBv hany];exact wkld (w_8 e5 m5 e69 e70 e71 ht hw hll) w_t w_t w_t w_z
            | false =>
              (refine wkad (w_8 e5 m5 e69 e70 e71 ht hw hll) w_t w_t (w_s ?_);intros)
              exact⟨x+1,⟨zo,gW e5,⟨k,gW m5⟩,gW e69,gW e70,gS,by rw [hsn,List.any_append,hnq];simp [hw]⟩,zo⟩
           ·have hxi:x=i:=zo;subst hxi;rw [show T.take x=T from by rw [←hlt,ZDg]] at hnq;rw [hnq,ZBu zd];exact wkld (w_5 e5 m5 e69 e70 e71) w_t w_t w_t w_z
          ·exact⟨ZB5 _,gW e5,⟨_,gW m5⟩,gC,by(simp (disch:=omega) only [go_sem,ZCh,hlm,ZEb]<;>repeat' first|rfl|refine⟨?_,?_⟩),gC,by simp⟩
   ·exact⟨ZB5 _,gC,gC,gC,gC,gC,gW hla,gC,by simp [outB]⟩
theorem rlRight (ss:List RS) (gs:List RG) (h1:ss.length≤1000000000) (h2:gs.length≤1000000000) (hs:∀s∈ss,s.sm) (hg:∀g∈gs,g.sm):Pure prog 141 [figA ss gs] (iv (figE ss gs)):=by
 have hls:(ss.map RS.av).length=ss.length:=ZB2 ..;have hlg:(gs.map RG.av).length=gs.length:=ZB2 ..;have eg:∀i (h:i < gs.length),(gs.map RG.av).getD i .u=gs[i].av:=λi h=>Zam RG.av h;have eg2:∀i (h:i < gs.length),gs.getD i ⟨0,[],⟨false,[],[]⟩⟩=gs[i]:=λi h=>by rw [ZCb,ZB6 h];rfl
 have cc:∀i,i < ss.length→Pure prog 207 [.sl 6 (ss.map RS.av),iv i] (iv (errS ss i)):=λi hi=>rlCheck ss i hi h1 hs;have cg:∀i (h:i < gs.length),Pure prog 31 [gs[i].av,iv ss.length] (iv (errG gs[i] ss.length)):=λi h=>rrRight gs[i] ss.length h1 (hg _ (ZB7 h));unfold figE;show Pure _ _ [.agg [.sl 6 (ss.map RS.av),.sl 5 (gs.map RG.av)]] _;generalize ss.map RS.av=M at *;generalize gs.map RG.av=N at *;by_cases hb:40 < ss.length∨8 < gs.length
 ·rw [ZBv hb];refine pI func141 rfl ntmps141 results141 call141 ?_;exact wklp (w_2 hls hlg) w_t w_t (w_r 0) w_z
 ·rw [ZBu hb];refine pI func141 rfl ntmps141 results141 call141 ?_
  (refine wkap (w_2 hls hlg) w_t (w_r 0) (w_s ?_);intros)
  rename_i g1;refine Zad (ι:=Nat) (λi e m=>i≤ss.length∧e 1=.pbox 1 g1 0∧m 1=some (.box g1 42 [.sl 6 M,.sl 5 N] false)∧e 20=iv ss.length∧e 21=iv i∧∀j,j < i→errS ss j=0) (λi=>ss.length - i) 0 zr ?_ ?_
  ·rintro i e m ⟨hi,e1,m1,e20,e21,hz⟩
   by_cases hlt:i < ss.length
   ·have c:=cc i hlt;by_cases he:errS ss i=0
    ·rw [he] at c
     (refine wkap (w_6 e1 m1 e20 e21 hls hlg) (w_1 c) (w_r 0) (w_s ?_);intros)
     exact⟨i+1,⟨zo,gW e1,gW m1,gW e20,gS,λj hj=>by by_cases e:j=i;rw [e];exact he;exact hz j zo⟩,zo⟩
    ·rw [Zlr hz he hlt,ZBv he];generalize errS ss i=z at *;exact wklp (w_6 e1 m1 e20 e21 hls hlg) (w_1 c) w_t (w_r 0) w_z
   ·have hi2:i=ss.length:=zo;subst hi2;rw [Zf5 hz,ZBu zs]
    (refine wkap (w_6 e1 m1 e20 e21 hls hlg) w_t (w_r 0) (w_s ?_);intros)
    refine Zad (ι:=Nat) (λi e m=>i≤gs.length∧e 1=.pbox 1 g1 0∧m 1=some (.box g1 42 [.sl 6 M,.sl 5 N] false)∧e 33=.sl 5 N∧e 34=iv gs.length∧e 35=iv i∧∀j,j < i→errG (gs.getD j ⟨0,[],⟨false,[],[]⟩⟩) ss.length=0) (λi=>gs.length - i) 0 zr ?_ ?_
    ·rintro i e m ⟨hi,e1,m1,e33,e34,e35,hz⟩
     by_cases hlt:i < gs.length
     ·have c:=cg i hlt;have hgi:=eg i hlt;have hgj:=eg2 i hlt;have hfa:=@Zlr (λi=>errG (gs.getD i ⟨0,[],⟨false,[],[]⟩⟩) ss.length) i hz;simp only [hgj] at hfa;generalize gs[i]=G at *;by_cases he:errG G ss.length=0
      ·rw [he] at c;clear hfa;obtain⟨k,ar,r,rl,rd⟩:=G
       (refine wkap (w_8 e1 m1 e33 e34 e35 hls hlg hgi) (w_1 c) (w_r 0) (w_s ?_);intros)
       exact⟨i+1,⟨zo,gW e1,gW m1,gW e33,gW e34,gS,λj hj=>by by_cases e:j=i;rw [e,hgj];exact he;exact hz j zo⟩,zo⟩
      ·rw [hfa he hlt];clear hfa;generalize errG G ss.length=z at *;obtain⟨k,ar,r,rl,rd⟩:=G;exact wklp (w_8 e1 m1 e33 e34 e35 hls hlg hgi) (w_1 c) w_t (w_r 0) w_z
     ·have hi2:i=gs.length:=zo;subst hi2;rw [Zf5 hz];exact wklp (w_7 e1 m1 e33 e34 e35 hls hlg) w_t w_t (w_r 0) w_z
    ·exact⟨ZB5 _,gW e1,gW m1,gC,gW hlg,gC,λj hj=>zo⟩
  ·exact⟨ZB5 _,gC,gC,gW hls,gC,λj hj=>zo⟩
attribute [go_sem] underlying259 underlying103 underlying150 underlying102 underlying105 underlying145 underlying147 underlying143 underlying198 zVar zSlV zSlC zFnC
attribute [local go_sem] Zq5 Zs0 Zq6 Zh7 Zij Zkr Zq7 Zgs Zju Zkx Zl2 Zqw Zkw Zl1 Zqv Zgm Zg8 Zj7 Zgr Zkp Zmh Zvf Zvn
theorem Sub.nil (m:Nat):Sub (.v (.slice none 0 0)) (.sl m []):=λw imm x h=>by
 rw [h.v_inv];exact .pure ((Wk.nil m).rd (.v _))
theorem Zjn (σ:Mem) (KB KC KV g:Nat) (svC svV:Value) (vs:List Vt) (fr:Nat) (kind step number:Int) (hB:σ KB=some (.box g 145 [.own KC svC,.own KV svV,iv fr] false)) (hV:σ KV=some (.row svV 259 3 (vs.map Vt.av) 0)) (hl:vs.length≤200) (hBV:KB≠KV) :
 ACall prog 176 [.pbox KB g 0,iv kind,iv step,iv number] σ λr σ'=>∃sv,r=poA (varM vs.length)∧σ'=upd (upd σ KV (some (.row sv 259 3 ((vs++[(kind,step,number)]).map Vt.av) 0))) KB (some (.box g 145 [.own KC svC,.own KV sv,iv fr] false)):=by
 have mB:=Zay hB;have mV:=Zay hV;have cv:=poVar vs.length zo;have hln:(vs.map Vt.av).length=vs.length:=ZB2 ..;have hm1:((vs.length+1:Nat):Int) - 1=(vs.length:Int):=zo;simp only [Ent.sh,AV.shL,AV.sh] at mB mV;simp only [ZCp,ZC1,ZDv];refine Zbc func176 rfl ntmps176 results176 call176 zr zs ?_;(focus (refine wkap (w_5 mB mV hln hm1 @l_app) (w_1 cv) (w_r 0) ?_;(repeat' first|exact w_t|apply w_l);all_goals intros));simp (disch:=omega) only [go_sem];rename_i sv0 sv1;refine Zik (Sub.refl _) ⟨sv1,rfl,rfl⟩ ?_
 (repeat' (first|exact Agr.start _|(refine Agr.own ?_ zo)|(refine Agr.put ?_ rfl rfl)|(refine Agr.mark ?_ zo)|(rw [ZCp];rfl)))
theorem Sub.agg2 {a b a' b':AV} (h:Sub a a') (k:Sub b b'):Sub (.agg [a,b]) (.agg [a',b']):=Sub.agg _ _ rfl λj x y h1 h2=>by
 match j with
 | 0=>simp at h1 h2;subst h1;subst h2;exact h
 | 1=>simp at h1 h2;subst h1;subst h2;exact k
 | j+2=>simp at h1
theorem Zd9 {σ:Mem} {k:Nat} {e:Ent} (h:σ k=some e):upd σ k (some e)=σ:=by
 funext j;rw [Zan];split
 ·subst_vars;exact h.symm
 ·rfl
theorem cbPoint (σ:Mem) (KB KC KV g:Nat) (svC svV:Value) (vs:List Vt) (fr:Nat) (i:Nat) (hB:σ KB=some (.box g 145 [.own KC svC,.own KV svV,iv fr] false)) (hV:σ KV=some (.row svV 259 3 (vs.map Vt.av) 0)) (hl:vs.length≤100) (hBV:KB≠KV) (hf:fr≤1000) :
 ACall prog 172 [.pbox KB g 0,iv i] σ λr σ'=>∃sv,r=coA (if fr=0 then ([],[]) else if fr=1 then (varM vs.length,[]) else (varM vs.length,varM (vs.length+1))) ∧
  σ'=upd (upd σ KV (some (.row sv 259 3 ((vs++(if fr=0 then [] else if fr=1 then [(1,(i:Int),0)] else [(1,(i:Int),0),(1,(i:Int),1)])).map Vt.av) 0))) KB (some (.box g 145 [.own KC svC,.own KV sv,iv (fr+1:Nat)] false)):=by
 have mB:=Zay hB;have mV:=Zay hV;simp only [Ent.sh,AV.shL,AV.sh] at mB mV;by_cases h0:fr=0
 ·subst h0;simp only [ZC0,ZDf];refine Zbc func172 rfl ntmps172 results172 call172 zr zs ?_;(focus (refine wkap (w_2 mB mV) w_t (w_r 0) ?_;(repeat' first|exact w_t|apply w_l);all_goals intros));simp (disch:=omega) only [go_sem];refine Zik (Sub.agg2 (Sub.nil 4) (Sub.nil 4)) ⟨svV,rfl,rfl⟩ ?_;rw [Zd9 hV]
  (repeat' (first|exact Agr.start _|(refine Agr.own ?_ zo)|(refine Agr.put ?_ rfl rfl)|(refine Agr.mark ?_ zo)|(rw [ZCp];rfl)))
 ·by_cases h1:fr=1
  ·subst h1;simp only [ZBu h0,ZC0];refine Zbc func172 rfl ntmps172 results172 call172 zr zs ?_;(focus (refine wkap (w_2 mB mV) w_t (w_r 0) ?_;(repeat' first|exact w_t|apply w_l);all_goals intros));refine Zg0 (Zjn _ (KB+1000) (KC+1000) (KV+1000) g svC svV vs 2 1 (i:Int) 0 (by(simp (disch:=omega) only [go_sem,mB,mV,ZBu,ZBv]<;>repeat' first|rfl|refine⟨?_,?_⟩)) (by(simp (disch:=omega) only [go_sem,mB,mV,ZBu,ZBv,ZCp,ZC1,ZDv]<;>repeat' first|rfl|refine⟨?_,?_⟩)) (by first|omega|(simp;omega)) zo) ?_;intro sv1;(focus (refine wkap (w_2 mB mV) w_t (w_r 0) ?_;(repeat' first|exact w_t|apply w_l);all_goals intros))
   simp (disch:=omega) only [go_sem];refine Zik (Sub.agg2 (Sub.refl _) (Sub.nil 4)) ⟨sv1,rfl,rfl⟩ ?_;simp only [ZCp,ZC1,ZDv];intro k;by_cases hk1:k=KB
   ·rw [hk1];simp (disch:=omega) only [Zan,ZBv,ZBu,ZC9,Ent.sh,AV.shL,AV.sh]
    try rfl
   ·by_cases hk2:k=KV
    ·rw [hk2];simp (disch:=omega) only [Zan,ZBv,ZBu,ZC9,Ent.sh,AV.shL,AV.sh]
     try rfl
    ·simp (disch:=omega) only [Zan,ZBu];exact Agr.start σ k
  ·simp only [ZBu h0,ZBu h1];have hl1:(vs++[((1:Int),(i:Int),(0:Int))]).length=vs.length+1:=by simp
   refine Zbc func172 rfl ntmps172 results172 call172 zr zs ?_;(focus (refine wkap (w_3 mB mV @Zbm) w_t (w_r 0) ?_;(repeat' first|exact w_t|apply w_l);all_goals intros));refine Zg0 (Zjn _ (KB+1000) (KC+1000) (KV+1000) g svC svV vs (fr+1) 1 (i:Int) 0 (by(simp (disch:=omega) only [go_sem,mB,mV,ZBu,ZBv]<;>repeat' first|rfl|refine⟨?_,?_⟩)) (by(simp (disch:=omega) only [go_sem,mB,mV,ZBu,ZBv,ZCp,ZC1,ZDv]<;>repeat' first|rfl|refine⟨?_,?_⟩)) (by first|omega|(simp;omega)) zo) ?_;intro sv1;(focus (refine wkap (w_3 mB mV @Zbm) w_t (w_r 0) ?_;(repeat' first|exact w_t|apply w_l);all_goals intros))
   refine Zg0 (Zjn _ (KB+1000) (KC+1000) (KV+1000) g svC sv1 (vs++[(1,(i:Int),0)]) (fr+1) 1 (i:Int) 1 (by(simp (disch:=omega) only [go_sem,mB,mV,ZBu,ZBv]<;>repeat' first|rfl|refine⟨?_,?_⟩)) (by(simp (disch:=omega) only [go_sem,mB,mV,ZBu,ZBv,ZCp,ZC1,ZDv]<;>repeat' first|rfl|refine⟨?_,?_⟩)) (by first|omega|(simp;omega)) zo) ?_;intro sv2;(focus (refine wkap (w_3 mB mV hl1) w_t (w_r 0) ?_;(repeat' first|exact w_t|apply w_l);all_goals intros));simp (disch:=omega) only [go_sem,hl1];refine Zik (Sub.refl _) ⟨sv2,rfl,rfl⟩ ?_;simp only [ZDd,ZF1,ZGg]
   intro k;by_cases hk1:k=KB
   ·rw [hk1];simp (disch:=omega) only [Zan,ZBv,ZBu,ZC9,Ent.sh,AV.shL,AV.sh]
    try rfl
   ·by_cases hk2:k=KV
    ·rw [hk2];simp (disch:=omega) only [Zan,ZBv,ZBu,ZC9,Ent.sh,AV.shL,AV.sh]
     try rfl
    ·simp (disch:=omega) only [Zan,ZBu];exact Agr.start σ k
theorem Zcv {K c:Nat} (h:c < 1000):(K+1000 == c)=false:=by rw [ZGk];omega
theorem Zte {a b:List Nat} (h:u16s a=u16s b):a=b:=by
 induction a generalizing b with
 | nil=>cases b with
   | nil=>rfl
   | cons y b=>simp [u16s] at h
 | cons x a ih=>cases b with
   | nil=>simp [u16s] at h
   | cons y b =>
     rw [Zw3,Zw3] at h;simp only [List.cons.injEq,AV.v.injEq,Value.int.injEq,true_and] at h;rw [ih h.2,show x=y by omega]
theorem RQ.ok_eq {r:RQ} {k:Nat} (hl:r.lm k) (h:r.ok=true):r=⟨decide (r.q.num < 0),toL r.q.num.natAbs,toL r.q.den⟩:=by
 have h1:=(RQ.ok_av hl h).1;simp only [RQ.av,ratQ,AV.agg.injEq,List.cons.injEq,AV.v.injEq,Value.bool.injEq,lim,AV.sl.injEq,true_and,and_true] at h1;obtain⟨s,l,d⟩:=r;simp only at h1;rw [RQ.mk.injEq];exact⟨h1.1,Zte h1.2.1,Zte h1.2.2⟩
theorem coOf (c:Po × Po):Pure prog 171 [coA c] (coA c):=by
 obtain⟨p,q⟩:=c;refine pI func171 rfl ntmps171 results171 call171 ?_;(focus (refine wklp w_t w_t w_t (w_r 0) ?_;(repeat' first|exact w_t|apply w_l);all_goals intros))
theorem Zqo (f:Nat) (a b r:Po × Po) (c1:Pure prog f [poA a.1,poA b.1] (poA r.1)) (c2:Pure prog f [poA a.2,poA b.2] (poA r.2)):Pure prog 170 [coA a,coA b,.fn f []] (coA r):=by
 obtain⟨a1,a2⟩:=a;obtain⟨b1,b2⟩:=b;obtain⟨r1,r2⟩:=r;simp only at c1 c2;refine pI func170 rfl ntmps170 results170 call170 ?_;(focus (refine wkld w_t (w_2 c1 c2) w_t (w_1 (w_d 1 [(5,poA r1),(11,poA r2)] [] [6])) ?_;(repeat' first|exact w_t|apply w_l);all_goals intros))
theorem ZA1 (a b:Po × Po) (h1:Pure prog 239 [poA b.1,poA a.1] (poA (subM b.1 a.1))) (h2:Pure prog 239 [poA b.2,poA a.2] (poA (subM b.2 a.2))):Pure prog 169 [coA a,coA b] (coA (subM b.1 a.1,subM b.2 a.2)):=by
 have c:=Zqo 239 b a (subM b.1 a.1,subM b.2 a.2) h1 h2;have oa:=coOf a;have ob:=coOf b;obtain⟨a1,a2⟩:=a;obtain⟨b1,b2⟩:=b;simp only at *;generalize subM b1 a1=x at *;generalize subM b2 a2=y at *;refine pI func169 rfl ntmps169 results169 call169 ?_;(focus (refine wkld w_t (w_3 oa ob c) w_t (w_1 (w_d 1 [(1,coA (b1,b2)),(3,coA (a1,a2)),(4,coA (x,y))] [] [4])) ?_;(repeat' first|exact w_t|apply w_l);all_goals intros))
theorem ZA4 (K4 g4:Nat) (k:Int) (nm:ByteArray) (ar:List Int) (q:Rat) (p r:Po) (c:Pure prog 174 [poA p,ratQ q] (poA r)) :
 RdC prog [(K4,.box g4 81 [iv k,strA nm,ivs ar,.v (.bool (decide (q.num < 0))),lim (toL q.num.natAbs),lim (toL q.den)] false)] 173 [poA p,.pbox K4 g4 0] (poA r):=by
 intro σ hL;have m4:=Zay hL.1;simp only [Ent.sh,AV.shL,AV.sh] at m4;refine Zbc func173 rfl ntmps173 results173 call173 zr zs ?_;(focus (refine wkap (w_1 m4) (w_1 c) (w_r 0) ?_;(repeat' first|exact w_t|apply w_l);all_goals intros));simp (disch:=omega) only [go_sem];exact Zik (Sub.refl _) ⟨rfl,rfl⟩ (Agr.start σ)
def atL (K3 K4 KB KC KV g3 g4 gB:Nat) (svC svV:Value) (z:AV) (sc:List AV) (cs:List (Po × Po)):List (Nat × Ent) :=
 [(K3,.box g3 143 [.pbox KB gB 0] false),(K4,.box g4 81 sc false),(KB,.box gB 145 [.own KC svC,.own KV svV,z] false),(KC,.row svC 150 2 (cs.map coA) 0)]
theorem ZBc (K3 K4 KB KC KV g3 g4 gB:Nat) (svC svV:Value) (z:AV) (sc:List AV) (cs:List (Po × Po)):atL K3 K4 KB KC KV g3 g4 gB svC svV z sc cs =
 [(K3,.box g3 143 [.pbox KB gB 0] false),(K4,.box g4 81 sc false),(KB,.box gB 145 [.own KC svC,.own KV svV,z] false),(KC,.row svC 150 2 (cs.map coA) 0)]:=rfl
theorem cbAt (K3 K4 KB KC KV g3 g4 gB:Nat) (svC svV:Value) (fr:Nat) (k0:Int) (nm:ByteArray) (ar:List Int) (x y w:AV) (cs:List (Po × Po)) (k:Nat) (hx:x.sh=x∧y.sh=y∧w.sh=w) (hk:k < ar.length) (h0:0≤gI ar k∧gI ar k < (cs.length:Int)) :
 RdC prog (atL K3 K4 KB KC KV g3 g4 gB svC svV (iv fr) [iv k0,strA nm,ivs ar,x,y,w] cs) 167 [iv k,.pbox K3 g3 0,.pbox K4 g4 0] (coA (cs.getD (gI ar k).toNat ([],[]))):=by
 intro σ hL;simp only [atL,Zif,Zjj] at hL;obtain⟨h3,h4,hB,hC,-⟩:=hL;have m3:=Zay h3;have m4:=Zay h4;have mB:=Zay hB;have mC:=Zay hC;simp only [Ent.sh,AV.shL,AV.sh,hx.1,hx.2.1,hx.2.2] at m3 m4 mB mC;have hga:(ar.map iv).getD k .u=iv (gI ar k):=by rw [Zam iv hk,Zew hk]
 have hgc:(cs.map coA).getD (gI ar k).toNat .u=coA (cs.getD (gI ar k).toNat ([],[])):=Zqc zo;have hll:(ar.map iv).length=ar.length:=ZB2 ..;have hcl:(cs.map coA).length=cs.length:=ZB2 ..;generalize cs.getD (gI ar k).toNat ([],[])=c at *;generalize gI ar k=a at *;obtain⟨c1,c2⟩:=c;refine Zbc func167 rfl ntmps167 results167 call167 zr zs ?_;(focus (refine wkad (w_10 m3 m4 mB mC hga hgc hll hcl @Zcd @Zcv) w_t (w_1 (w_d 1 [] [] [4])) ?_;(repeat' first|exact w_t|apply w_l);all_goals intros));simp (disch:=omega) only [go_sem];refine Zik (Sub.refl _) ⟨rfl,rfl⟩ ?_
 exact((Agr.start σ).own zo).own zo
theorem ar2 {ar:List Int} {n:Nat} (hl:(ar.length:Int)=2) (h:∀k,k < ar.length→0≤gI ar k∧gI ar k < (n:Int)):∃a b:Nat,ar=[(a:Int),(b:Int)]∧a < n∧b < n:=by
 match ar,hl,h with
 | [x,y],_,h =>
   have h0:=h 0 zs;have h1:=h 1 zs;simp only [gI,ZGh,ZGi] at h0 h1;exact⟨x.toNat,y.toNat,by rw [ZG1 h0.1,ZG1 h1.1],zo,zo⟩
theorem ar3 {ar:List Int} {n:Nat} (hl:(ar.length:Int)=3) (h:∀k,k < ar.length→0≤gI ar k∧gI ar k < (n:Int)):∃a b c:Nat,ar=[(a:Int),(b:Int),(c:Int)]∧a < n∧b < n∧c < n:=by
 match ar,hl,h with
 | [x,y,z],_,h =>
   have h0:=h 0 zs;have h1:=h 1 zs;have h2:=h 2 zs;simp only [gI,ZGh,ZGi] at h0 h1 h2;exact⟨x.toNat,y.toNat,z.toNat,by rw [ZG1 h0.1,ZG1 h1.1,ZG1 h2.1],zo,zo,zo⟩
def wOf (w:List Int) (s:RS):Int :=
 if s.k=2 then gI w (gI s.ar 0).toNat+gI w (gI s.ar 1).toNat
 else if s.k=3∨s.k=4 then gI w (gI s.ar 0).toNat+gI w (gI s.ar 1).toNat+gI w (gI s.ar 2).toNat
 else if s.k=5 then 2*gI w (gI s.ar 0).toNat+gI w (gI s.ar 1).toNat
 else 1
def wts (ss:List RS):Nat→List Int
 | 0=>[]
 | i+1=>wts ss i++[wOf (wts ss i) (ss.getD i RS.zero)]
theorem Zkt (ss:List RS):∀i,(wts ss i).length=i
 | 0=>rfl
 | i+1=>by show(wts ss i++[_]).length=i+1;rw [ZCr,Zkt ss i];rfl
theorem gI_app (l:List Int) (x:Int) (n:Nat):gI (l++[x]) n=if n < l.length then gI l n else if n=l.length then x else 0:=by
 split
 ·rename_i h;rw [Zew (by simp;omega),Zew h,List.getElem_append_left h]
 ·split
  ·rename_i h1 h2;subst h2;rw [Zew zs];simp
  ·rw [Zcw (by simp;omega)]
theorem Zmf (ss:List RS):∀i n,0≤gI (wts ss i) n∧gI (wts ss i) n≤((3 ^ i:Nat):Int)
 | 0,n=>by rw [Zcw (ZB5 _)];omega
 | i+1,n=>by
   show 0≤gI (wts ss i++[_]) n∧gI (wts ss i++[_]) n≤_;have hp:(3 ^ (i+1):Nat)=3*3 ^ i:=by rw [ZC5,ZCy]
   have hq:1≤3 ^ i:=Nat.one_le_pow _ _ zo;rw [gI_app,hp];have h0:=Zmf ss i n;have h1:=Zmf ss i (gI (ss.getD i RS.zero).ar 0).toNat;have h2:=Zmf ss i (gI (ss.getD i RS.zero).ar 1).toNat;have h3:=Zmf ss i (gI (ss.getD i RS.zero).ar 2).toNat;unfold wOf;generalize (3 ^ i:Nat)=z at *;split
   ·omega
   ·split
    ·split
     ·omega
     ·split
      ·omega
      ·split<;>omega
    ·omega
def Zw7 (ss:List RS) (gs:List RG):Bool :=
 (wts ss ss.length).all (λw=>decide (w≤8)) && gs.all λg=>!(decide (g.k=6) || decide (g.k=7)) || g.ar.all λa=>decide (gI (wts ss ss.length) a.toNat≤3)
def rat2 (r:RQ):Bool:=decide (r.l.length≤2) && decide (r.d.length≤2)
def fewB (ss:List RS) (gs:List RG):Bool :=
 decide (ss.length≤8) && (decide (gs.length≤3) && (decide (figE ss gs=0) && (Zw7 ss gs && (ss.all (λs=>rat2 s.r) && gs.all λg=>rat2 g.r))))
def fitS (s:RS):Bool:=!(decide (2 < s.r.l.length) || decide (2 < s.r.d.length) || decide (8 < s.ar.length))
def fitsB (ss:List RS) (gs:List RG):Bool:=ss.all fitS && (decide (nfN ss ss.length≤12) && (decide (ss.length≤42) && decide (gs.length≤10)))
theorem Zqt {α:Type} {p:α→Bool} {l:List α} {i:Nat} (h:i < l.length) (hp:p l[i]=false):l.all p=false:=by
 rw [Bool.eq_false_iff];intro ha;rw [ZEu] at ha;rw [ha _ (ZB7 h)] at hp;cases hp
theorem all_of {α:Type} {p:α→Bool} {l:List α} (h:∀j (hj:j < l.length),p l[j]=true):l.all p=true:=by
 rw [ZEu];intro x hx;obtain⟨j,hj,rfl⟩:=List.mem_iff_getElem.1 hx;exact h j hj
theorem wts_at {ss:List RS} {i a:Nat} (h:a < i):((wts ss i).map iv).getD a .u=iv (gI (wts ss i) a):=by
 rw [Zam iv (by rw [Zkt];exact h),Zew (by rw [Zkt];exact h)]
theorem wts_succ {ss:List RS} {i:Nat} (hi:i < ss.length):(wts ss (i+1)).map iv=(wts ss i).map iv++[iv (wOf (wts ss i) ss[i])]:=by
 show(wts ss i++[_]).map iv=_;rw [ZCp,show ss.getD i RS.zero=ss[i] from by rw [ZCb,ZB6 hi];rfl];rfl
theorem Zx2 (ss:List RS) (gs:List RG) (hl:ss.length≤8) (he:∀i,i < ss.length→errS ss i=0):Pure prog 208 [figA ss gs] (ivs (wts ss ss.length)):=by
 have hg:∀i (h:i < ss.length),(ss.map RS.av).getD i .u=ss[i].av:=λi h=>Zam RS.av h;have hls:(ss.map RS.av).length=ss.length:=ZB2 ..;have hok:∀i (h:i < ss.length),(ss[i].ar.length:Int)=arS ss[i].k∧∀k,k < ss[i].ar.length→0≤gI ss[i].ar k∧gI ss[i].ar k < (i:Int):=λi h=>⟨(Zjl h (he i h)).2.1,(Zjl h (he i h)).2.2.1⟩;have hws:∀i (h:i < ss.length),(wts ss (i+1)).map iv=(wts ss i).map iv++[iv (wOf (wts ss i) ss[i])]:=λi h=>wts_succ h;have hwl:∀i,((wts ss i).map iv).length=i:=λi=>by rw [ZB2,Zkt]
 have hbd:∀i n,i≤8→0≤gI (wts ss i) n∧gI (wts ss i) n≤6561:=λi n h=>by
  have:=Zmf ss i n;have h3:(3 ^ i:Nat)≤3 ^ 8:=ZDk zo h;omega
 show Pure _ _ [.agg [.sl 6 (ss.map RS.av),.sl 5 (gs.map RG.av)]] (.sl 1 ((wts ss ss.length).map iv));generalize ss.map RS.av=M at *;generalize gs.map RG.av=N at *;refine pI func208 rfl ntmps208 results208 call208 ?_
 (refine wkad (w_1 hls) w_t w_t (w_s ?_);intros)
 rename_i g1;refine Zfb (Frz.nilOwn (d:=3) 83 1 3 (gC)) ?_;refine Zad (ι:=Nat) (λi e m=>i≤ss.length∧e 1=.pbox 1 g1 0∧m 1=some (.box g1 42 [.sl 6 M,.sl 5 N] false)∧e 4=iv i∧∃sv,e 3=.own 83 sv∧m 83=some (.row sv 3 1 ((wts ss i).map iv) 0)) (λi=>ss.length - i) 0 zr ?_ ?_
 ·rintro i e m ⟨hi,e1,m1,e4,sv,e3,m83⟩
  by_cases hlt:i < ss.length
  ·have hgi:=hg i hlt;obtain⟨ha,hr⟩:=hok i hlt;have hwi:=hwl i;have hn:=hws i hlt;have hx:=λa (h:a < i)=>wts_at (ss:=ss) h;have hb:=λn=>hbd i n zo;clear hg hok hws hwl hbd;generalize wts ss i=w at *;generalize ss[i]=s at *;obtain⟨k,nm,ar,⟨rs,rl,rd⟩⟩:=s;unfold wOf at hn;unfold arS at ha;simp only at *;generalize w.map iv=W at *;by_cases k2:k=2
   ·subst k2;obtain⟨a,b,rfl,h1,h2⟩:=ar2 (by simpa using ha) hr;have b1:=hb a;have b2:=hb b;have x1:=hx a h1;have x2:=hx b h2;simp only [ZBv,gI,ZGh,ZGi,ZEk] at hn x1 x2 b1 b2;generalize w.getD a 0=x at *;generalize w.getD b 0=y at *;clear hb hx hr ha
    (refine wkad (w_10 e1 m1 e4 e3 m83 hls hgi hwi x1 x2) w_t w_t (w_s ?_);intros)
    exact⟨i+1,⟨zo,gW e1,gW m1,gS,_,gC,by rw [hn];exact gC⟩,zo⟩
   ·by_cases k34:k=3∨k=4
    ·obtain⟨a,b,c,rfl,h1,h2,h3⟩:=ar3 (by rcases k34 with rfl | rfl<;>simpa using ha) hr;have b1:=hb a;have b2:=hb b;have b3:=hb c;have x1:=hx a h1;have x2:=hx b h2;have x3:=hx c h3;rw [ZBu k2,ZBv k34] at hn;simp only [gI,ZGh,ZGi,ZEk] at hn x1 x2 x3 b1 b2 b3;generalize w.getD a 0=x at *;generalize w.getD b 0=y at *;generalize w.getD c 0=z at *;clear hb hx hr ha k2;rcases k34 with rfl | rfl
     all_goals
      (refine wkad (w_11 e1 m1 e4 e3 m83 hls hgi hwi x1 x2 x3) w_t w_t (w_s ?_);intros)
      exact⟨i+1,⟨zo,gW e1,gW m1,gS,_,gC,by rw [hn];exact gC⟩,zo⟩
    ·rw [ZBu k2,ZBu k34] at hn;by_cases k5:k=5
     ·subst k5;obtain⟨a,b,rfl,h1,h2⟩:=ar2 (by simpa using ha) hr;have b1:=hb a;have b2:=hb b;have x1:=hx a h1;have x2:=hx b h2;simp only [ZBv,gI,ZGh,ZGi,ZEk] at hn x1 x2 b1 b2;generalize w.getD a 0=x at *;generalize w.getD b 0=y at *;clear hb hx hr ha k2 k34
      (refine wkad (w_10 e1 m1 e4 e3 m83 hls hgi hwi x1 x2) w_t w_t (w_s ?_);intros)
      exact⟨i+1,⟨zo,gW e1,gW m1,gS,_,gC,by rw [hn];exact gC⟩,zo⟩
     ·have k3:¬k=3:=λh=>k34 (.inl h);have k4:¬k=4:=λh=>k34 (.inr h);rw [ZBu k5] at hn;clear hb hx hr ha k34
      (refine wkad (w_8 e1 m1 e4 e3 m83 hls hgi hwi) w_t w_t (w_s ?_);intros)
      exact⟨i+1,⟨zo,gW e1,gW m1,gS,_,gC,by rw [hn];exact gC⟩,zo⟩
  ·have hin:i=ss.length:=zo;subst hin;clear hws hg hok hbd;have hwi:=hwl ss.length;generalize (wts ss ss.length).map iv=W at *;exact wkld (w_7 e1 m1 e4 e3 m83 hls hwi) w_t (w_1 m83) w_t w_z
 ·exact⟨ZB5 _,gC,gC,gC,_,gC,by(simp (disch:=omega) only [go_sem,wts,ZDv]<;>repeat' first|rfl|refine⟨?_,?_⟩)⟩
def Zj9 (w:List Int) (g:RG):Bool:=!(decide (g.k=6) || decide (g.k=7)) || g.ar.all λa=>decide (gI w a.toNat≤3)
theorem Zi8 {α:Type} {p:α→Bool} {l:List α} (h:∀j (hj:j < l.length),p l[j]=true):l.all p=true:=all_of h
theorem rlThin (ss:List RS) (gs:List RG) (hl:ss.length≤8) (hlg:gs.length≤1000) (he:∀i,i < ss.length→errS ss i=0) (heg:∀g∈gs,g.ar.length≤100∧∀k,k < g.ar.length→0≤gI g.ar k∧gI g.ar k < (ss.length:Int)):Pure prog 142 [figA ss gs] (.v (.bool (Zw7 ss gs))):=by
 have cw:Pure prog 208 [.agg [.sl 6 (ss.map RS.av),.sl 5 (gs.map RG.av)]] (.sl 1 ((wts ss ss.length).map iv)):=Zx2 ss gs hl he;have hlen:=Zkt ss ss.length;have hbd:∀n,0≤gI (wts ss ss.length) n∧gI (wts ss ss.length) n≤6561:=λn=>by
  have:=Zmf ss ss.length n;have h3:(3 ^ ss.length:Nat)≤3 ^ 8:=ZDk zo hl;omega
 have hg:∀i (h:i < gs.length),(gs.map RG.av).getD i .u=gs[i].av:=λi h=>Zam RG.av h;have hlm:(gs.map RG.av).length=gs.length:=ZB2 ..;show Pure _ _ [.agg [.sl 6 (ss.map RS.av),.sl 5 (gs.map RG.av)]] _;have hT:Zw7 ss gs=((wts ss ss.length).all (λw=>decide (w≤8)) && gs.all (Zj9 (wts ss ss.length))):=rfl;rw [hT];have hx:∀a,a < ss.length→((wts ss ss.length).map iv).getD a .u=iv (gI (wts ss ss.length) a):=λa h=>wts_at h;clear hT;generalize ss.map RS.av=M at *;generalize gs.map RG.av=N at *;generalize wts ss ss.length=w at *;generalize ss.length=n at *;have hwl:(w.map iv).length=n:=by rw [ZB2,hlen]
 generalize hW:w.map iv=W at *;refine pI func142 rfl ntmps142 results142 call142 ?_
 (refine wkap w_t (w_1 cw) (w_r 0) (w_s ?_);intros)
 rename_i g1;refine Zad (ι:=Nat) (λi e m=>i≤n∧e 1=.pbox 1 g1 0∧m 1=some (.box g1 42 [.sl 6 M,.sl 5 N] false)∧e 3=.sl 1 W∧e 4=iv i∧∀j,j < i→gI w j≤8) (λi=>n - i) 0 zr ?_ ?_
 ·rintro i e m ⟨hi,e1,m1,e3,e4,hj⟩
  by_cases hlt:i < n
  ·have x1:=hx i hlt;have b1:=hbd i;have hgw:gI w i=w[i]'zo:=Zew zo;by_cases h8:8 < gI w i
   ·have:(w.all λw=>decide (w≤8))=false:=Zqt (i:=i) zo (by rw [←hgw];simpa using h8);rw [this,ZCz];generalize gI w i=x at *;exact wklp (w_6 e1 m1 e3 e4 hwl x1) w_t w_t (w_r 0) w_z
   ·have hnx:∀j,j < i+1→gI w j≤8:=λj hjj=>by
     by_cases e:j=i
     ·rw [e];omega
     ·exact hj j zo
    clear hj hgw;generalize gI w i=x at *
    (refine wkap (w_6 e1 m1 e3 e4 hwl x1) w_t (w_r 0) (w_s ?_);intros)
    exact⟨i+1,⟨zo,gW e1,gW m1,gW e3,gS,hnx⟩,zo⟩
  ·have hin:n=i:=zo;subst hin;have:(w.all λw=>decide (w≤8))=true:=Zi8 λj hjj=>by have:=hj j zo;rw [Zew hjj] at this;simpa using this
   rw [this,ZDn];clear hj
   (refine wkap (w_5 e1 m1 e3 e4 hwl) w_t (w_r 0) (w_s ?_);intros)
   refine Zad (ι:=Nat) (λi e m=>i≤gs.length∧e 1=.pbox 1 g1 0∧m 1=some (.box g1 42 [.sl 6 M,.sl 5 N] false)∧e 3=.sl 1 W∧e 5=iv i∧∀j (hj:j < gs.length),j < i→Zj9 w gs[j]=true) (λi=>gs.length - i) 0 zr ?_ ?_
   ·rintro i e m ⟨hi,e1,m1,e3,e5,hj⟩
    by_cases hlt:i < gs.length
    ·have hgi:=hg i hlt;obtain⟨ha,hr⟩:=heg _ (ZB7 hlt);have hno:Zj9 w gs[i]=false→gs.all (Zj9 w)=false:=λh=>Zqt hlt h;have hnx:Zj9 w gs[i]=true→∀j (hj:j < gs.length),j < i+1→Zj9 w gs[j]=true:=λh j hjj h2=>by
      by_cases e:j=i
      ·subst e;exact h
      ·exact hj j hjj zo
     clear hj hg heg;generalize gs.all (Zj9 w)=v at *;generalize gs[i]=g at *;obtain⟨k,ar,⟨rs,rl,rd⟩⟩:=g;simp only at *;have hla:(ar.map iv).length=ar.length:=ZB2 ..;have hga:∀j (h:j < ar.length),(ar.map iv).getD j .u=iv ar[j]:=λj h=>Zam iv h
     (refine wkap (w_6 e1 m1 e3 e5 hlm hgi) w_t (w_r 0) (w_s ?_);intros)
     rename_i g6;refine Zad (ι:=Nat) (λy e m=>y≤ar.length∧e 1=.pbox 1 g1 0∧m 1=some (.box g1 42 [.sl 6 M,.sl 5 N] false)∧e 3=.sl 1 W∧e 5=iv i∧e 6=.pbox 6 g6 0∧m 6=some (.box g6 30 [iv k,ivs ar,.v (.bool rs),lim rl,lim rd] false)∧e 7=iv y∧((k=6∨k=7)→∀j (hj:j < ar.length),j < y→gI w ar[j].toNat≤3)) (λy=>ar.length - y) 0 zr ?_ ?_
     ·rintro y e m ⟨hy,e1,m1,e3,e5,e6,m6,e7,hq⟩
      by_cases hly:y < ar.length
      ·have hgy:=hga y hly;have hry:=hr y hly;rw [Zew hly] at hry;obtain⟨a,hae⟩:∃a:Nat,ar[y]=a:=⟨ar[y].toNat,zo⟩;have han:a < n:=zo;have hxa:=hx a han;have hba:=hbd a;rw [hae] at hgy;by_cases hk:k=6∨k=7
       ·by_cases h3:3 < gI w a
        ·have:Zj9 w ⟨k,ar,⟨rs,rl,rd⟩⟩=false:=by
          unfold Zj9;have h1:(decide (k=6) || decide (k=7))=true:=by simpa using hk
          have h2:(ar.all λa=>decide (gI w a.toNat≤3))=false:=Zqt hly (by rw [hae,ZEk];simpa using h3);simp only [h1,h2];rfl
         rw [hno this];clear hq hno hnx hga hr hx hbd this;generalize gI w a=x at *;rcases hk with rfl | rfl
         all_goals
          exact wklp (w_11 e1 m1 e3 e5 e6 m6 e7 hla hgy hwl hxa) w_t w_t (w_r 0) w_z
        ·have hq2:∀j (hj:j < ar.length),j < y+1→gI w ar[j].toNat≤3:=λj hjj h2=>by
          by_cases e:j=y
          ·subst e;rw [hae,ZEk];omega
          ·exact hq hk j hjj zo
         clear hq hno hnx hga hr hx hbd;generalize gI w a=x at *;rcases hk with rfl | rfl
         all_goals
          (refine wkap (w_11 e1 m1 e3 e5 e6 m6 e7 hla hgy hwl hxa) w_t (w_r 0) (w_s ?_);intros)
          exact⟨y+1,⟨zo,gW e1,gW m1,gW e3,gW e5,gW e6,gW m6,gS,λ_=>hq2⟩,zo⟩
       ·have k6:¬k=6:=λh=>hk (.inl h);have k7:¬k=7:=λh=>hk (.inr h);clear hq hno hnx hga hr hx hbd
        (refine wkap (w_8 e1 m1 e3 e5 e6 m6 e7 hla) w_t (w_r 0) (w_s ?_);intros)
        exact⟨y+1,⟨zo,gW e1,gW m1,gW e3,gW e5,gW e6,gW m6,gS,λh=>absurd h hk⟩,zo⟩
      ·have:Zj9 w ⟨k,ar,⟨rs,rl,rd⟩⟩=true:=by
        unfold Zj9;by_cases hk:k=6∨k=7
        ·have h2:(ar.all λa=>decide (gI w a.toNat≤3))=true:=Zi8 λj hjj=>by have:=hq hk j hjj zo;simpa using this
         simp only [h2,Bool.or_true]
        ·have h1:(decide (k=6) || decide (k=7))=false:=by simpa using hk
         simp only [h1];rfl
       have:=hnx this;clear hq hno hnx hga hr hx hbd
       (refine wkap (w_8 e1 m1 e3 e5 e6 m6 e7 hla) w_t (w_r 0) (w_s ?_);intros)
       exact⟨i+1,⟨zo,gW e1,gW m1,gW e3,gS,this⟩,zo⟩
     ·exact⟨ZB5 _,gW e1,gW m1,gW e3,gW e5,gC,gC,gC,λ_ j _ h=>zo⟩
    ·have:gs.all (Zj9 w)=true:=Zi8 λj hjj=>hj j hjj zo;rw [this];clear hj hg heg hx hbd;exact wklp (w_5 e1 m1 e3 e5 hlm) w_t w_t (w_r 0) w_z
   ·exact⟨ZB5 _,gW e1,gW m1,gW e3,gC,λj _ h=>zo⟩
 ·exact⟨ZB5 _,gC,gC,gC,gC,λj h=>zo⟩
theorem arG_le (k:Int):arG k≤8:=by
 unfold arG
 repeat' split
 all_goals omega
theorem Zwh {ss:List RS} {gs:List RG} (h:figE ss gs=0):∀g∈gs,g.ar.length≤100∧∀k,k < g.ar.length→0≤gI g.ar k∧gI g.ar k < (ss.length:Int):=λg hg=>by
 unfold figE at h;split at h
 ·omega
 ·split at h
  ·rename_i h2;exact absurd h h2
  ·obtain⟨j,hj,rfl⟩:=List.mem_iff_getElem.1 hg;have h1:=Zoa h j hj;rw [show gs.getD j ⟨0,[],⟨false,[],[]⟩⟩=gs[j] from by rw [ZCb,ZB6 hj];rfl] at h1;have hle:=arG_le gs[j].k;generalize gs[j]=g at *;unfold errG at h1;split at h1
   ·omega
   ·split at h1
    ·omega
    ·split at h1
     ·omega
     ·rename_i h2 h3 h4;exact⟨zo,λk hk=>Zrv (by simpa using h4) hk⟩
theorem Zmy {ss:List RS} {gs:List RG} (h:figE ss gs=0):∀i,i < ss.length→errS ss i=0:=by
 unfold figE at h;split at h
 ·omega
 ·split at h
  ·rename_i h2;exact absurd h h2
  ·rename_i h2;exact Zoa (Decidable.byContradiction λh3=>h2 h3)
theorem rlFew (ss:List RS) (gs:List RG) (cR:Pure prog 141 [figA ss gs] (iv (figE ss gs))):Pure prog 84 [figA ss gs] (.v (.bool (fewB ss gs))):=by
 have cR:Pure prog 141 [.agg [.sl 6 (ss.map RS.av),.sl 5 (gs.map RG.av)]] (iv (figE ss gs)):=cR;have hls:(ss.map RS.av).length=ss.length:=ZB2 ..;have hlg:(gs.map RG.av).length=gs.length:=ZB2 ..;have hgS:∀i (h:i < ss.length),(ss.map RS.av).getD i .u=ss[i].av:=λi h=>Zam RS.av h;have hgG:∀i (h:i < gs.length),(gs.map RG.av).getD i .u=gs[i].av:=λi h=>Zam RG.av h;have cT:ss.length≤8→gs.length≤3→figE ss gs=0→Pure prog 142 [.agg [.sl 6 (ss.map RS.av),.sl 5 (gs.map RG.av)]] (.v (.bool (Zw7 ss gs))):=λa b h=>rlThin ss gs a zo (Zmy h) (Zwh h);show Pure _ _ [.agg [.sl 6 (ss.map RS.av),.sl 5 (gs.map RG.av)]] _
 unfold fewB;have noS:∀i (h:i < ss.length),rat2 ss[i].r=false→(ss.all λs=>rat2 s.r)=false:=λi h e=>Zqt h e;have noG:∀i (h:i < gs.length),rat2 gs[i].r=false→(gs.all λs=>rat2 s.r)=false:=λi h e=>Zqt h e;have yeS:(∀i (h:i < ss.length),rat2 ss[i].r=true)→(ss.all λs=>rat2 s.r)=true:=λe=>Zi8 e;have yeG:(∀i (h:i < gs.length),rat2 gs[i].r=true)→(gs.all λs=>rat2 s.r)=true:=λe=>Zi8 e;generalize (ss.all λs=>rat2 s.r)=vS at *;generalize (gs.all λs=>rat2 s.r)=vG at *;generalize Zw7 ss gs=vT at *;generalize figE ss gs=z at *;generalize ss.map RS.av=M at *;generalize gs.map RG.av=N at *;by_cases h8:ss.length≤8
 ·by_cases h3:gs.length≤3
  ·rw [ZB4 h8,ZB4 h3,ZDn,ZDn];by_cases hz:z=0
   ·subst hz;have cT:=cT h8 h3 rfl;rw [ZB4 rfl,ZDn]
    cases vT with
    | false =>
      rw [ZCz];refine pI func84 rfl ntmps84 results84 call84 ?_;exact wklp (w_2 hls hlg) (w_2 cR cT) w_t (w_r 0) w_z
    | true =>
      rw [ZDn];refine pI func84 rfl ntmps84 results84 call84 ?_
      (refine wkap (w_2 hls hlg) (w_2 cR cT) (w_r 0) (w_s ?_);intros)
      rename_i g1;clear cR cT;refine Zad (ι:=Nat) (λi e m=>i≤ss.length∧e 1=.pbox 1 g1 0∧m 1=some (.box g1 42 [.sl 6 M,.sl 5 N] false)∧e 3=iv i∧∀j (h:j < ss.length),j < i→rat2 ss[j].r=true) (λi=>ss.length - i) 0 zr ?_ ?_
      ·rintro i e m ⟨hi,e1,m1,e3,hj⟩
       by_cases hlt:i < ss.length
       ·have hg:=hgS i hlt;have no:=noS i hlt;have nx:rat2 ss[i].r=true→∀j (h:j < ss.length),j < i+1→rat2 ss[j].r=true:=λh j hjj h2=>by
         by_cases e:j=i
         ·subst e;exact h
         ·exact hj j hjj zo
        clear hj noS yeS hgS hgG noG yeG;unfold rat2 at no nx;generalize ss[i]=s at *;obtain⟨k,nm,ar,⟨rs,rl,rd⟩⟩:=s;simp only at *;by_cases a1:rl.length≤2∧rd.length≤2
        ·have:=nx (by simp [a1.1,a1.2]);obtain⟨a1,a2⟩:=a1;clear nx no
         (refine wkap (w_6 e1 m1 e3 hls hg @Za5) w_t (w_r 0) (w_s ?_);intros)
         exact⟨i+1,⟨zo,gW e1,gW m1,gS,this⟩,zo⟩
        ·rw [no (by simp only [Bool.and_eq_false_iff,ZEx];omega),ZCz];clear nx no;(focus (refine wkap (w_6 e1 m1 e3 hls hg @Za5) w_t (w_r 0) ?_;(repeat' first|exact w_t|apply w_l);all_goals intros));all_goals first|((all_goals (try simp (disch:=omega) only [go_sem,ZB4,ZB3,ZBv,ZBu,Int.reduceAdd,Int.reduceSub,Int.reduceToNat,ZB9]));(all_goals first|done|rfl|(congr 2;first|done|omega|(rw [ZCk];simp only [bool_to_prop,ZB8,ZCt,ZCu,ZCv,ZCw];omega))|skip))|omega
       ·rw [yeS λj h=>hj j h zo,ZDn];clear hj noS yeS hgS
        (refine wkap (w_4 e1 m1 e3 hls) w_t (w_r 0) (w_s ?_);intros)
        refine Zad (ι:=Nat) (λi e m=>i≤gs.length∧e 1=.pbox 1 g1 0∧m 1=some (.box g1 42 [.sl 6 M,.sl 5 N] false)∧e 4=iv i∧∀j (h:j < gs.length),j < i→rat2 gs[j].r=true) (λi=>gs.length - i) 0 zr ?_ ?_
        ·rintro i e m ⟨hi,e1,m1,e4,hj⟩
         by_cases hlt:i < gs.length
         ·have hg:=hgG i hlt;have no:=noG i hlt;have nx:rat2 gs[i].r=true→∀j (h:j < gs.length),j < i+1→rat2 gs[j].r=true:=λh j hjj h2=>by
           by_cases e:j=i
           ·subst e;exact h
           ·exact hj j hjj zo
          clear hj hgG noG yeG;unfold rat2 at no nx;generalize gs[i]=s at *;obtain⟨k,ar,⟨rs,rl,rd⟩⟩:=s;simp only at *;by_cases a1:rl.length≤2∧rd.length≤2
          ·have:=nx (by simp [a1.1,a1.2]);obtain⟨a1,a2⟩:=a1;clear nx no
           (refine wkap (w_6 e1 m1 e4 hlg hg @Za5) w_t (w_r 0) (w_s ?_);intros)
           exact⟨i+1,⟨zo,gW e1,gW m1,gS,this⟩,zo⟩
          ·rw [no (by simp only [Bool.and_eq_false_iff,ZEx];omega)];clear nx no;(focus (refine wkap (w_6 e1 m1 e4 hlg hg @Za5) w_t (w_r 0) ?_;(repeat' first|exact w_t|apply w_l);all_goals intros));all_goals first|((all_goals (try simp (disch:=omega) only [go_sem,ZB4,ZB3,ZBv,ZBu,Int.reduceAdd,Int.reduceSub,Int.reduceToNat,ZB9]));(all_goals first|done|rfl|(congr 2;first|done|omega|(rw [ZCk];simp only [bool_to_prop,ZB8,ZCt,ZCu,ZCv,ZCw];omega))|skip))|omega
         ·rw [yeG λj h=>hj j h zo];clear hj hgG noG yeG;exact wklp (w_4 e1 m1 e4 hlg) w_t w_t (w_r 0) w_z
        ·exact⟨ZB5 _,gW e1,gW m1,gC,λj h h2=>zo⟩
      ·exact⟨ZB5 _,gC,gC,gC,λj h h2=>zo⟩
   ·rw [ZB3 hz,ZCz];clear cT;refine pI func84 rfl ntmps84 results84 call84 ?_;exact wklp (w_3 hls hlg hz) (w_1 cR) w_t (w_r 0) w_z
  ·rw [ZB4 h8,ZB3 h3,ZDn,ZCz];clear cT;refine pI func84 rfl ntmps84 results84 call84 ?_;exact wklp (w_2 hls hlg) (w_1 cR) w_t (w_r 0) w_z
 ·rw [ZB3 h8,ZCz];clear cT;refine pI func84 rfl ntmps84 results84 call84 ?_;exact wklp (w_2 hls hlg) (w_1 cR) w_t (w_r 0) w_z
theorem cbAlongS (K3 K4 K7 KB KC KV g3 g4 g7 gB:Nat) (svC svV:Value) (fr:Nat) (k0:Int) (nm:ByteArray) (ar:List Int) (q:Rat) (cs:List (Po × Po)) (a b x r:Po × Po) (hk:2≤ar.length) (h0:0≤gI ar 0∧gI ar 0 < (cs.length:Int)) (h1:0≤gI ar 1∧gI ar 1 < (cs.length:Int)) (ha:cs.getD (gI ar 0).toNat ([],[])=a) (hb:cs.getD (gI ar 1).toNat ([],[])=b)
 (s1:Pure prog 239 [poA b.1,poA a.1] (poA (subM b.1 a.1))) (s2:Pure prog 239 [poA b.2,poA a.2] (poA (subM b.2 a.2)))
 (c1:Pure prog 174 [poA (subM b.1 a.1),ratQ q] (poA x.1)) (c2:Pure prog 174 [poA (subM b.2 a.2),ratQ q] (poA x.2))
 (a1:Pure prog 107 [poA a.1,poA x.1] (poA r.1)) (a2:Pure prog 107 [poA a.2,poA x.2] (poA r.2)) :
 RdC prog ((K7,.box g7 198 [.fn 167 [.pbox K3 g3 0,.pbox K4 g4 0]] false) :: atL K3 K4 KB KC KV g3 g4 gB svC svV (iv fr) [iv k0,strA nm,ivs ar,.v (.bool (decide (q.num < 0))),lim (toL q.num.natAbs),lim (toL q.den)] cs) 168 [.fn 173 [.pbox K4 g4 0],.pbox K7 g7 0] (coA r):=by
 intro σ hL;have t0:=cbAt (K3+1000) (K4+1000) (KB+1000) (KC+1000) (KV+1000) g3 g4 gB svC svV fr k0 nm ar (.v (.bool (decide (q.num < 0)))) (lim (toL q.num.natAbs)) (lim (toL q.den)) cs 0 ⟨rfl,rfl,rfl⟩ zo h0;have t1:=cbAt (K3+1000) (K4+1000) (KB+1000) (KC+1000) (KV+1000) g3 g4 gB svC svV fr k0 nm ar (.v (.bool (decide (q.num < 0)))) (lim (toL q.num.natAbs)) (lim (toL q.den)) cs 1 ⟨rfl,rfl,rfl⟩ zo h1;rw [ha] at t0;rw [hb] at t1;have cB:=ZA1 a b s1 s2;have oa:=coOf a;have cC:=Zqo 107 a x r a1 a2;have p1:=ZA4 (K4+1000) g4 k0 nm ar q (subM b.1 a.1) x.1 c1;have p2:=ZA4 (K4+1000) g4 k0 nm ar q (subM b.2 a.2) x.2 c2
 simp only [atL,Zif,Zjj] at hL;obtain⟨h7,h3,h4,hB,hC,-⟩:=hL;have m3:=Zay h3;have m4:=Zay h4;have m7:=Zay h7;have mB:=Zay hB;have mC:=Zay hC
 skip
 simp only [Ent.sh,AV.shL,AV.sh] at m3 m4 m7 mB mC;clear a1 a2 s1 s2 ha hb h0 h1;obtain⟨aa,ab⟩:=a;obtain⟨ba,bb⟩:=b;obtain⟨xa,xb⟩:=x;obtain⟨ra,rb⟩:=r;simp only at *;generalize subM ba aa=da at *;generalize subM bb ab=db at *;refine Zbc func168 rfl ntmps168 results168 call168 zr zs ?_;(focus (refine wkax (w_8 m3 m4 m7 mB mC @Zcd @Zcv @ZBc) (w_3 cB oa cC) (w_2 (w_d 1 [(1,coA (aa,ab)),(3,coA (ba,bb)),(4,coA (da,db))] [] []) (w_d 2 [(1,coA (aa,ab)),(2,coA (aa,ab)),(6,poA xa),(10,poA xb),(12,coA (ra,rb))] [] [3])) w_t w_t (w_4 t0 t1 p1 p2) w_y (w_r 0) ?_;(repeat' first|exact w_t|apply w_l);all_goals intros))
 simp (disch:=omega) only [go_sem];refine Zik (Sub.refl _) ⟨rfl,rfl⟩ ?_
 (repeat' (first|exact Agr.start _|(refine Agr.own ?_ zo)))
theorem PK.sub {p q:Po} {j k e:Nat} (hp:PK p j e) (hq:PK q k e):PK (subM p q) (j+k+1) e:=hp.add hq.neg
theorem PK.scl {p:Po} {j k e:Nat} {a:Rat} (hp:PK p j e) (ha:Sz a k):PK (sclM a p) (j+k) e:=by
 unfold sclM;split
 ·exact .nil
 ·exact hp.scale ha
theorem Zxs {a:Rat} {p:Po} (h:SrtM p):SrtM (sclM a p):=by
 unfold sclM;split
 ·exact .nil
 ·exact Zgu h ‹_›
theorem Zxt (a:Rat) (p:Po):(sclM a p).length≤p.length:=by
 unfold sclM;split
 ·simp
 ·rw [Zk3];exact ZBw _
theorem Zxh (p q:Po):(subM p q).length≤p.length+q.length:=by
 have:=Ze0 (lt:=ltM) p (Zdf (-1) q);rw [Zk3] at this;exact this
structure Co (p:Po):Prop where
 pk:PK p 110 1
 st:SrtM p
 ln:p.length≤4000
structure StOk (cs:List (Po × Po)) (s:RS):Prop where
 k0:0≤arS s.k
 al:(s.ar.length:Int)=arS s.k
 ai:∀k,k < s.ar.length→0≤gI s.ar k∧gI s.ar k < (cs.length:Int)
 r2:s.k=2→s.r.ok=true
 rl:s.r.lm 2
theorem cbStep1 (σ:Mem) (KB KC KV g:Nat) (svC svV:Value) (cs:List (Po × Po)) (vs:List Vt) (fr:Nat) (i:Nat) (s:RS) (hB:σ KB=some (.box g 145 [.own KC svC,.own KV svV,iv fr] false)) (hV:σ KV=some (.row svV 259 3 (vs.map Vt.av) 0)) (hC:σ KC=some (.row svC 150 2 (cs.map coA) 0)) (hBV:KB≠KV) (hBC:KB≠KC) (hVC:KV≠KC) (hl:vs.length≤64) (hf:fr≤100) (hk:s.k=1):ACall prog 103 [.pbox KB g 0,s.av,iv i] σ λr σ'=>∃sv,r=coA (FS.nxt ⟨cs,vs,fr⟩ i s).2 ∧
 σ'=upd (upd σ KV (some (.row sv 259 3 ((vs++(FS.nxt ⟨cs,vs,fr⟩ i s).1).map Vt.av) 0))) KB (some (.box g 145 [.own KC svC,.own KV sv,iv (if s.k=1 then fr+1 else fr:Nat)] false)):=by
 have mB:=Zay hB;have mV:=Zay hV;have mC:=Zay hC;simp only [Ent.sh,AV.shL,AV.sh] at mB mV mC
 have en:FS.nxt ⟨cs,vs,fr⟩ i s=((if fr=0 then [] else if fr=1 then [(1,(i:Int),0)] else [(1,(i:Int),0),(1,(i:Int),1)]),(if fr=0 then ([],[]) else if fr=1 then (varM vs.length,[]) else (varM vs.length,varM (vs.length+1)))):=by
  unfold FS.nxt;simp only;rw [ZBv hk];split
  ·rfl
  ·split<;>rfl
 rw [en];simp only [ZBv hk];generalize hnv:(if fr=0 then [] else if fr=1 then [((1:Int),(i:Int),(0:Int))] else [(1,(i:Int),0),(1,(i:Int),1)])=nv at *;generalize hnc:(if fr=0 then (([]:Po),([]:Po)) else if fr=1 then (varM vs.length,[]) else (varM vs.length,varM (vs.length+1)))=nc at *;obtain⟨k,nm,ar,r,rl,rd⟩:=s;simp only at hk;subst hk;refine Zbc func103 rfl ntmps103 results103 call103 zr zs ?_;(focus (refine wkad (w_4 mB mV mC @Zcd) w_t w_t ?_;(repeat' first|exact w_t|apply w_l);all_goals intros));refine Zg0 ((cbPoint _ (KB+1000) (KC+1000) (KV+1000) g svC svV vs fr i (by(simp (disch:=omega) only [go_sem,mB,mV,ZBu,ZBv]<;>repeat' first|rfl|refine⟨?_,?_⟩)) (by(simp (disch:=omega) only [go_sem,mB,mV,ZBu,ZBv]<;>repeat' first|rfl|refine⟨?_,?_⟩)) zo zo zo)) ?_
 rw [hnv,hnc];intro sv1;obtain⟨n1,n2⟩:=nc;(focus (refine wkad (w_4 mB mV mC @Zcd) w_t w_t ?_;(repeat' first|exact w_t|apply w_l);all_goals intros));simp (disch:=omega) only [go_sem];refine Zik (Sub.refl _) ⟨sv1,rfl,rfl⟩ ?_;intro k;by_cases hk1:k=KB
 ·rw [hk1];simp (disch:=omega) only [Zan,ZBv,ZBu,ZC9,Ent.sh,AV.shL,AV.sh]
  try rfl
 ·by_cases hk2:k=KV
  ·rw [hk2];simp (disch:=omega) only [Zan,ZBv,ZBu,ZC9,Ent.sh,AV.shL,AV.sh]
   try rfl
  ·simp (disch:=omega) only [Zan,ZBu];exact Agr.start σ k
theorem cbStep2 (σ:Mem) (KB KC KV g:Nat) (svC svV:Value) (cs:List (Po × Po)) (vs:List Vt) (fr:Nat) (i:Nat) (s:RS) (hB:σ KB=some (.box g 145 [.own KC svC,.own KV svV,iv fr] false)) (hV:σ KV=some (.row svV 259 3 (vs.map Vt.av) 0)) (hC:σ KC=some (.row svC 150 2 (cs.map coA) 0)) (hBV:KB≠KV) (hBC:KB≠KC) (hVC:KV≠KC) (hl:vs.length≤64) (hf:fr≤100) (hok:StOk cs s) (hco:∀c∈cs,Co c.1∧Co c.2) (hk:s.k=2):ACall prog 103 [.pbox KB g 0,s.av,iv i] σ λr σ'=>∃sv,r=coA (FS.nxt ⟨cs,vs,fr⟩ i s).2 ∧
 σ'=upd (upd σ KV (some (.row sv 259 3 ((vs++(FS.nxt ⟨cs,vs,fr⟩ i s).1).map Vt.av) 0))) KB (some (.box g 145 [.own KC svC,.own KV sv,iv (if s.k=1 then fr+1 else fr:Nat)] false)):=by
 have mB:=Zay hB;have mV:=Zay hV;have mC:=Zay hC;simp only [Ent.sh,AV.shL,AV.sh] at mB mV mC;have har:arS s.k=2:=by rw [hk];rfl
 have hal:=hok.al;have h0:=hok.ai 0 zo;obtain⟨a1,a2⟩:Co (cs.getD (gI s.ar 0).toNat ([],[])).1∧Co (cs.getD (gI s.ar 0).toNat ([],[])).2:=hco _ (Zkk zo);have h1:=hok.ai 1 zo;obtain⟨b1,b2⟩:Co (cs.getD (gI s.ar 1).toNat ([],[])).1∧Co (cs.getD (gI s.ar 1).toNat ([],[])).2:=hco _ (Zkk zo)
 have en:FS.nxt ⟨cs,vs,fr⟩ i s=([],(addM (cs.getD (gI s.ar 0).toNat ([],[])).1 (sclM s.r.q (subM (cs.getD (gI s.ar 1).toNat ([],[])).1 (cs.getD (gI s.ar 0).toNat ([],[])).1)),addM (cs.getD (gI s.ar 0).toNat ([],[])).2 (sclM s.r.q (subM (cs.getD (gI s.ar 1).toNat ([],[])).2 (cs.getD (gI s.ar 0).toNat ([],[])).2)))):=by
  unfold FS.nxt;simp only [hk];rfl
 rw [en];simp only [ZBu (show ¬s.k=1 by omega)];clear en;generalize ha:cs.getD (gI s.ar 0).toNat ([],[])=a at *;generalize hb:cs.getD (gI s.ar 1).toNat ([],[])=b at *;have ro:=hok.r2 hk;have zr:=(RQ.ok_av hok.rl ro).2;have s1:=poSub b.1 a.1 b1.pk a1.pk b1.st a1.st (by have:=b1.ln;omega) (by have:=a1.ln;omega) zo zo zo;have s2:=poSub b.2 a.2 b2.pk a2.pk b2.st a2.st (by have:=b2.ln;omega) (by have:=a2.ln;omega) zo zo zo;have d1:=b1.pk.sub a1.pk;have d2:=b2.pk.sub a2.pk;have t1:=Zxg ordM b1.st a1.st;have t2:=Zxg ordM b2.st a2.st;have l1:=Zxh b.1 a.1;have l2:=Zxh b.2 a.2;have n1:=a1.ln
 have n2:=a2.ln;have n3:=b1.ln;have n4:=b2.ln;have c1:=Zrt (subM b.1 a.1) s.r.q d1 zr t1 zo zo zo zo;have c2:=Zrt (subM b.2 a.2) s.r.q d2 zr t2 zo zo zo zo;have e1:=poAdd a.1 (sclM s.r.q (subM b.1 a.1)) a1.pk (d1.scl zr) a1.st (Zxs t1) zo (by have:=Zxt s.r.q (subM b.1 a.1);omega) zo zo zo;have e2:=poAdd a.2 (sclM s.r.q (subM b.2 a.2)) a2.pk (d2.scl zr) a2.st (Zxs t2) zo (by have:=Zxt s.r.q (subM b.2 a.2);omega) zo zo zo;have re:=RQ.ok_eq hok.rl ro;obtain⟨k,nm,ar,r⟩:=s;simp only at *;subst hk;generalize hq:r.q=q at *;rw [re];have al:=λg3 g4 g7=>cbAlongS 3 4 7 (KB+1000) (KC+1000) (KV+1000) g3 g4 g7 g svC svV fr 2 nm ar q cs a b (sclM q (subM b.1 a.1),sclM q (subM b.2 a.2)) (addM a.1 (sclM q (subM b.1 a.1)),addM a.2 (sclM q (subM b.2 a.2))) zo h0 h1 ha hb s1 s2 c1 c2 e1 e2
 clear s1 s2 c1 c2 e1 e2 d1 d2 t1 t2 l1 l2 a1 a2 b1 b2 hco hok re ro zr hq n1 n2 n3 n4;generalize addM a.1 (sclM q (subM b.1 a.1))=x1 at *;generalize addM a.2 (sclM q (subM b.2 a.2))=x2 at *;refine Zbc func103 rfl ntmps103 results103 call103 zr zs ?_;(focus (refine wkad (w_4 mB mV mC @Zcd) w_t w_t ?_;(repeat' first|exact w_t|apply w_l);all_goals intros));rename_i g3 g4 g6 g7;have al:=al g3 g4 g7;(focus (refine wkax (w_5 mB mV mC @Zcd @ZBc) w_t w_t w_t w_t (w_1 al) w_y (w_r 0) ?_;(repeat' first|exact w_t|apply w_l);all_goals intros));simp (disch:=omega) only [go_sem]
 refine Zik (Sub.refl _) ⟨svV,rfl,rfl⟩ ?_;rw [Zd9 hV,Zd9 hB]
 (repeat' (first|exact Agr.start _|(refine Agr.own ?_ zo)))
abbrev frmA (cs:List (Po × Po)) (vs:List Vt):AV:=.agg [.sl 2 (cs.map coA),.sl 3 (vs.map Vt.av)]
def parsN (l:List Vt) (i:Nat):List Int:=((List.range i).filter λj=>decide ((l.getD j (0,0,0)).1=1)).map λn:Nat=>(n:Int)
def cnt1 (l:List Vt):Nat:=(l.filter λv=>decide (v.1=1)).length
def cF (ss:List RS):Nat→Nat
 | 0=>0
 | i+1=>cF ss i+if (ss.getD i RS.zero).k=1 then 1 else 0
def cP (ss:List RS):Nat→Nat
 | 0=>0
 | i+1=>cP ss i+if (ss.getD i RS.zero).k=5∨(ss.getD i RS.zero).k=6 then 1 else 0
def cD (ss:List RS):Nat→Nat
 | 0=>0
 | i+1=>cD ss i+if (ss.getD i RS.zero).k=1∨(ss.getD i RS.zero).k=2∨(ss.getD i RS.zero).k=3∨(ss.getD i RS.zero).k=4∨(ss.getD i RS.zero).k=5 then 0 else 2
theorem frN_fr (ss:List RS):∀i,(frN ss i).fr≤i
 | 0=>ZBw _
 | i+1=>by
   have:=frN_fr ss i;unfold frN;simp only [FS.push];split<;>omega
theorem Zt7 (ss:List RS):∀i k,nfN ss i≤nfN ss (i+k)
 | i,0=>ZBw _
 | i,k+1=>ZB1 (Zt7 ss i k) (by show _≤nfN ss (i+k)+_;omega)
structure FigOk (ss:List RS):Prop where
 len:ss.length≤40
 er:∀i,i < ss.length→errS ss i=0
 lm:∀s∈ss,s.r.lm 2
 nf:nfN ss ss.length≤20
theorem FigOk.fi {ss:List RS} (h:FigOk ss) {i:Nat} (hi:i≤ss.length) (hj:∀j,j < i→bigN ss j=false):∃D,FI (frN ss i) (nfN ss i) D∧nfN ss i≤20:=by
 have hr:∀s∈ss,s.k=2→s.r.ok=true:=λs hs=>by
  obtain⟨j,hj,rfl⟩:=List.mem_iff_getElem.1 hs;exact(Zjl hj (h.er j hj)).2.2.2
 obtain⟨D,hD⟩:=frN_ok ss hr (λs hs=>lm_bd (h.lm s hs)) i hi hj;refine⟨D,hD,ZB1 ?_ h.nf⟩;have:=Zt7 ss i (ss.length - i)
 rwa [show i+(ss.length - i)=ss.length by omega] at this
theorem FI.co {f:FS} {n D:Nat} (h:FI f n D) (hn:n≤20):∀c∈f.cs,Co c.1∧Co c.2:=λc hc=>by
 obtain⟨h1,h2⟩:=h.cs c hc;obtain⟨l1,l2⟩:=h.ln c hc;have hv:=h.nv;exact⟨⟨h1.pk zo h.D0 h.Dl hn,h1.1,l1⟩,⟨h2.pk zo h.D0 h.Dl hn,h2.1,l2⟩⟩
theorem FigOk.st {ss:List RS} (h:FigOk ss) {i:Nat} (hi:i < ss.length):StOk (frN ss i).cs ss[i]:=by
 obtain⟨h1,h2,h3,h4⟩:=Zjl hi (h.er i hi);exact⟨h1,h2,λk hk=>by rw [Zsp];exact h3 k hk,h4,h.lm _ (ZB7 hi)⟩
theorem Zut {ss:List RS} {i:Nat} (hi:i < ss.length):frN ss (i+1)=⟨(frN ss i).cs++[((frN ss i).nxt i ss[i]).2],(frN ss i).vs++((frN ss i).nxt i ss[i]).1,if ss[i].k=1 then (frN ss i).fr+1 else (frN ss i).fr⟩:=by
 show(frN ss i).push i (ss.getD i RS.zero)=_;rw [show ss.getD i RS.zero=ss[i] from by rw [ZCb,ZB6 hi];rfl];rfl
theorem bigN_at {ss:List RS} {i:Nat} (hi:i < ss.length):bigN ss i=(decide (64 < ((frN ss i).vs++((frN ss i).nxt i ss[i]).1).length) || decide (4000 < ((frN ss i).nxt i ss[i]).2.1.length) || decide (4000 < ((frN ss i).nxt i ss[i]).2.2.length)):=by
 unfold bigN;rw [Zut hi,show ss.getD i ⟨0,.empty,[],⟨false,[],[]⟩⟩=ss[i] from by rw [ZCb,ZB6 hi];rfl]
theorem nxt_vars (f:FS) (i:Nat) (s:RS):(f.nxt i s).1.length≤3:=by
 unfold FS.nxt;simp only
 repeat' split
 all_goals simp
def CbStep (i:Nat) (s:RS):Prop:=∀(σ:Mem) (KB KC KV g:Nat) (svC svV:Value) (cs:List (Po × Po)) (vs:List Vt) (fr:Nat),σ KB=some (.box g 145 [.own KC svC,.own KV svV,iv fr] false)→σ KV=some (.row svV 259 3 (vs.map Vt.av) 0)→σ KC=some (.row svC 150 2 (cs.map coA) 0)→KB≠KV→KB≠KC→KV≠KC→vs.length≤64→fr≤100→StOk cs s→(∀c∈cs,Co c.1∧Co c.2)→ACall prog 103 [.pbox KB g 0,s.av,iv i] σ λr σ'=>∃sv,r=coA (FS.nxt ⟨cs,vs,fr⟩ i s).2 ∧
 σ'=upd (upd σ KV (some (.row sv 259 3 ((vs++(FS.nxt ⟨cs,vs,fr⟩ i s).1).map Vt.av) 0))) KB (some (.box g 145 [.own KC svC,.own KV sv,iv (if s.k=1 then fr+1 else fr:Nat)] false))
theorem coFrameG (ss:List RS) (gs:List RG) (cR:Pure prog 102 [figA ss gs] (iv 0)) (ho:FigOk ss) (hcb:∀i (h:i < ss.length),CbStep i ss[i]) :
 Pure prog 57 [figA ss gs] (if (List.range ss.length).any (bigN ss)=true then .tup [.agg [.v (.slice none 0 0),.v (.slice none 0 0)],iv 4] else .tup [frmA (frN ss ss.length).cs (frN ss ss.length).vs,iv 0]):=by
 have cR:Pure prog 102 [.agg [.sl 6 (ss.map RS.av),.sl 5 (gs.map RG.av)]] (iv 0):=cR;show Pure _ _ [.agg [.sl 6 (ss.map RS.av),.sl 5 (gs.map RG.av)]] _;have hg:∀i (h:i < ss.length),(ss.map RS.av).getD i .u=ss[i].av:=λi h=>Zam RS.av h;have hls:(ss.map RS.av).length=ss.length:=ZB2 ..;have hlen:=ho.len;generalize ss.map RS.av=M at *;generalize gs.map RG.av=N at *;refine pI func57 rfl ntmps57 results57 call57 ?_;(focus (refine wkad (w_1 hls) (w_1 cR) w_t ?_;(repeat' first|exact w_t|apply w_l);all_goals intros));rename_i g1 g2 gb;refine Zfb (Frz.nilBox (k:=16) 0 20 2 150 (gC) rfl zo) ?_
 refine Zfb (Frz.nilBox (k:=16) 1 21 3 259 (gC) rfl zo) ?_;refine Zad (ι:=Nat) (λi e m=>i≤ss.length∧e 2=.pbox 2 g2 0∧m 2=some (.box g2 105 [.v (.slice none 0 0),.v (.slice none 0 0)] false)∧e 5=.pbox 16 gb 0∧e 18=.sl 6 M∧e 19=iv ss.length∧e 20=iv i∧(∃svC svV,m 16=some (.box gb 145 [.own 20 svC,.own 21 svV,iv (frN ss i).fr] false)∧m 20=some (.row svC 150 2 ((frN ss i).cs.map coA) 0)∧m 21=some (.row svV 259 3 ((frN ss i).vs.map Vt.av) 0))∧∀j,j < i→bigN ss j=false) (λi=>ss.length - i) 0 zr ?_ ?_
 ·rintro i e m ⟨hi,e2,m2,e5,e18,e19,e20,⟨svC,svV,m16,m20,m21⟩,hbig⟩
  by_cases hlt:i < ss.length
  ·have hgi:=hg i hlt;obtain⟨D,hD,hn⟩:=ho.fi hi hbig;have hco:=hD.co hn;have hst:=ho.st hlt;have hfr:=frN_fr ss i;have hnv:=hD.nv;have hb:=bigN_at hlt;have hsu:=Zut hlt;have hn3:=nxt_vars (frN ss i) i ss[i];have hcl:=Zsp ss i;have hst2:=λm' hB hV hC=>hcb i hlt m' 16 20 21 gb svC svV (frN ss i).cs (frN ss i).vs (frN ss i).fr hB hV hC zo zo zo hnv zo hst hco;rw [show(FS.mk (frN ss i).cs (frN ss i).vs (frN ss i).fr)=frN ss i from rfl] at hst2;clear hD hco hst;generalize hs:ss[i]=s at *;generalize hf:frN ss i=f at *;generalize hx:f.nxt i s=nx at *;obtain⟨nv,c1,c2⟩:=nx;obtain⟨k,nm,ar,⟨rs,rl,rd⟩⟩:=s
   obtain⟨cs,vs,fr⟩:=f;simp only at *;(focus (refine wkad (w_11 e2 m2 e5 e18 e19 e20 m16 m20 m21 hgi hls) w_t w_t ?_;(repeat' first|exact w_t|apply w_l);all_goals intros));refine Zg0 (hst2 _ (gW m16) (gW m21) (gW m20)) ?_;intro sv;generalize hfr2:(if k=1 then fr+1 else fr)=fr2 at *;have hvl:((vs++nv).map Vt.av).length=(vs++nv).length:=ZB2 ..;have hvl2:(vs++nv).length≤67:=by rw [ZCr];omega
   have hnx:∀j,j < i+1→bigN ss i=false→bigN ss j=false:=λj hj h=>by
    by_cases e:j=i
    ·rw [e];exact h
    ·exact hbig j zo
   have hany:bigN ss i=true→(List.range ss.length).any (bigN ss)=true:=λh=>List.any_eq_true.2 ⟨i,List.mem_range.2 hlt,h⟩;generalize vs++nv=vs2 at *;have hc1:(c1.map tmA).length=c1.length:=ZB2 ..;have hc2:(c2.map tmA).length=c2.length:=ZB2 ..;have hcsl:(cs.map coA).length=cs.length:=ZB2 ..;by_cases b1:64 < vs2.length
   ·rw [ZBv (hany (by rw [hb];simp [b1]))];(focus (refine wkld (w_8 e2 m2 e5 e18 e19 e20 hvl hls) w_t (w_1 e2) w_t ?_;(repeat' first|exact w_t|apply w_l);all_goals intros))
   ·by_cases b2:4000 < c1.length
    ·rw [ZBv (hany (by rw [hb];simp [b2]))];(focus (refine wkld (w_9 e2 m2 e5 e18 e19 e20 hvl hc1 hls) w_t (w_1 e2) w_t ?_;(repeat' first|exact w_t|apply w_l);all_goals intros))
    ·by_cases b3:4000 < c2.length
     ·rw [ZBv (hany (by rw [hb];simp [b3]))];(focus (refine wkld (w_10 e2 m2 e5 e18 e19 e20 hvl hc1 hc2 hls) w_t (w_1 e2) w_t ?_;(repeat' first|exact w_t|apply w_l);all_goals intros))
     ·have hbf:bigN ss i=false:=by rw [hb];simp [b1,b2,b3]
      clear hany;(focus (refine wkax (w_12 e2 m2 e5 e18 e19 e20 m20 hvl hc1 hc2 hcsl hls) w_t (w_1 (w_d 11 [] [12,2012,16] [20,60])) w_t w_t w_t w_y (w_r 0) ?_;(repeat' first|exact w_t|apply w_l);all_goals intros));rename_i svC2;refine⟨i+1,⟨zo,gW e2,gW m2,gW e5,gW e18,gW e19,gS,⟨svC2,sv,?_,?_,?_⟩,λj hj=>hnx j hj hbf⟩,zo⟩
      ·rw [hsu];exact gW hfr2
      ·rw [hsu,ZCp];exact gC
      ·rw [hsu];exact gC
  ·have hin:i=ss.length:=zo;subst hin
   have hno:¬(List.range ss.length).any (bigN ss)=true:=by
    rw [List.any_eq_true]
    rintro ⟨j,hj,hb⟩
    rw [hbig j (List.mem_range.1 hj)] at hb;cases hb
   rw [ZBu hno];generalize (frN ss ss.length).fr=fr at *;generalize (frN ss ss.length).cs=cs at *;generalize (frN ss ss.length).vs=vs at *;(focus (refine wkld (w_10 e2 m2 e5 e18 e19 e20 m16 m20 m21 hls) w_t (w_5 e2 m2 m16 m20 m21) w_t ?_;(repeat' first|exact w_t|apply w_l);all_goals intros))
 ·exact⟨ZB5 _,gC,gC,gC,gC,gW hls,gC,⟨_,_,by(simp (disch:=omega) only [go_sem,List.set_cons_zero,List.set_cons_succ,frN]<;>repeat' first|rfl|refine⟨?_,?_⟩),by(simp (disch:=omega) only [go_sem,frN,ZDv]<;>repeat' first|rfl|refine⟨?_,?_⟩),by(simp (disch:=omega) only [go_sem,frN,ZDv]<;>repeat' first|rfl|refine⟨?_,?_⟩)⟩,λj hj=>zo⟩
end Go.Proofs.YtkefeinbjbeidaaGreatDoor
namespace Go.Pol
section
def cl (q:Rat):Nat:=(q.num.natAbs+q.den - 1)/q.den
theorem cl_le {q:Rat} {B:Nat}:cl q≤B↔q.num.natAbs≤B*q.den:=by
 have h:0 < q.den:=ZDl q.den_nz;unfold cl;rw [←Nat.lt_succ_iff,ZE0 h,ZDt];omega
theorem cl_self (q:Rat):q.num.natAbs≤cl q*q.den:=cl_le.1 (ZBw _)
theorem Zom {q:Rat} {D:Nat} (h:q.den ∣ D):BQ D (cl q) q:=⟨h,cl_self q⟩
theorem cl_add (a b:Rat):cl (a+b)≤cl a+cl b:=cl_le.2 ((Zom (ZFv a.den b.den)).add (Zom (ZHl b.den a.den))).2
theorem cl_mul (a b:Rat):cl (a*b)≤cl a*cl b:=cl_le.2 ((Zom (ZD6 a.den)).mul (Zom (ZD6 b.den))).2
theorem ZAx {a b:Rat} {D:Nat} (h:a.den ∣ D) (k:b.den ∣ D):(a+b).den ∣ D:=((Zom h).add (Zom k)).1
theorem ZAw {a b:Rat} {D E:Nat} (h:a.den ∣ D) (k:b.den ∣ E):(a*b).den ∣ D*E:=((Zom h).mul (Zom k)).1
variable {κ:Type}
def n1 (l:List (Rat × κ)):Nat:=(l.map λt=>cl t.1).sum
theorem Zbh (t:Rat × κ) (l:List (Rat × κ)):n1 (t :: l)=cl t.1+n1 l:=rfl
theorem Zy9 (l m:List (Rat × κ)):n1 (l++m)=n1 l+n1 m:=by unfold n1;rw [ZCp,List.sum_append]
theorem n1_mem {l:List (Rat × κ)} {t:Rat × κ} (h:t∈l):cl t.1≤n1 l:=by
 induction l with
 | nil=>cases h
 | cons s l ih =>
   rw [Zbh];rcases List.mem_cons.1 h with rfl | h
   ·omega
   ·have:=ih h;omega
theorem Zy8 (f:Rat × κ→Bool) (l:List (Rat × κ)):n1 (l.filter f)≤n1 l:=by
 induction l with
 | nil=>exact ZBw _
 | cons t l ih =>
   rw [ZFc];split
   ·rw [Zbh,Zbh];omega
   ·rw [Zbh];omega
theorem n1_take (l:List (Rat × κ)) (i:Nat):n1 (l.take i)≤n1 l:=by
 have:=Zy9 (l.take i) (l.drop i);rw [ZD2] at this;omega
def NB (D B:Nat) (l:List (Rat × κ)):Prop:=(∀t∈l,t.1.den ∣ D)∧n1 l≤B
theorem NB.nil (D B:Nat):NB D B ([]:List (Rat × κ)):=⟨λt h=>(by cases h),ZB5 _⟩
theorem NB.mono {D B E C:Nat} {l:List (Rat × κ)} (h:NB D B l) (hd:D ∣ E) (hb:B≤C):NB E C l:=⟨λt ht=>Nat.dvd_trans (h.1 t ht) hd,ZB1 h.2 hb⟩
theorem NB.bq {D B:Nat} {l:List (Rat × κ)} (h:NB D B l) {t:Rat × κ} (ht:t∈l):BQ D B t.1:=(Zom (h.1 t ht)).mono (ZD6 _) (ZB1 (n1_mem ht) h.2)
theorem NB.filter {D B:Nat} {l:List (Rat × κ)} (h:NB D B l) (f:Rat × κ→Bool):NB D B (l.filter f):=⟨λt ht=>h.1 t (List.mem_filter.1 ht).1,ZB1 (Zy8 f l) h.2⟩
theorem NB.take {D B:Nat} {l:List (Rat × κ)} (h:NB D B l) (i:Nat):NB D B (l.take i):=⟨λt ht=>h.1 t (ZDc ht),ZB1 (n1_take l i) h.2⟩
theorem NB.app {D B C:Nat} {l m:List (Rat × κ)} (h:NB D B l) (k:NB D C m):NB D (B+C) (l++m) :=
 ⟨λt ht=>(List.mem_append.1 ht).elim (h.1 t) (k.1 t),by rw [Zy9];exact ZC8 h.2 k.2⟩
theorem NB.scale {D B E:Nat} {l:List (Rat × κ)} (h:NB D B l) {a:Rat} (ha:a.den ∣ E):NB (D*E) (B*cl a) (Zdf a l):=by
 refine⟨λt ht=>?_,ZB1 ?_ (ZCf _ h.2)⟩
 ·obtain⟨s,hs,rfl⟩:=List.mem_map.1 ht;exact ZAw (h.1 s hs) ha
 ·clear h
  induction l with
  | nil=>exact ZB5 _
  | cons t l ih =>
    show cl (t.1*a)+n1 (Zdf a l)≤(cl t.1+n1 l)*cl a;rw [ZCo];exact ZC8 (cl_mul _ _) ih
end
section
variable {κ:Type} [DecidableEq κ]
theorem n1_addC (l:List (Rat × κ)) (t:Rat × κ):n1 (addC l t)≤n1 l+cl t.1:=by
 induction l with
 | nil=>show cl t.1+0≤0+cl t.1;omega
 | cons s l ih =>
   unfold addC;split
   ·rw [Zbh,Zbh];have:=cl_add s.1 t.1;simp only;omega
   ·rw [Zbh,Zbh];omega
theorem den_addC {D:Nat} {l:List (Rat × κ)} {t:Rat × κ} (h:∀s∈l,s.1.den ∣ D) (ht:t.1.den ∣ D):∀s∈addC l t,s.1.den ∣ D:=by
 induction l with
 | nil=>intro s hs;rw [List.mem_singleton.1 hs];exact ht
 | cons u l ih =>
   intro s hs;unfold addC at hs;split at hs
   ·rcases List.mem_cons.1 hs with rfl | hs
    ·exact ZAx (h u (.head _)) ht
    ·exact h s (.tail _ hs)
   ·rcases List.mem_cons.1 hs with rfl | hs
    ·exact h _ (.head _)
    ·exact ih (λv hv=>h v (.tail _ hv)) s hs
theorem NB.addC {D B C:Nat} {l:List (Rat × κ)} (h:NB D B l) {t:Rat × κ} (ht:t.1.den ∣ D) (hc:cl t.1≤C):NB D (B+C) (addC l t) :=
 ⟨den_addC h.1 ht,ZB1 (n1_addC l t) (ZC8 h.2 hc)⟩
end
section
variable {κ:Type} {lt:κ→κ→Prop} [DecidableRel lt]
theorem NB.addP {D B C:Nat} {p q:List (Rat × κ)} (hp:NB D B p) (hq:NB D C q):NB D (B+C) (addP lt p q):=by
 suffices h:(∀t∈Go.Pol.addP lt p q,t.1.den ∣ D)∧n1 (Go.Pol.addP lt p q)≤n1 p+n1 q from⟨h.1,ZB1 h.2 (ZC8 hp.2 hq.2)⟩
 replace hp:=hp.1
 replace hq:=hq.1
 fun_induction Go.Pol.addP lt p q with
 | case1 q=>exact⟨hq,by show n1 q≤0+n1 q;omega⟩
 | case2 s p=>exact⟨hp,ZG2 _ _⟩
 | case3 s p u q h1 ih =>
   obtain⟨a,b⟩:=ih (λt h=>hp t (.tail _ h)) hq;exact⟨λt ht=>by
    rcases List.mem_cons.1 ht with rfl | ht
    ·exact hp _ (.head _)
    ·exact a t ht,by rw [Zbh,Zbh];omega⟩
 | case4 s p u q h1 h2 ih =>
   obtain⟨a,b⟩:=ih hp (λt h=>hq t (.tail _ h));exact⟨λt ht=>by
    rcases List.mem_cons.1 ht with rfl | ht
    ·exact hq _ (.head _)
    ·exact a t ht,by rw [Zbh,Zbh u];omega⟩
 | case5 s p u q h1 h2 h3 ih =>
   obtain⟨a,b⟩:=ih (λt h=>hp t (.tail _ h)) (λt h=>hq t (.tail _ h));exact⟨a,by rw [Zbh,Zbh];omega⟩
 | case6 s p u q h1 h2 h3 ih =>
   obtain⟨a,b⟩:=ih (λt h=>hp t (.tail _ h)) (λt h=>hq t (.tail _ h));exact⟨λt ht=>by
    rcases List.mem_cons.1 ht with rfl | ht
    ·exact ZAx (hp _ (.head _)) (hq _ (.head _))
    ·exact a t ht,by rw [Zbh,Zbh,Zbh];have:=cl_add s.1 u.1;simp only;omega⟩
theorem sumH_nb {D:Nat} (l:List (List (Rat × κ))) (h:∀p∈l,∀t∈p,t.1.den ∣ D):NB D ((l.map n1).sum) (sumH lt l):=by
 fun_induction sumH lt l with
 | case1=>exact .nil _ _
 | case2 p=>exact⟨h p (.head _),by simp⟩
 | case3 p q l ih1 ih2 =>
   have:=(ih1 λu hu=>h u (ZDc hu)).addP (lt:=lt) (ih2 λu hu=>h u (ZEc hu))
   rwa [←List.sum_append,←ZCp,ZD2] at this
end
section
variable {κ:Type} {cmp:κ→κ→Int}
theorem NB.sumG {D B:Nat} {l:List (Rat × κ)} (h:NB D B l):NB D B (sumG cmp l):=by
 have:=sumH_nb (lt:=λx y=>cmp y x < 0) (D:=D) (l.map λt=>if t.1=0 then [] else [t]) λp hp t ht=>by
  obtain⟨s,hs,rfl⟩:=List.mem_map.1 hp;split at ht
  ·cases ht
  ·rw [List.mem_singleton.1 ht];exact h.1 s hs
 refine this.mono (ZD6 _) (ZB1 ?_ h.2);clear this h
 induction l with
 | nil=>exact ZBw _
 | cons t l ih =>
   rw [ZC1,ZC1,List.sum_cons,Zbh];refine ZC8 ?_ ih;split
   ·exact ZB5 _
   ·show cl t.1+0≤_;omega
def prodL (mu:κ→κ→κ) (l m:List (Rat × κ)):List (Rat × κ):=l.flatMap λs=>m.map λt=>(s.1*t.1,mu s.2 t.2)
theorem Zf0 (mu:κ→κ→κ) (s:Rat × κ) (l m:List (Rat × κ)):prodL mu (s :: l) m=(m.map λt=>(s.1*t.1,mu s.2 t.2))++prodL mu l m:=rfl
theorem Zlf (mu:κ→κ→κ) (l m:List (Rat × κ)):(prodL mu l m).length=l.length*m.length:=by
 induction l with
 | nil=>simp [prodL]
 | cons s l ih=>rw [Zf0,ZCr,ZB2,ih,ZCd,ZDt,ZEn]
theorem Zfz {mu:κ→κ→κ} {l m:List (Rat × κ)} {u:Rat × κ} (h:u∈prodL mu l m):∃s∈l,∃t∈m,u=(s.1*t.1,mu s.2 t.2):=by
 obtain⟨s,hs,hu⟩:=List.mem_flatMap.1 h;obtain⟨t,ht,rfl⟩:=List.mem_map.1 hu;exact⟨s,hs,t,ht,rfl⟩
theorem NB.prodL {mu:κ→κ→κ} {D B E C:Nat} {l m:List (Rat × κ)} (h:NB D B l) (k:NB E C m):NB (D*E) (B*C) (prodL mu l m):=by
 refine⟨λu hu=>?_,ZB1 ?_ (ZC7 h.2 k.2)⟩
 ·obtain⟨s,hs,t,ht,rfl⟩:=Zfz hu;exact ZAw (h.1 s hs) (k.1 t ht)
 ·clear h k
  induction l with
  | nil=>exact ZB5 _
  | cons s l ih =>
    rw [Zf0,Zy9,Zbh,ZCo];refine ZC8 ?_ ih;clear ih
    induction m with
    | nil=>exact ZB5 _
    | cons t m ih =>
      rw [ZC1,Zbh,Zbh,ZC2];exact ZC8 (cl_mul _ _) ih
end
section
variable {κ:Type}
theorem evl_lin (a:Rat) (f g:κ→Rat) (l:List (Rat × κ)):evl (λk=>a*f k+g k) l=a*evl f l+evl g l:=by
 induction l with
 | nil=>show(0:Rat)=a*0+0;rw [ZGd,ZD5]
 | cons t l ih=>simp only [evl];rw [ih];grind
theorem evl_zero (l:List (Rat × κ)):evl (λ_=>0) l=0:=by
 induction l with
 | nil=>rfl
 | cons t l ih=>simp only [evl];rw [ih,ZGd,ZD5]
theorem evl_swap (ψ:κ→κ→Rat) (l m:List (Rat × κ)):evl (λk=>evl (ψ k) m) l=evl (λk'=>evl (λk=>ψ k k') l) m:=by
 induction l with
 | nil=>show(0:Rat)=evl (λ_=>0) m;rw [evl_zero]
 | cons s l ih =>
   show s.1*evl (ψ s.2) m+evl (λk=>evl (ψ k) m) l=evl (λk'=>s.1*ψ s.2 k'+evl (λk=>ψ k k') l) m;rw [ih,evl_lin]
theorem evl_row (φ:κ→Rat) (mu:κ→κ→κ) (s:Rat × κ) (m:List (Rat × κ)):evl φ (m.map λt=>(s.1*t.1,mu s.2 t.2))=s.1*evl (λk=>φ (mu s.2 k)) m:=by
 induction m with
 | nil=>show(0:Rat)=s.1*0;rw [ZGd]
 | cons t m ih=>simp only [ZC1,evl];rw [ih];grind
theorem ZAj (φ:κ→Rat) (mu:κ→κ→κ) (l m:List (Rat × κ)):evl φ (prodL mu l m)=evl (λk=>evl (λk'=>φ (mu k k')) m) l:=by
 induction l with
 | nil=>rfl
 | cons s l ih=>rw [Zf0,ZAl,ih,evl_row];rfl
theorem ZAk [DecidableEq κ] (l:List (Rat × κ)) (x:κ):cof l x=evl (λk=>if k=x then 1 else 0) l:=by
 induction l with
 | nil=>rfl
 | cons t l ih =>
   simp only [cof,evl];rw [ih];split<;>grind
end
section
variable {κ:Type} {lt:κ→κ→Prop} [DecidableRel lt] {D:κ→Prop}
theorem evl_sumH (o:KO D lt) (φ:κ→Rat) (l:List (List (Rat × κ))) (h:∀p∈l,Srt D lt p):evl φ (sumH lt l)=(l.map (evl φ)).sum:=by
 fun_induction sumH lt l with
 | case1=>rfl
 | case2 p=>show evl φ p=evl φ p+0;rw [ZD5]
 | case3 p q l ih1 ih2 =>
   have h1:∀u∈(p :: q :: l).take ((p :: q :: l).length/2),Srt D lt u:=λu hu=>h u (ZDc hu);have h2:∀u∈(p :: q :: l).drop ((p :: q :: l).length/2),Srt D lt u:=λu hu=>h u (ZEc hu);have happ:∀l m:List Rat,(l++m).sum=l.sum+m.sum:=λl m=>by
    induction l with
    | nil=>show m.sum=0+m.sum;rw [ZF8]
    | cons a l ih=>show a+(l++m).sum=a+l.sum+m.sum;rw [ih,Rat.add_assoc]
   rw [Zuy o φ (Zhe o _ h1).dom (Zhe o _ h2).dom,ih1 h1,ih2 h2,←happ,←ZCp,ZD2]
end
structure RG {κ:Type} (D:κ→Prop) (cmp:κ→κ→Int) (mu:κ→κ→κ) (e:κ):Prop where
 o:CO cmp
 comm:∀a b,mu a b=mu b a
 assoc:∀a b c,mu (mu a b) c=mu a (mu b c)
 one:∀a,D a→mu a e=a
 cl:∀a b,D a→D b→D (mu a b)
 de:D e
section
variable {κ:Type} {D:κ→Prop} {cmp:κ→κ→Int} {mu:κ→κ→κ} {e:κ}
theorem CO.koD (o:CO cmp):KO D (λx y=>cmp y x < 0):=⟨o.ko.irr,o.ko.tr,λx y _ _=>o.ko.tri x y trivial trivial⟩
abbrev SQ (D:κ→Prop) (cmp:κ→κ→Int) (p:List (Rat × κ)):Prop:=Srt D (λx y=>cmp y x < 0) p
abbrev adG (cmp:κ→κ→Int) (p q:List (Rat × κ)):List (Rat × κ):=addP (λx y=>cmp y x < 0) p q
def mlG (cmp:κ→κ→Int) (mu:κ→κ→κ) (p q:List (Rat × κ)):List (Rat × κ):=sumG cmp (prodL mu p q)
theorem Zk0 {l:List (Rat × κ)} (h:∀t∈l,D t.2):∀p∈l.map (λt=>if t.1=0 then [] else [t]),SQ D cmp p:=λp hp=>by
 obtain⟨t,ht,rfl⟩:=List.mem_map.1 hp;split
 ·exact .nil
 ·rename_i h0;exact Srt.nil.cons h0 (h t ht) (λu hu=>by cases hu)
theorem Zgt (o:CO cmp) {l:List (Rat × κ)} (h:∀t∈l,D t.2):SQ D cmp (sumG cmp l):=Zhe o.koD _ (Zk0 h)
theorem Zux (o:CO cmp) (φ:κ→Rat) (l:List (Rat × κ)):evl φ (sumG cmp l)=evl φ l:=by
 unfold sumG;rw [evl_sumH (D:=λ_=>True) o.koD φ _ (Zk0 λ_ _=>trivial)]
 induction l with
 | nil=>rfl
 | cons t l ih =>
   rw [ZC1,ZC1,List.sum_cons,ih];show _=t.1*φ t.2+evl φ l;congr 1;split
   ·rename_i h;rw [h,Rat.zero_mul];rfl
   ·show t.1*φ t.2+0=_;rw [ZD5]
theorem Zig (o:CO cmp) {p q:List (Rat × κ)} (hp:SQ D cmp p) (hq:SQ D cmp q) (h:∀φ,evl φ p=evl φ q):p=q:=by
 classical exact Zjc o.koD hp hq λx=>by rw [ZAk,ZAk,h]
theorem Zst (o:CO cmp) (φ:κ→Rat) (p q:List (Rat × κ)):evl φ (adG cmp p q)=evl φ p+evl φ q:=Zuy (D:=λ_=>True) o.koD φ (λ_ _=>trivial) (λ_ _=>trivial)
theorem Zgl (o:CO cmp) {p q:List (Rat × κ)} (hp:SQ D cmp p) (hq:SQ D cmp q):SQ D cmp (adG cmp p q):=Zc3 o.koD hp hq
theorem adG_comm (o:CO cmp) {p q:List (Rat × κ)} (hp:SQ D cmp p) (hq:SQ D cmp q):adG cmp p q=adG cmp q p:=by classical exact ZBj o.koD hp hq
theorem ZBn (o:CO cmp) {p q r:List (Rat × κ)} (hp:SQ D cmp p) (hq:SQ D cmp q) (hr:SQ D cmp r):adG cmp (adG cmp p q) r=adG cmp p (adG cmp q r):=by classical exact Zwr o.koD hp hq hr
theorem adG_nil (p:List (Rat × κ)):adG cmp p []=p:=Zos p
theorem adG_nil' (p:List (Rat × κ)):adG cmp [] p=p:=by cases p<;>simp [adG,addP]
theorem Zfs (o:CO cmp) (φ:κ→Rat) (p q:List (Rat × κ)):evl φ (mlG cmp mu p q)=evl (λk=>evl (λk'=>φ (mu k k')) q) p:=by
 unfold mlG;rw [Zux o,ZAj]
theorem Zbi (r:RG D cmp mu e) {p q:List (Rat × κ)} (hp:SQ D cmp p) (hq:SQ D cmp q):SQ D cmp (mlG cmp mu p q):=Zgt r.o λu hu=>by
 obtain⟨s,hs,t,ht,rfl⟩:=Zfz hu;exact r.cl _ _ (hp.dom s hs) (hq.dom t ht)
theorem Zuc (r:RG D cmp mu e) {p q:List (Rat × κ)} (hp:SQ D cmp p) (hq:SQ D cmp q):mlG cmp mu p q=mlG cmp mu q p :=
 Zig r.o (Zbi r hp hq) (Zbi r hq hp) λφ=>by
  rw [Zfs r.o,Zfs r.o,evl_swap];simp only [r.comm]
theorem Ziu (r:RG D cmp mu e) {p q s:List (Rat × κ)} (hp:SQ D cmp p) (hq:SQ D cmp q) (hs:SQ D cmp s):mlG cmp mu (mlG cmp mu p q) s=mlG cmp mu p (mlG cmp mu q s) :=
 Zig r.o (Zbi r (Zbi r hp hq) hs) (Zbi r hp (Zbi r hq hs)) λφ=>by
  simp only [Zfs r.o,r.assoc]
theorem mlG_add (r:RG D cmp mu e) {p q s:List (Rat × κ)} (hp:SQ D cmp p) (hq:SQ D cmp q) (hs:SQ D cmp s):mlG cmp mu (adG cmp p q) s=adG cmp (mlG cmp mu p s) (mlG cmp mu q s) :=
 Zig r.o (Zbi r (Zgl r.o hp hq) hs) (Zgl r.o (Zbi r hp hs) (Zbi r hq hs)) λφ=>by
  rw [Zfs r.o,Zst r.o,Zst r.o,Zfs r.o,Zfs r.o]
theorem Zze (p:List (Rat × κ)):mlG cmp mu [] p=[]:=by
 show sumG cmp []=[];unfold sumG;simp [sumH]
theorem Zy1 (r:RG D cmp mu e):SQ D cmp [((1:Rat),e)]:=Srt.nil.cons (show(1:Rat)≠0 by decide) r.de (λu hu=>by cases hu)
theorem Zzd (r:RG D cmp mu e) {p:List (Rat × κ)} (hp:SQ D cmp p):mlG cmp mu p [((1:Rat),e)]=p :=
 Zig r.o (Zbi r hp (Zy1 r)) hp λφ=>by
  rw [Zfs r.o];have hd:=hp.dom;clear hp
  induction p with
  | nil=>rfl
  | cons t p ih =>
    show t.1*(1*φ (mu t.2 e)+0)+_=t.1*φ t.2+_;rw [ih λu hu=>hd u (.tail _ hu),r.one _ (hd t (.head _)),ZFw,ZD5]
def pwG (cmp:κ→κ→Int) (mu:κ→κ→κ) (e:κ) (a:List (Rat × κ)):Nat→List (Rat × κ)
 | 0=>[((1:Rat),e)]
 | n+1=>mlG cmp mu (pwG cmp mu e a n) a
theorem Zh9 (r:RG D cmp mu e) {a:List (Rat × κ)} (ha:SQ D cmp a):∀n,SQ D cmp (pwG cmp mu e a n)
 | 0=>Zy1 r
 | n+1=>Zbi r (Zh9 r ha n) ha
def rfG (cmp:κ→κ→Int) (mu:κ→κ→κ) (e:κ) (P:Nat→List (Rat × κ)) (a d:List (Rat × κ)) (m:Nat):Nat→List (Rat × κ)
 | 0=>[]
 | k+1=>adG cmp (rfG cmp mu e P a d m k) (mlG cmp mu (mlG cmp mu (P k) (pwG cmp mu e a k)) (pwG cmp mu e d (m - k)))
def hnG (cmp:κ→κ→Int) (mu:κ→κ→κ) (e:κ) (P:Nat→List (Rat × κ)) (a d:List (Rat × κ)) (m:Nat):Nat→List (Rat × κ)
 | 0=>[]
 | n+1=>adG cmp (mlG cmp mu (hnG cmp mu e P a d m n) a) (mlG cmp mu (P (m - n)) (pwG cmp mu e d n))
theorem Zx3 (r:RG D cmp mu e) {P:Nat→List (Rat × κ)} {a d:List (Rat × κ)} (hP:∀k,SQ D cmp (P k)) (ha:SQ D cmp a) (hd:SQ D cmp d) (m:Nat):∀k,SQ D cmp (rfG cmp mu e P a d m k)
 | 0=>.nil
 | k+1=>Zgl r.o (Zx3 r hP ha hd m k) (Zbi r (Zbi r (hP k) (Zh9 r ha k)) (Zh9 r hd _))
theorem Zsm (r:RG D cmp mu e) {P:Nat→List (Rat × κ)} {a d:List (Rat × κ)} (hP:∀k,SQ D cmp (P k)) (ha:SQ D cmp a) (hd:SQ D cmp d) (m:Nat):∀n,SQ D cmp (hnG cmp mu e P a d m n)
 | 0=>.nil
 | n+1=>Zgl r.o (Zbi r (Zsm r hP ha hd m n) ha) (Zbi r (hP _) (Zh9 r hd _))
theorem horner (r:RG D cmp mu e) {P:Nat→List (Rat × κ)} {a d:List (Rat × κ)} (hP:∀k,SQ D cmp (P k)) (ha:SQ D cmp a) (hd:SQ D cmp d) (m:Nat):hnG cmp mu e P a d m (m+1)=rfG cmp mu e P a d m (m+1):=by
 have key:∀n,n≤m+1→adG cmp (rfG cmp mu e P a d m (m+1 - n)) (mlG cmp mu (hnG cmp mu e P a d m n) (pwG cmp mu e a (m+1 - n)))=rfG cmp mu e P a d m (m+1):=by
  intro n
  induction n with
  | zero=>intro _;show adG cmp _ (mlG cmp mu [] _)=_;rw [Zze,adG_nil];rfl
  | succ n ih =>
    intro hn;rw [←ih zo];obtain⟨k,hk⟩:∃k,m=n+k:=⟨m - n,zo⟩;have e1:m+1 - (n+1)=k:=zo;have e2:m+1 - n=k+1:=zo;have e3:m - k=n:=zo;have e4:m - n=k:=zo;rw [e1,e2];show adG cmp _ (mlG cmp mu (adG cmp (mlG cmp mu _ a) (mlG cmp mu (P (m - n)) _)) _)=adG cmp (adG cmp _ (mlG cmp mu (mlG cmp mu (P k) _) (pwG cmp mu e d (m - k)))) (mlG cmp mu _ (mlG cmp mu (pwG cmp mu e a k) a));rw [e3,e4];have s1:=Zx3 r hP ha hd m k;have s2:=Zsm r hP ha hd m n;have s3:=Zh9 r ha k;have s4:=Zh9 r hd n;have s5:=hP k;generalize rfG cmp mu e P a d m k=R at *;generalize hnG cmp mu e P a d m n=H at *;generalize pwG cmp mu e a k=A at *
    generalize pwG cmp mu e d n=N at *;generalize P k=Q at *;rw [mlG_add r (Zbi r s2 ha) (Zbi r s5 s4) s3,Ziu r s2 ha s3,Zuc r ha s3,Ziu r s5 s4 s3,Zuc r s4 s3,←Ziu r s5 s3 s4,
     ZBn r.o s1 (Zbi r (Zbi r s5 s3) s4) (Zbi r s2 (Zbi r s3 ha)),adG_comm r.o (Zbi r s2 (Zbi r s3 ha)) (Zbi r (Zbi r s5 s3) s4)]
 have h:=key (m+1) (ZBw _);rw [ZE8] at h;rw [←h];show _=adG cmp [] (mlG cmp mu _ [((1:Rat),e)]);rw [Zzd r (Zsm r hP ha hd m _),adG_nil']
end
end Go.Pol
namespace Go.Proofs.YtkefeinbjbeidaaGreatDoor
open Go Go.RowKit Go.Pg Go.Pol Go.Proofs.Tryz
attribute [-bool_to_prop] Bool.and_eq_decide Bool.or_eq_decide Bool.decide_beq_decide decide_eq_decide
attribute [local go_sem] Zas Zaw Zav Zah Zaq Zai Bool.and_self Zal Zba Za9
abbrev gatM (l:QTs):QTs:=sumG ordQ l
theorem gat_nil:gatM []=[]:=by simp [gatM,sumG,sumH]
theorem Zn8 (t:Rat × List Qt):gatM [t]=if t.1=0 then [] else [t]:=by simp [gatM,sumG,sumH]
theorem gat_two {l:QTs} (h:2≤l.length):gatM l=Zbf (gatM (l.take (l.length/2))) (gatM (l.drop (l.length/2))):=by
 match l,h with
 | a :: b :: r,_ =>
   unfold gatM sumG;rw [List.map_take,List.map_drop];show sumH _ (_ :: _ :: r.map _)=_;rw [sumH];simp only [ZCd,ZB2];rfl
theorem Zz6:∀(n:Nat) (l:QTs) {j m:Nat},l.length=n→QK l j m→QK (gatM l) (n*(j+1) - 1) m∧(gatM l).length≤n:=by
 intro n
 induction n using Nat.strongRecOn with
 | _ n ih =>
   intro l j m hl hq
   match n,l,hl with
   | 0,[],_=>rw [gat_nil];exact⟨λt ht=>by(cases ht),ZBw _⟩
   | 1,[t],_ =>
     rw [Zn8];split
     ·exact⟨λt ht=>by(cases ht),ZB5 _⟩
     ·exact⟨hq.mono zo (ZBw _),by simp⟩
   | n+2,l,hl =>
     rw [gat_two zo];have ht:(l.take (l.length/2)).length=(n+2)/2:=by rw [ZCh];omega
     have hd:(l.drop (l.length/2)).length=n+2 - (n+2)/2:=by rw [ZD7];omega
     obtain⟨a1,a2⟩:=ih _ zo (l.take (l.length/2)) ht (λt h=>hq t (ZDc h));obtain⟨b1,b2⟩:=ih _ zo (l.drop (l.length/2)) hd (λt h=>hq t (ZEc h));have e:(n+2)*(j+1)=(n+2)/2*(j+1)+(n+2 - (n+2)/2)*(j+1):=by rw [←ZCo];congr 1;omega
     have p1:1*(j+1)≤(n+2)/2*(j+1):=ZCf _ zo;have p2:1*(j+1)≤(n+2 - (n+2)/2)*(j+1):=ZCf _ zo;refine⟨(join_QK a1 b1).mono zo (ZBw _),?_⟩;refine ZB1 (Ze0 _ _) ?_;omega
def GH (l:QTs) (k m:Nat):Prop:=∀s:QTs,s <:+: l→QK s k m∧QK (gatM s) k m
theorem GH.part {l s:QTs} {k m:Nat} (h:GH l k m) (hs:s <:+: l):GH s k m:=λu hu=>h u (hu.trans hs)
theorem nb_qk {D B a b:Nat} {l:QTs} (h:NB D B l) (h0:D≠0) (hd:D < 65536 ^ a) (hb:B < 65536 ^ b) {m:Nat} (hm:∀t∈l,t.2.length≤m):QK l (a+b) m :=
 λt ht=>⟨bq_sz (h.bq ht) h0 hd hb,hm t ht⟩
theorem Zkl {l:QTs} {m:Nat} (hm:∀t∈l,t.2.length≤m):∀t∈gatM l,t.2.length≤m:=by
 have:∃j,QK l j m:=by
  induction l with
  | nil=>exact⟨0,λt ht=>by cases ht⟩
  | cons a l ih =>
    obtain⟨j,hj⟩:=ih λt ht=>hm t (.tail _ ht);refine⟨max j (max (toL a.1.num.natAbs).length (toL a.1.den).length),λt ht=>?_⟩;rcases List.mem_cons.1 ht with rfl | ht
    ·exact⟨⟨zo,zo⟩,hm _ (.head _)⟩
    ·exact⟨(hj t ht).1.mono zo,(hj t ht).2⟩
 obtain⟨j,hj⟩:=this;exact λt ht=>((Zz6 _ l rfl hj).1 t ht).2
structure RE where
 r:RQ
 q:List Qt
abbrev RE.av (t:RE):AV:=.agg [.v (.bool t.r.s),lim t.r.l,lim t.r.d,qsA t.q]
def RE.ok (t:RE):Bool:=t.r.ok && t.q.all Qt.ok
def sgP (l:List Qt):Int:=l.foldl (λs q=>s*q.norm.2) 1
def nzP (l:List Qt):List Qt:=(l.filter λq=>decide (q.norm.2≠0)).map λq=>q.norm.1
def putP (l:List Qt):List Qt:=(nzP l).foldl (putQ Qt.cmp) []
def RE.t (t:RE):Rat × List Qt:=(t.r.q*(sgP t.q:Rat),putP t.q)
theorem sgP_snoc (l:List Qt) (q:Qt):sgP (l++[q])=sgP l*q.norm.2:=by unfold sgP;rw [ZGe];rfl
theorem putP_y (l:List Qt) {q:Qt} (h:q.norm.2≠0):putP (l++[q])=putQ Qt.cmp (putP l) q.norm.1:=by
 unfold putP nzP;rw [ZEz,ZCp,ZGe,ZFc,ZBv (ZB4 h)];rfl
theorem Zty (l:List Qt):(putP l).length≤l.length:=by
 unfold putP;rw [(Zfq (cmp:=Qt.cmp) (nzP l) []).length_eq,ZDf];unfold nzP;rw [ZB2];exact ZGm _ _
theorem Zib (q:Qt):q.norm.2=-1∨q.norm.2=0∨q.norm.2=1:=by
 unfold Qt.norm Zek Zfp
 repeat' split
 all_goals first|exact .inl rfl|exact .inr (.inl rfl)|exact .inr (.inr rfl)
theorem sg_mul {a b:Int} (ha:a=-1∨a=0∨a=1) (hb:b=-1∨b=0∨b=1):a*b=-1∨a*b=0∨a*b=1:=by
 rcases ha with rfl | rfl | rfl<;>rcases hb with rfl | rfl | rfl<;>decide
theorem sgP_sg (l:List Qt):sgP l=-1∨sgP l=0∨sgP l=1:=by
 have key:∀(l:List Qt) (s:Int),(s=-1∨s=0∨s=1)→(l.foldl (λs q=>s*q.norm.2) s=-1∨l.foldl (λs q=>s*q.norm.2) s=0∨l.foldl (λs q=>s*q.norm.2) s=1):=by
  intro l
  induction l with
  | nil=>intro s h;exact h
  | cons a l ih=>intro s h;exact ih _ (sg_mul h (Zib a))
 exact key l 1 (.inr (.inr rfl))
theorem Zvr {z:Int} (h:z=-1∨z=0∨z=1):Sz (z:Rat) 1:=by
 refine Sz.int ?_ (ZBw _);rcases h with rfl | rfl | rfl
 ·exact Nat.le_of_eq Zed
 ·show(toL 0).length≤1;rw [Zax];exact ZB5 _
 ·exact Nat.le_of_eq Zed
def nrmR (l:List RE):AV:=if l.all RE.ok=true then qpA (gatM (l.map RE.t)) else .v (.slice none 0 0)
theorem Zl4 {α:Type} {p:α→Bool} {l:List α} {i:Nat} (h:i < l.length) (h1:(l.take i).all p=true) (h2:p l[i]=true):(l.take (i+1)).all p=true:=by
 rw [ZFu,ZB6 h,List.all_append,h1];simp [h2]
theorem Zva {α:Type} {p:α→Bool} {l:List α} {i:Nat} (h:i < l.length) (h2:p l[i]=false):l.all p=false:=by
 rw [List.all_eq_false];exact⟨l[i],ZB7 h,by simp [h2]⟩
attribute [go_sem] underlying163 szOpn zOpn szFnR zFnR
attribute [local go_sem] undFnR
abbrev subT (p q:QTs):QTs:=Zbf p (q.map λt=>(-t.1,t.2))
structure OpF (f:Nat) (s:Rat):Prop where
 pm:s=1∨s=-1
 ct:∀(a b:Rat) {j k:Nat},Sz a j→Sz b k→j≤1000000→k≤1000000→Pure prog f [ratQ a,ratQ b] (ratQ (a+s*b))
theorem opAdd:OpF 52 1:=⟨.inl rfl,λa b _ _ ha hb hj hk=>by rw [ZFw];exact Ztt a b ha hb zo zo⟩
theorem opSub:OpF 115 (-1):=⟨.inr rfl,λa b _ _ ha hb hj hk=>by
 have:a+-1*b=a - b:=by grind
 rw [this];exact ratSub a b ha hb zo zo⟩
def sclT (s:Rat) (q:QTs):QTs:=q.map λt=>(s*t.1,t.2)
theorem Zc1 (s:Rat) (q:QTs):(sclT s q).length=q.length:=ZB2 ..
theorem Zxu (s:Rat) (q:QTs) {i:Nat} (h:i < q.length):(sclT s q)[i]'(by rw [Zc1];exact h)=(s*q[i].1,q[i].2):=ZF9 ..
theorem ZAg (f:Nat) (s:Rat) (op:OpF f s) (p q:QTs) {j k n:Nat} (hp:QK p j n) (hq:QK q k n) (np:∀t∈p,t.1≠0) (nq:∀t∈q,t.1≠0) (lp:p.length≤100000000) (lq:q.length≤100000000) (hj:j≤900000) (hk:k≤900000) (hn:n≤1000000) :
 Pure prog 116 [.agg [.fn f []],qpA p,qpA q] (qpA (Zbf p (sclT s q))):=by
 have hz0:ratQ ((0:Nat):Rat)=.agg [.v (.bool false),lim [],lim (toL 1)]:=by
  show AV.agg [.v (.bool (decide ((0:Rat).num < 0))),lim (toL (0:Rat).num.natAbs),lim (toL (0:Rat).den)]=_;rw [show(0:Rat).num=0 from rfl,show(0:Rat).den=1 from rfl,show(0:Int).natAbs=0 from rfl,Zax];rfl
 have hz1:ratQ (0:Rat)=.agg [.v (.bool false),lim [],lim (toL 1)]:=hz0;have c0:Pure prog 27 [iv 0] (.agg [.v (.bool false),lim [],lim (toL 1)]):=by rw [←hz0];exact Zpg 0 zo
 have sz0:Sz (0:Rat) 1:=Zvr (.inr (.inl rfl));have hsn:s≠0:=by rcases op.pm with h | h<;>rw [h]<;>decide
 show Pure _ _ [.agg [.fn f []],.sl 4 (p.map qtA),.sl 4 (q.map qtA)] _;refine pI func116 rfl ntmps116 results116 call116 ?_
 (refine wkad w_t (w_1 c0) w_t (w_s ?_);intros)
 rename_i g3 g8;generalize toL 1=one at *;refine Zfb (Frz.nilOwn (d:=7) 79 4 78 (gC)) ?_;refine Zad (ι:=Nat × Nat) (λx e m=>x.1≤p.length∧x.2≤q.length∧e 1=.sl 4 ((p.drop x.1).map qtA)∧e 2=.sl 4 ((q.drop x.2).map qtA)∧e 3=.pbox 3 g3 0∧m 3=some (.box g3 163 [.fn f []] false)∧e 8=.pbox 8 g8 0∧m 8=some (.box g8 28 [.v (.bool false),lim [],lim one] false)∧∃sv out,e 7=.own 79 sv∧m 79=some (.row sv 78 4 (out.map qtA) 0)∧out.length≤x.1+x.2∧Zbf p (sclT s q)=out++Zbf (p.drop x.1) ((sclT s q).drop x.2)) (λx=>p.length+q.length - (x.1+x.2)) (0,0) zr ?_ ?_
 ·rintro ⟨i,l⟩ e m ⟨hi,hl,e1,e2,e3,m3,e8,m8,sv,out,e7,m79,ho,hs⟩
  simp only at hi hl e1 e2 ho hs;have hlen:(out.map qtA).length=out.length:=ZB2 ..;by_cases hi2:i < p.length
  ·have hd:(p.drop i).map qtA=qtA p[i] :: (p.drop (i+1)).map qtA:=by rw [ZEi hi2];rfl
   have hdl:((p.drop (i+1)).map qtA).length=p.length - (i+1):=by rw [ZB2,ZD7]
   have ms:=hp _ (ZB7 hi2);have ns:=np _ (ZB7 hi2);rw [hd] at e1;have hdp:=hd;clear hd;by_cases hl2:l < q.length
   ·have hd:(q.drop l).map qtA=qtA q[l] :: (q.drop (l+1)).map qtA:=by rw [ZEi hl2];rfl
    have hel:((q.drop (l+1)).map qtA).length=q.length - (l+1):=by rw [ZB2,ZD7]
    have mt:=hq _ (ZB7 hl2);have nt:=nq _ (ZB7 hl2);have st:=Zzx (p:=p) (q:=sclT s q) hi2 (show l < (sclT s q).length by rw [Zc1];exact hl2);rw [Zxu s q hl2] at st;rw [hd] at e2;have hdq:=hd;clear hd hp hq np nq;generalize p[i]=u at *;generalize q[l]=v at *;have cl:=exCmpP u.2 v.2 (by have:=ms.2;omega) (by have:=mt.2;omega);have h3:=Zyt u.2 v.2;have hou:∀x:Rat × List Qt,(out++[x]).map qtA=out.map qtA++[.agg [.v (.bool (decide (x.1.num < 0))),lim (toL x.1.num.natAbs),lim (toL x.1.den),.sl 4 (x.2.map Qt.av)]]:=λx=>by rw [ZCp];rfl
    rw [st] at hs;clear st;have ca1:=op.ct u.1 0 ms.1 sz0 zo zo;have ca2:=op.ct 0 v.1 sz0 mt.1 zo zo;have ca3:=op.ct u.1 v.1 ms.1 mt.1 zo zo;rw [show u.1+s*0=u.1 by rw [ZGd,ZD5],hz1] at ca1;rw [show 0+s*v.1=s*v.1 by rw [ZF8],hz1] at ca2;have hpm:=op.pm;have zs1:=Zdd u.1 ms.1 zo
    have hsz:Sz (s*v.1) (k+1):=by
     rcases hpm with h | h
     ·rw [h,ZFw];exact mt.1.mono zo
     ·rw [h,show -1*v.1=- v.1 by grind];exact mt.1.neg.mono zo
    have zs2:=Zdd (s*v.1) hsz zo;have zs3:=Zdd (u.1+s*v.1) (ms.1.add hsz) zo;have nz1:¬u.1.num.sign=0:=by rw [Zdv];exact ns
    have nz2:¬(s*v.1).num.sign=0:=by rw [Zdv];exact λh=>by rcases Rat.mul_eq_zero.1 h with h | h;exact hsn h;exact nt h
    have hou1:=hou u;have hou2:=hou (s*v.1,v.2);have hou3:=hou (u.1+s*v.1,v.2);clear hou ms mt hsz hpm;obtain⟨u1,u2⟩:=u;obtain⟨v1,v2⟩:=v;simp only at *;have cl:Pure prog 194 [.sl 4 (u2.map Qt.av),.sl 4 (v2.map Qt.av)] (iv (ordQ u2 v2)):=cl;have e1:e 1=.sl 4 (.agg [.v (.bool (decide (u1.num < 0))),lim (toL u1.num.natAbs),lim (toL u1.den),.sl 4 (u2.map Qt.av)] :: (p.drop (i+1)).map qtA):=e1;have hdp:(p.drop i).map qtA=.agg [.v (.bool (decide (u1.num < 0))),lim (toL u1.num.natAbs),lim (toL u1.den),.sl 4 (u2.map Qt.av)] :: (p.drop (i+1)).map qtA:=hdp;have e2:e 2=.sl 4 (.agg [.v (.bool (decide (v1.num < 0))),lim (toL v1.num.natAbs),lim (toL v1.den),.sl 4 (v2.map Qt.av)] :: (q.drop (l+1)).map qtA):=e2
    have hdq:(q.drop l).map qtA=.agg [.v (.bool (decide (v1.num < 0))),lim (toL v1.num.natAbs),lim (toL v1.den),.sl 4 (v2.map Qt.av)] :: (q.drop (l+1)).map qtA:=hdq;have ca1:Pure prog f [.agg [.v (.bool (decide (u1.num < 0))),lim (toL u1.num.natAbs),lim (toL u1.den)],.agg [.v (.bool false),lim [],lim one]] (.agg [.v (.bool (decide (u1.num < 0))),lim (toL u1.num.natAbs),lim (toL u1.den)]):=ca1;have ca2:Pure prog f [.agg [.v (.bool false),lim [],lim one],.agg [.v (.bool (decide (v1.num < 0))),lim (toL v1.num.natAbs),lim (toL v1.den)]] (ratQ (s*v1)):=ca2;have ca3:Pure prog f [.agg [.v (.bool (decide (u1.num < 0))),lim (toL u1.num.natAbs),lim (toL u1.den)],.agg [.v (.bool (decide (v1.num < 0))),lim (toL v1.num.natAbs),lim (toL v1.den)]] (ratQ (u1+s*v1)):=ca3
    have zs1:Pure prog 18 [.agg [.v (.bool (decide (u1.num < 0))),lim (toL u1.num.natAbs),lim (toL u1.den)]] (iv u1.num.sign):=zs1;rcases h3 with⟨h1,h2⟩ | ⟨h1,h2,h4⟩ | ⟨h1,h2,h4⟩
    ·rw [ZBv h2] at hs;rw [h1] at cl;clear ca2 ca3 zs2 zs3 nz2 hou2 hou3 h1 h2;generalize u1.num.sign=z at *;generalize hO:out.map qtA=O at *;generalize hPd:(p.drop (i+1)).map qtA=PD at *;have htp:PD.take (p.length - (i+1))=PD:=ZD3 zo;generalize hQd:(q.drop (l+1)).map qtA=QD at *;have htq:QD.take (q.length - (l+1))=QD:=ZD3 zo;generalize u2.map Qt.av=U2 at *;generalize v2.map Qt.av=V2 at *
     (refine wkax (w_14 e1 e2 e3 m3 e8 m8 e7 m79 hlen hdl hel htp htq nz1) (w_3 cl ca1 zs1) (w_3 (w_d 8 [(8,iv (-1))] [] []) (w_d 9 [] [] [10,11]) (w_d 12 [] [] [10])) w_t w_t w_t w_y (w_r 0) (w_s ?_);intros)
     refine⟨(i+1,l),⟨by simp only;omega,by simp only;omega,by rw [hPd];exact gC,by rw [hdq];exact gW e2,gW e3,gW m3,gW e8,gW m8,_,out++[(u1,u2)],gC,by rw [hou1];exact gC,by simp only [ZCr,ZCd,ZCq];omega,by rw [hs,ZDd];rfl⟩,by simp only;omega⟩
    ·rw [ZBu h2,ZBu h4] at hs;have huv:u2=v2:=Zbo.eqz _ _ h1;rw [h1] at cl;clear ca1 ca2 zs1 zs2 nz1 nz2 hou1 hou2 h2 h4;by_cases hz:u1+s*v1=0
     ·rw [ZBv hz] at hs;have hz2:(u1+s*v1).num.sign=0:=by rw [Zdv];exact hz
      rw [hz2] at zs3;clear hou3 h1 huv hz hz2;generalize u1+s*v1=w at *;generalize hO:out.map qtA=O at *;generalize hPd:(p.drop (i+1)).map qtA=PD at *;have htp:PD.take (p.length - (i+1))=PD:=ZD3 zo;generalize hQd:(q.drop (l+1)).map qtA=QD at *;have htq:QD.take (q.length - (l+1))=QD:=ZD3 zo;generalize u2.map Qt.av=U2 at *;generalize v2.map Qt.av=V2 at *
      (refine wkax (w_13 e1 e2 e3 m3 e8 m8 e7 m79 hlen hdl hel htp htq) (w_3 cl ca3 zs3) (w_4 (w_d 8 [(8,iv 0)] [] []) (w_d 9 [] [] [10,11]) (w_d 12 [] [] [10]) (w_d 14 [] [] [11])) w_t w_t w_t w_y (w_r 0) (w_s ?_);intros)
      refine⟨(i+1,l+1),⟨by simp only;omega,by simp only;omega,by rw [hPd];exact gC,by rw [hQd];exact gC,gW e3,gW m3,gW e8,gW m8,_,out,gW e7,by rw [hO];exact gW m79,by simp only;omega,hs⟩,by simp only;omega⟩
     ·rw [ZBu hz] at hs;have hz2:¬(u1+s*v1).num.sign=0:=by rw [Zdv];exact hz
      have hs:Zbf p (sclT s q)=out++(u1+s*v1,v2) :: Zbf (p.drop (i+1)) ((sclT s q).drop (l+1)):=by rw [←huv];exact hs
      clear h1 huv hz;generalize (u1+s*v1).num.sign=z at *;generalize u1+s*v1=w at *;generalize hO:out.map qtA=O at *;generalize hPd:(p.drop (i+1)).map qtA=PD at *;have htp:PD.take (p.length - (i+1))=PD:=ZD3 zo;generalize hQd:(q.drop (l+1)).map qtA=QD at *;have htq:QD.take (q.length - (l+1))=QD:=ZD3 zo;generalize u2.map Qt.av=U2 at *;generalize v2.map Qt.av=V2 at *
      (refine wkax (w_14 e1 e2 e3 m3 e8 m8 e7 m79 hlen hdl hel htp htq hz2) (w_3 cl ca3 zs3) (w_4 (w_d 8 [(8,iv 0)] [] []) (w_d 9 [] [] [10,11]) (w_d 12 [] [] [10]) (w_d 14 [] [] [11])) w_t w_t w_t w_y (w_r 0) (w_s ?_);intros)
      refine⟨(i+1,l+1),⟨by simp only;omega,by simp only;omega,by rw [hPd];exact gC,by rw [hQd];exact gC,gW e3,gW m3,gW e8,gW m8,_,out++[(w,v2)],gC,by rw [hou3];exact gC,by simp only [ZCr,ZCd,ZCq];omega,by rw [hs,ZDd];rfl⟩,by simp only;omega⟩
    ·rw [ZBu h2,ZBv h4] at hs;rw [h1] at cl;clear ca1 ca3 zs1 zs3 nz1 hou1 hou3 h1 h2 h4;generalize (s*v1).num.sign=z at *;generalize s*v1=w at *;generalize hO:out.map qtA=O at *;generalize hPd:(p.drop (i+1)).map qtA=PD at *;have htp:PD.take (p.length - (i+1))=PD:=ZD3 zo;generalize hQd:(q.drop (l+1)).map qtA=QD at *;have htq:QD.take (q.length - (l+1))=QD:=ZD3 zo;generalize u2.map Qt.av=U2 at *;generalize v2.map Qt.av=V2 at *
     (refine wkax (w_14 e1 e2 e3 m3 e8 m8 e7 m79 hlen hdl hel htp htq nz2) (w_3 cl ca2 zs2) (w_3 (w_d 8 [(8,iv 1)] [] []) (w_d 9 [] [] [10,11]) (w_d 14 [] [] [11])) w_t w_t w_t w_y (w_r 0) (w_s ?_);intros)
     refine⟨(i,l+1),⟨by simp only;omega,by simp only;omega,by rw [hdp];exact gW e1,by rw [hQd];exact gC,gW e3,gW m3,gW e8,gW m8,_,out++[(w,v2)],gC,by rw [hou2];exact gC,by simp only [ZCr,ZCd,ZCq];omega,by rw [hs,ZDd];rfl⟩,by simp only;omega⟩
   ·have hl3:l=q.length:=zo;subst hl3;rw [Zi1 (.inr (by rw [Zc1];exact ZBw _)),ZEj (l:=sclT s q) (by rw [Zc1];exact ZBw _),ZDf,ZEi hi2] at hs
    have hs:Zbf p (sclT s q)=(out++[p[i]])++Zbf (p.drop (i+1)) ((sclT s q).drop q.length):=by
     rw [Zi1 (.inr (by rw [Zc1];exact ZBw _)),hs,ZEj (l:=sclT s q) (by rw [Zc1];exact ZBw _)];simp
    rw [show q.drop q.length=[] from ZEj (ZBw _)] at e2;have e2:e 2=.sl 4 []:=e2;have hq0:(q.drop q.length).map qtA=[]:=by rw [ZEj (ZBw _)];rfl
    clear hp hq np nq;generalize p[i]=u at *;have hou1:(out++[u]).map qtA=out.map qtA++[.agg [.v (.bool (decide (u.1.num < 0))),lim (toL u.1.num.natAbs),lim (toL u.1.den),.sl 4 (u.2.map Qt.av)]]:=by rw [ZCp];rfl
    have ca1:=op.ct u.1 0 ms.1 sz0 zo zo;rw [show u.1+s*0=u.1 by rw [ZGd,ZD5],hz1] at ca1;have zs1:=Zdd u.1 ms.1 zo;have nz1:¬u.1.num.sign=0:=by rw [Zdv];exact ns
    obtain⟨u1,u2⟩:=u;simp only at *;have e1:e 1=.sl 4 (.agg [.v (.bool (decide (u1.num < 0))),lim (toL u1.num.natAbs),lim (toL u1.den),.sl 4 (u2.map Qt.av)] :: (p.drop (i+1)).map qtA):=e1;have hdp:(p.drop i).map qtA=.agg [.v (.bool (decide (u1.num < 0))),lim (toL u1.num.natAbs),lim (toL u1.den),.sl 4 (u2.map Qt.av)] :: (p.drop (i+1)).map qtA:=hdp;have ca1:Pure prog f [.agg [.v (.bool (decide (u1.num < 0))),lim (toL u1.num.natAbs),lim (toL u1.den)],.agg [.v (.bool false),lim [],lim one]] (.agg [.v (.bool (decide (u1.num < 0))),lim (toL u1.num.natAbs),lim (toL u1.den)]):=ca1;have zs1:Pure prog 18 [.agg [.v (.bool (decide (u1.num < 0))),lim (toL u1.num.natAbs),lim (toL u1.den)]] (iv u1.num.sign):=zs1
    generalize u1.num.sign=z at *;generalize hO:out.map qtA=O at *;generalize hPd:(p.drop (i+1)).map qtA=PD at *;have htp:PD.take (p.length - (i+1))=PD:=ZD3 zo;generalize u2.map Qt.av=U2 at *
    (refine wkad (w_12 e1 e2 e3 m3 e8 m8 e7 m79 hlen hdl htp nz1) (w_2 ca1 zs1) (w_2 (w_d 9 [] [] [10,11]) (w_d 12 [] [] [10])) (w_s ?_);intros)
    refine⟨(i+1,q.length),⟨by simp only;omega,by simp only;omega,by rw [hPd];exact gC,by rw [hq0];exact gW e2,gW e3,gW m3,gW e8,gW m8,_,out++[(u1,u2)],gC,by rw [hou1];exact gC,by simp only [ZCr,ZCd,ZCq];omega,hs⟩,by simp only;omega⟩
  ·have hi3:i=p.length:=zo;subst hi3;rw [show p.drop p.length=[] from ZEj (ZBw _)] at e1;have e1:e 1=.sl 4 []:=e1;have hp0:(p.drop p.length).map qtA=[]:=by rw [ZEj (ZBw _)];rfl
   by_cases hl2:l < q.length
   ·have hd:(q.drop l).map qtA=qtA q[l] :: (q.drop (l+1)).map qtA:=by rw [ZEi hl2];rfl
    have hel:((q.drop (l+1)).map qtA).length=q.length - (l+1):=by rw [ZB2,ZD7]
    have mt:=hq _ (ZB7 hl2);have nt:=nq _ (ZB7 hl2);rw [hd] at e2;have hdq:=hd;have hsl:(sclT s q).drop l=(s*q[l].1,q[l].2) :: (sclT s q).drop (l+1):=by rw [ZEi (by rw [Zc1];exact hl2),Zxu s q hl2]
    rw [Zi1 (.inl (ZBw _)),ZEj (ZBw _),ZGg,hsl] at hs
    have hs:Zbf p (sclT s q)=(out++[(s*q[l].1,q[l].2)])++Zbf (p.drop p.length) ((sclT s q).drop (l+1)):=by
     rw [Zi1 (.inl (ZBw _)),hs,ZEj (l:=p) (ZBw _)];simp
    clear hd hsl hp hq np nq;generalize q[l]=v at *;have ca2:=op.ct 0 v.1 sz0 mt.1 zo zo;rw [show 0+s*v.1=s*v.1 by rw [ZF8],hz1] at ca2;have hpm:=op.pm
    have hsz:Sz (s*v.1) (k+1):=by
     rcases hpm with h | h
     ·rw [h,ZFw];exact mt.1.mono zo
     ·rw [h,show -1*v.1=- v.1 by grind];exact mt.1.neg.mono zo
    have zs2:=Zdd (s*v.1) hsz zo;have nz2:¬(s*v.1).num.sign=0:=by rw [Zdv];exact λh=>by rcases Rat.mul_eq_zero.1 h with h | h;exact hsn h;exact nt h
    have hou2:(out++[(s*v.1,v.2)]).map qtA=out.map qtA++[.agg [.v (.bool (decide ((s*v.1).num < 0))),lim (toL (s*v.1).num.natAbs),lim (toL (s*v.1).den),.sl 4 (v.2.map Qt.av)]]:=by rw [ZCp];rfl
    clear mt nt hsz hpm;obtain⟨v1,v2⟩:=v;simp only at *;have e2:e 2=.sl 4 (.agg [.v (.bool (decide (v1.num < 0))),lim (toL v1.num.natAbs),lim (toL v1.den),.sl 4 (v2.map Qt.av)] :: (q.drop (l+1)).map qtA):=e2;have hdq:(q.drop l).map qtA=.agg [.v (.bool (decide (v1.num < 0))),lim (toL v1.num.natAbs),lim (toL v1.den),.sl 4 (v2.map Qt.av)] :: (q.drop (l+1)).map qtA:=hdq;have ca2:Pure prog f [.agg [.v (.bool false),lim [],lim one],.agg [.v (.bool (decide (v1.num < 0))),lim (toL v1.num.natAbs),lim (toL v1.den)]] (ratQ (s*v1)):=ca2;generalize (s*v1).num.sign=z at *;generalize s*v1=w at *;generalize hO:out.map qtA=O at *
    generalize hQd:(q.drop (l+1)).map qtA=QD at *;have htq:QD.take (q.length - (l+1))=QD:=ZD3 zo;generalize v2.map Qt.av=V2 at *
    (refine wkad (w_12 e1 e2 e3 m3 e8 m8 e7 m79 hlen hel htq nz2) (w_2 ca2 zs2) (w_2 (w_d 9 [] [] [10,11]) (w_d 14 [] [] [11])) (w_s ?_);intros)
    refine⟨(p.length,l+1),⟨by simp only;omega,by simp only;omega,by rw [hp0];exact gW e1,by rw [hQd];exact gC,gW e3,gW m3,gW e8,gW m8,_,out++[(w,v2)],gC,by rw [hou2];exact gC,by simp only [ZCr,ZCd,ZCq];omega,hs⟩,by simp only;omega⟩
   ·have hl3:l=q.length:=zo;subst hl3;rw [show q.drop q.length=[] from ZEj (ZBw _)] at e2;have e2:e 2=.sl 4 []:=e2;rw [Zi1 (.inl (ZBw _)),ZEj (ZBw _),ZEj (l:=sclT s q) (by rw [Zc1];exact ZBw _),ZDf,ZDf] at hs;rw [hs];clear hp hq np nq hs;generalize hO:out.map qtA=O at *;rw [show qpA out=.sl 4 O from ZDi _ hO]
    (refine wkad (w_9 e1 e2 e3 m3 e8 m8 e7 m79 hlen) w_t w_t (w_s ?_);intros)
    all_goals exact gM (w_1 m79)
 ·exact⟨ZB5 _,ZB5 _,gC,gC,gC,gC,gC,gC,_,[],gC,gC,ZB5 _,by simp⟩
end Go.Proofs.YtkefeinbjbeidaaGreatDoor
namespace Go.Proofs.YtkefeinbjbeidaaGreatDoor
open Go Go.RowKit Go.Pg Go.Proofs.Tryz
theorem szBld:szOf prog 268=some 2:=by kernel_rfl
theorem zBld:Zao prog 268=some (.agg #[.pointer none,.slice none 0 0]):=by kernel_rfl
theorem szSl8:szOf prog 113=some 1:=by kernel_rfl
theorem zSl8:Zao prog 113=some (.slice none 0 0):=by kernel_rfl
theorem szPB:szOf prog 266=some 1:=by kernel_rfl
theorem zPB:Zao prog 266=some (.pointer none):=by kernel_rfl
theorem Zso (w:World) (a:Addr) (n:Nat) (ad:Addr):(w.freeze a n).cell? ad=w.cell? ad:=by
 unfold World.freeze;split
 ·rfl
 ·unfold World.cell?;simp only [ZFn];by_cases h:a.block=ad.block
  ·rw [ZBv h]
   cases hh:w.heap[ad.block]? with
   | none=>rfl
   | some o=>cases o<;>rfl
  ·rw [ZBu h]
theorem Zqd (w:World) (g n:Nat):w.grownBy (w.freeze ⟨g,0,none⟩ n) (some g):=by
 unfold World.freeze;split
 ·exact⟨rfl,rfl,rfl,ZBw _,λk _ _=>rfl⟩
 ·exact⟨rfl,rfl,rfl,by simp,λk _ hk=>by
   simp only [ZFn];rw [ZBu (λe=>hk (by rw [←e]))]⟩
theorem mem_drop {c:Cx} {σ:Mem} {w w':World} {imm:Imm} (h:Mx c σ w imm) {row:Option Nat} (hg:w.grownBy w' row) (hdw:w.drawn≤w'.drawn) (hB:∀g,row=some g→c.B≤g) (hcell:∀ad,imm ad→w'.cell? ad=w.cell? ad)
 (k:Nat) (hoth:∀j e2 b,j≠k→σ j=some e2→e2.blk=some b→some b≠row):Mx c (upd σ k none) w' imm∧Keeps w imm w' imm:=by
 refine⟨⟨⟨λj e2 hj=>?_,λj j' e1 e2 b h1 h2 h3 h4=>?_,λad h1=>ZDx (h.ok.lt ad h1) hg.size,λad h1=>h.ok.spot ad h1⟩,h.below.grown hg hdw h.lt (λg hg'=>hB g hg'),ZB1 h.lt hg.size,h.old,h.new,λad h1=>(hcell ad (h.old ad h1)).trans (h.cells ad h1)⟩,λad h1=>⟨h1,hcell ad h1⟩⟩
 ·rw [Zan] at hj;by_cases hjk:j=k
  ·rw [ZBv hjk] at hj;cases hj
  ·rw [ZBu hjk] at hj;refine(h.ok.ent j e2 hj).keep hg ?_ (λ_ h1=>h1) hcell λad h1=>.inl h1;rcases hb:e2.blk with _ | b
   ·exact .inl rfl
   ·exact .inr (hoth j e2 b hjk hj hb)
 ·rw [Zan] at h1 h2;by_cases hjk:j=k
  ·rw [ZBv hjk] at h1;cases h1
  ·by_cases hjk':j'=k
   ·rw [ZBv hjk'] at h2;cases h2
   ·rw [ZBu hjk] at h1;rw [ZBu hjk'] at h2;exact h.ok.apart j j' e1 e2 b h1 h2 h3 h4
theorem ubVs {w:World} {imm:Imm} {KB g:Nat} {vs:Array Value} (hl:[AV.pbox KB g 0].length=vs.size) (hr:∀(j:Nat) (a:AV) (x:Value),[AV.pbox KB g 0][j]?=some a→vs[j]?=some x→Rs w imm a x):vs=#[.pointer (some ⟨g,0,none⟩)]:=by
 have h1:vs.size=1:=hl.symm;have h2:=hr 0 _ vs[0] rfl (ZDa zo);have h3:=h2.pbox_inv;refine Array.ext (by simpa using h1) λi hi hj=>?_;have:i=0:=zo;subst this
 simpa using h3
theorem ubCur {cur:Array Value} (h:2=cur.size):∃x y,cur=#[x,y]:=by
 refine⟨cur[0],cur[1],Array.ext (by simpa using h.symm) λi hi hj=>?_⟩
 match i,hi,hj with
 | 0,_,_=>rfl
 | 1,_,_=>rfl
 | i+2,hi,_=>omega
theorem bldCheck (σ:Mem) (KB g:Nat) (c0 c1:AV) (hB:σ KB=some (.box g 268 [c0,c1] false)) (h0:c0=.v (.pointer none)∨c0=.pbox KB g 0) :
 ACall prog 285 [.pbox KB g 0] σ λr σ'=>r=.tup []∧σ'=upd σ KB (some (.box g 268 [.pbox KB g 0,c1] false)):=by
 refine⟨call285,λc w imm vs hm hl hr=>?_⟩;obtain rfl:=ubVs hl hr;obtain⟨cur,hh,hBg,hlen,hone,hrs,hp,hq⟩:=hm.ok.ent KB _ hB;obtain⟨x,y,rfl⟩:=ubCur hlen;have hx:=hrs 0 _ x rfl rfl;have hy:=hrs 1 _ y rfl rfl;have c0':w.cell? ⟨g,0,none⟩=some x:=by rw [Lib.cell_of_heap hh];rfl
 rcases h0 with rfl | rfl
 ·obtain rfl:=hx.v_inv;refine(ubFresh g w c0' (by simp [World.shape?,hh]) (by simp [World.frozen?,hh])).mono ?_
  rintro e w' ⟨rfl,rfl⟩
  have hgr:w.grownBy (w.setCell ⟨g,0,none⟩ (.pointer (some ⟨g,0,none⟩))) (some g):=⟨rfl,rfl,rfl,by simp,λk _ hk=>heap_setCell_other w ⟨g,0,none⟩ k _ (λe=>hk (by simp [e]))⟩;have hcell:∀ad,imm ad→(w.setCell ⟨g,0,none⟩ (.pointer (some ⟨g,0,none⟩))).cell? ad=w.cell? ad:=λad h2=>Zdh hgr (hm.ok.lt ad h2) (by
   have hne:ad.block≠g:=λe=>by have:=hp ad h2 e;cases this
   simpa using hne)
  have hkeep:Keeps w imm (w.setCell ⟨g,0,none⟩ (.pointer (some ⟨g,0,none⟩))) imm:=λad h2=>⟨h2,hcell ad h2⟩;refine⟨.tup [],_,imm,_,rfl,⟨rfl,rfl⟩,.pure (.tup [] #[] rfl λj a x h1 _=>by simp at h1),Zdt hm hgr (ZBw _) (λg' hg'=>by cases hg';exact hBg) hcell KB _ ⟨_,heap_setCell_same w g 0 _ _ _ hh,hBg,rfl,λb hb=>?_,λj b z h2 h3=>?_,hp,λh2=>by cases h2⟩ λj e2 b h2 h3 h4=>?_⟩
  ·simp only [ZFi,List.not_mem_nil,or_false] at hb;rcases hb with rfl | rfl
   ·rfl
   ·exact hone _ zs
  ·match j,h2,h3 with
   | 0,h2,h3 =>
     simp only [ZEv,Option.some.injEq] at h2;subst h2;have:z=.pointer (some ⟨g,0,none⟩):=by simpa using h3.symm
     subst this;exact .pbox _ _ _
   | 1,h2,h3 =>
     simp only [ZF0,ZEv,Option.some.injEq] at h2;subst h2;have:z=y:=by simpa using h3.symm
     subst this;exact hkeep.rs hy
   | j+2,h2,h3=>simp at h2
  ·have:b≠g:=λe=>h2 (hm.ok.apart j KB e2 _ g h3 hB (e ▸ h4) rfl);exact⟨by simpa using this,by simpa [Ent.blk] using λe=>this e.symm⟩
 ·obtain rfl:=hx.pbox_inv;refine(ubUsed g w c0').mono ?_
  rintro e w' ⟨rfl,rfl⟩
  have he:upd σ KB (some (.box g 268 [.pbox KB g 0,c1] false))=σ:=by
   funext k
   rw [Zan];split
   ·rename_i h;rw [h,hB]
   ·rfl
  exact⟨.tup [],_,imm,_,rfl,⟨rfl,rfl⟩,.pure (.tup [] #[] rfl λj a x h1 _=>by simp at h1),by rw [he];exact hm,Keeps.refl _ _⟩
theorem ZA8 (σ:Mem) (KB KT g:Nat) (sv:Value) (c0:AV) (l:List UInt8) (hB:σ KB=some (.box g 268 [c0,.own KT sv] false)) (hT:σ KT=some (.row sv 5 1 (l.map λb=>.v (.int .u8 b.toNat)) 0)) (h0:l≠[]) :
 ACall prog 246 [.pbox KB g 0] σ λr σ'=>r=.v (.string ⟨l.toArray⟩)∧σ'=upd σ KT none:=by
 refine⟨call246,λc w imm vs hm hl hr=>?_⟩;obtain rfl:=ubVs hl hr;obtain⟨cur,hh,hBg,hlen,hone,hrs,hp,hq⟩:=hm.ok.ent KB _ hB;obtain⟨x,y,rfl⟩:=ubCur hlen;have hy:=hrs 1 _ y rfl rfl;obtain rfl:=hy.own_inv;obtain⟨xs,hown,-,-,hrd,-,hpi,-⟩:=hm.ok.ent KT _ hT;have hl0:l.length≠0:=by simpa using h0
 have hll:(l.map λb=>AV.v (.int .u8 b.toNat)).length=l.length:=ZB2 ..;rw [hll] at hown;rcases hown.2 with⟨_,h2⟩ | ⟨gr,cap,cur,rfl,hBr,hhr,hnc,hcm,hcs,htake⟩
 ·exact absurd h2 hl0
 have hxs:∀(j:Nat) (z:UInt8),l[j]?=some z→xs[j]?=some (Value.int .u8 z.toNat):=λj z hz=>by
  have hj:j < xs.length:=by rw [hown.1,ZEl];exact(List.getElem?_eq_some_iff.1 hz).1
  have:=hrd j (.v (.int .u8 z.toNat)) xs[j] (by rw [Zwf l λb:UInt8=>(.int .u8 b.toNat:Value),ZC4,hz];rfl) (ZB6 hj);have:=(Rs.pure this).v_inv;rw [ZB6 hj,this]
 refine(ubString g gr cap x cur l w hh hhr h0 hnc hcm (by rw [hcs,ZEl]) λj z hz=>?_).mono ?_
 ·have hj:=(List.getElem?_eq_some_iff.1 hz).1;have:=hown.cellAt j zo;rw [ZDm,ZCl,this,hxs j z hz]
 ·rintro e w' ⟨rfl,rfl⟩
  have hgr:w.grownBy (w.drew.freeze ⟨gr,0,none⟩ l.length) (some gr):=by
   have:=Zqd w.drew gr l.length;exact⟨this.os,this.tape,this.output,this.size,this.block⟩
  have hdw:w.drawn≤w.drew.drawn:=Nat.le_succ w.drawn;have hcell:∀ad,imm ad→(w.drew.freeze ⟨gr,0,none⟩ l.length).cell? ad=w.cell? ad:=λad _=>by rw [Zso];rfl
  obtain⟨h1,h2⟩:=mem_drop hm hgr (by have h1:(w.drew.freeze ⟨gr,0,none⟩ l.length).drawn=w.drew.drawn:=by unfold World.freeze;(repeat' split)<;>rfl
                                     rw [h1];exact hdw) (λg' hg'=>by cases hg';exact hBr) hcell KT λj e2 b h2 h3 h4 he=>h2 (hm.ok.apart j KT e2 _ gr h3 hT (by cases he;exact h4) rfl)
  exact⟨_,_,imm,_,rfl,⟨rfl,rfl⟩,.pure (.v _),h1,h2⟩
end Go.Proofs.YtkefeinbjbeidaaGreatDoor
namespace Go.Proofs.YtkefeinbjbeidaaGreatDoor
open Go Go.RowKit Go.Pg Go.Proofs.Tryz
attribute [-bool_to_prop] Bool.and_eq_decide Bool.or_eq_decide Bool.decide_beq_decide decide_eq_decide
attribute [go_sem] underlying268 underlying266 underlying23 szBld zBld szSl8 zSl8 szPB zPB
def by8 (b:UInt8):AV:=.v (.int .u8 b.toNat)
theorem bldLen (σ:Mem) (KB KT g:Nat) (sv:Value) (c0:AV) (l:List UInt8) (hB:σ KB=some (.box g 268 [c0,.own KT sv] false)) (hT:σ KT=some (.row sv 5 1 (l.map by8) 0)) :
 ACall prog 244 [.pbox KB g 0] σ λr σ'=>r=iv l.length∧σ'=σ:=by
 have mB:=Zay hB;have mT:=Zay hT;simp only [Ent.sh,AV.shL,AV.sh] at mB mT;have hl:(l.map by8).length=l.length:=ZB2 ..;refine Zbc func244 rfl ntmps244 results244 call244 zr zs ?_;generalize l.map by8=L at *
 (refine wkap (w_3 mB mT hl) w_t (w_r 0) (w_s ?_);intros)
 simp (disch:=omega) only [go_sem];exact Zik (Sub.refl _) ⟨rfl,rfl⟩ (Agr.start σ)
theorem bldWrite (σ:Mem) (KB KT g:Nat) (sv:Value) (c0:AV) (l:List UInt8) (b:UInt8) (hB:σ KB=some (.box g 268 [c0,.own KT sv] false)) (hT:σ KT=some (.row sv 5 1 (l.map by8) 0))
 (h0:c0=.v (.pointer none)∨c0=.pbox KB g 0) (n2:KB≠KT) (hl:l.length≤100000000) :
 ACall prog 245 [.pbox KB g 0,by8 b] σ λr σ'=>∃sv',r=.v .nilIface∧σ'=upd (upd σ KT (some (.row sv' 5 1 ((l++[b]).map by8) 0))) KB (some (.box g 268 [.pbox KB g 0,.own KT sv'] false)):=by
 have mB:=Zay hB;have mT:=Zay hT;simp only [Ent.sh,AV.shL,AV.sh] at mB mT;have hl1:(l.map by8).length=l.length:=ZB2 ..;rw [ZCp];have hcc:=bldCheck (Zee σ) (KB+1000) g c0.sh (.own (KT+1000) sv) mB (by rcases h0 with rfl | rfl;exact .inl rfl;exact .inr rfl);refine Zbc func245 rfl ntmps245 results245 call245 zr zs ?_;generalize l.map by8=L at *;have hb8:by8 b=.v (.int .u8 b.toNat):=rfl;rw [hb8];simp only [AV.shL,AV.sh]
 (refine wkap (w_3 mB mT hl1) w_t (w_r 0) (w_s ?_);intros)
 refine Zgz hcc ?_
 (refine wkap (w_2 mT hl1) w_t (w_r 0) (w_s ?_);intros)
 simp (disch:=omega) only [go_sem];rename_i x1 x2;refine Zik (Sub.refl _) ⟨x2,rfl,rfl⟩ ?_;have he:∀a c d:Option Ent,upd (upd σ KT a) KB d=upd (upd (upd σ KB c) KT a) KB d:=λa c d=>by
  funext j
  simp only [Zan];by_cases h:j=KB
  ·rw [ZBv h,ZBv h]
  ·rw [ZBu h,ZBu h,ZBu h]
 rw [he _ (some (.box g 268 [.pbox KB g 0,.own KT sv] false)) _];refine Agr.put ?_ rfl rfl;refine Agr.put ?_ rfl rfl;refine Agr.own ?_ zo;refine Agr.put ?_ rfl rfl;exact Agr.start σ
end Go.Proofs.YtkefeinbjbeidaaGreatDoor
namespace Go.Proofs.YtkefeinbjbeidaaGreatDoor
open Go Go.RowKit Go.Pg Go.Proofs.Tryz
def digF:Nat→Nat→List UInt8
 | 0,_=>[]
 | f+1,n=>if n=0 then [] else digF f (n/10)++[UInt8.ofNat (48+n%10)]
def dig (n:Nat):List UInt8:=digF n n
theorem Zql:∀(f g n:Nat),n≤f→n≤g→digF f n=digF g n
 | 0,0,_,_,_=>rfl
 | 0,g+1,n,h,_=>by
   have:n=0:=zo;subst this;rfl
 | f+1,0,n,_,h=>by
   have:n=0:=zo;subst this;rfl
 | f+1,g+1,n,h1,h2=>by
   unfold digF;by_cases h:n=0
   ·rw [ZBv h,ZBv h]
   ·rw [ZBu h,ZBu h,Zql f g _ zo zo]
theorem Zu0:dig 0=[]:=rfl
theorem Zkn {n:Nat} (h:n≠0):dig n=dig (n/10)++[UInt8.ofNat (48+n%10)]:=by
 obtain⟨m,rfl⟩:∃m,n=m+1:=⟨n - 1,zo⟩;show digF (m+1) (m+1)=_;rw [digF,ZBu h];rw [Zql m ((m+1)/10) _ zo zo];rfl
theorem Zoh {n:Nat}:(dig n).length=0↔n=0:=by
 constructor
 ·intro h;rcases ZC3 n with h1 | h1
  ·exact h1
  ·rw [Zkn zo] at h;simp at h
 ·rintro rfl;rfl
theorem ZAu:∀{k n:Nat},n < 10 ^ k→(dig n).length≤k
 | 0,n,h=>by
   have:n=0:=by simpa using h
   subst this;simp [Zu0]
 | k+1,n,h=>by
   rcases ZC3 n with h1 | h1
   ·subst h1;simp [Zu0]
   ·rw [Zkn zo,ZCr];have:=ZAu (k:=k) (n:=n/10) (by rw [ZC5] at h;omega);simp only [ZCd,ZCq];omega
theorem dig_lg (n:Nat):(dig n).length≤5*(toL n).length:=by
 refine ZAu ?_;have h1:=Zae.1 (ZBw ((toL n).length))
 have h3:65536 ^ (toL n).length≤10 ^ (5*(toL n).length):=by
  rw [Nat.pow_mul];exact ZHb zd _
 omega
theorem decB_dig:∀(n:Nat) (s:ByteArray),decB n n s=⟨(dig n).toArray⟩++s:=by
 intro n
 induction n using Nat.strongRecOn with
 | ind n ih =>
   intro s;rcases ZC3 n with h | h
   ·subst h;show s=ByteArray.empty++s;rw [ByteArray.empty_append]
   ·rw [Zqm zo,ih (n/10) zo,Zkn (n:=n) zo,←ByteArray.append_assoc];congr 1
theorem Zu1 {n:Nat} (h:n≠0):decS n=⟨(dig n).toArray⟩:=by
 unfold decS;rw [ZBu h,decB_dig,ByteArray.append_empty]
def g4F:Nat→Nat→List Nat
 | 0,_=>[]
 | f+1,n=>if n=0 then [] else n%10000 :: g4F f (n/10000)
def g4 (n:Nat):List Nat:=g4F n n
theorem Zus:∀(f g n:Nat),n≤f→n≤g→g4F f n=g4F g n
 | 0,0,_,_,_=>rfl
 | 0,g+1,n,h,_=>by
   have:n=0:=zo;subst this;rfl
 | f+1,0,n,_,h=>by
   have:n=0:=zo;subst this;rfl
 | f+1,g+1,n,h1,h2=>by
   unfold g4F;by_cases h:n=0
   ·rw [ZBv h,ZBv h]
   ·rw [ZBu h,ZBu h,Zus f g _ zo zo]
theorem ZAa {n:Nat} (h:n≠0):g4 n=n%10000 :: g4 (n/10000):=by
 obtain⟨m,rfl⟩:∃m,n=m+1:=⟨n - 1,zo⟩;show g4F (m+1) (m+1)=_;rw [g4F,ZBu h];rw [Zus m ((m+1)/10000) _ zo zo];rfl
theorem ZAt (n i:Nat):n/10000 ^ (i+1)=n/10000/10000 ^ i:=by
 rw [ZC5,ZCy,ZGx]
theorem Zuz (n i:Nat):n/10000 ^ (i+1)=n/10000 ^ i/10000:=by
 rw [ZC5,ZGx]
theorem Zwe:∀(i n:Nat),i < (g4 n).length↔n/10000 ^ i≠0
 | i,n=>by
   rcases ZC3 n with h | h
   ·subst h;simp [g4,g4F]
   ·rw [ZAa zo,ZCd]
    cases i with
    | zero=>simp;omega
    | succ i=>rw [ZAt,←Zwe i (n/10000)];omega
theorem ZAb:∀(i n:Nat) (h:i < (g4 n).length),(g4 n)[i]=n/10000 ^ i%10000
 | i,n,h=>by
   have h0:n≠0:=by rintro rfl;simp [g4,g4F] at h
   have e:=ZAa h0;have e2:(g4 n)[i]?=(n%10000 :: g4 (n/10000))[i]?:=by rw [e]
   rw [ZB6 h] at e2
   cases i with
   | zero =>
     simp only [ZEv,Option.some.injEq] at e2;rw [e2];simp
   | succ i =>
     have h2:i < (g4 (n/10000)).length:=by rw [e,ZCd] at h;omega
     rw [ZF0,ZB6 h2,Option.some.injEq,ZAb i _ h2,←ZAt] at e2;exact e2
theorem g4_len (n:Nat):(g4 n).length≤5*(toL n).length:=by
 rcases ZC3 (g4 n).length with h | h
 ·omega
 ·have h0:=(Zwe ((g4 n).length - 1) n).1 zo;generalize (g4 n).length=L at *;have h1:=Zae.1 (ZBw ((toL n).length))
  have h3:65536 ^ (toL n).length≤10000 ^ (2*(toL n).length):=by
   rw [Nat.pow_mul];exact ZHb zd _
  have h4:10000 ^ (L - 1)≤n:=by
   rcases ZCg n (10000 ^ (L - 1)) with h5 | h5
   ·exact absurd (ZGy h5) h0
   ·exact h5
  have h5:10000 ^ (L - 1) < 10000 ^ (2*(toL n).length):=zo;have:=(Nat.pow_lt_pow_iff_right (by decide:1 < 10000)).1 h5;omega
end Go.Proofs.YtkefeinbjbeidaaGreatDoor
namespace Go.Proofs.YtkefeinbjbeidaaGreatDoor
open Go Go.RowKit Go.Pg Go.Proofs.Tryz
attribute [-bool_to_prop] Bool.and_eq_decide Bool.or_eq_decide Bool.decide_beq_decide decide_eq_decide
def w16 (x:Nat):AV:=.v (.int .u16 (x:Int))
theorem g4_take {n i:Nat} (h:n/10000 ^ i≠0):((g4 n).take (i+1)).map w16=((g4 n).take i).map w16++[.v (.int .u16 ((n/10000 ^ i%10000:Nat):Int))]:=by
 have hi:=(Zwe i n).2 h;rw [ZFu,ZB6 hi,ZAb i n hi,ZCp];rfl
theorem g4_all {n i:Nat} (hi:i≤(g4 n).length) (h:n/10000 ^ i=0):i=(g4 n).length:=by
 rcases ZCg i (g4 n).length with h1 | h1
 ·exact absurd h ((Zwe i n).1 h1)
 ·omega
theorem dig_w8 (x:Nat) (h:x < 10):by8 (UInt8.ofNat (48+x))=.v (.int .u8 ((48+x:Nat):Int)):=by
 unfold by8;rw [show(UInt8.ofNat (48+x)).toNat=48+x from(UInt8.toNat_ofNat' ..).trans zo]
def dl:Nat→Nat
 | 0=>1000 | 1=>100 | 2=>10 | 3=>1 | _=>0
def vl (V g:Nat):Nat→Nat
 | 0=>V | 1=>(V*10000+g)/1000 | 2=>(V*10000+g)/100 | 3=>(V*10000+g)/10 | _=>V*10000+g
theorem vl_step {V g j:Nat} (hg:g < 10000) (hj:j < 4):vl V g (j+1)=vl V g j*10+g/dl j%10∧(vl V g j=0→V=0)∧(vl V g j=0→(vl V g (j+1)=0↔g < dl j))∧dl j/10=dl (j+1)∧0 < dl j∧dl j≤1000∧vl V g j≤V*10000+g:=by
 match j,hj with
 | 0,_=>(show(V*10000+g)/1000=V*10+g/1000%10∧(V=0→V=0)∧(V=0→((V*10000+g)/1000=0↔g < 1000))∧1000/10=100∧0 < 1000∧1000≤1000∧V≤V*10000+g;omega)
 | 1,_=>(show(V*10000+g)/100=(V*10000+g)/1000*10+g/100%10∧((V*10000+g)/1000=0→V=0)∧((V*10000+g)/1000=0→((V*10000+g)/100=0↔g < 100))∧100/10=10∧0 < 100∧100≤1000∧(V*10000+g)/1000≤V*10000+g;omega)
 | 2,_=>(show(V*10000+g)/10=(V*10000+g)/100*10+g/10%10∧((V*10000+g)/100=0→V=0)∧((V*10000+g)/100=0→((V*10000+g)/10=0↔g < 10))∧10/10=1∧0 < 10∧10≤1000∧(V*10000+g)/100≤V*10000+g;omega)
 | 3,_=>(show V*10000+g=(V*10000+g)/10*10+g/1%10∧((V*10000+g)/10=0→V=0)∧((V*10000+g)/10=0→(V*10000+g=0↔g < 1))∧1/10=0∧0 < 1∧1≤1000∧(V*10000+g)/10≤V*10000+g;omega)
theorem dig_next {v x:Nat} (h:v*10+x≠0) (hx:x < 10):dig (v*10+x)=dig v++[UInt8.ofNat (48+x)]:=by
 rw [Zkn h,show(v*10+x)/10=v from by omega,show(v*10+x)%10=x from by omega]
theorem Zy6 (n:Nat) (hn:(toL n).length≤10000000):Pure prog 191 [lim (toL n)] (.v (.string (decS n))):=by
 have cn:=Zpx n zo;by_cases h0:n=0
 ·subst h0;have l0:(toL 0).length=0:=by rw [Zax];rfl
  refine pI func191 rfl ntmps191 results191 call191 ?_
  (refine wkvp (w_2 l0 @ZDp) (w_1 cn) (w_s ?_);intros)
  simp (disch:=omega) only [go_sem];rfl
 ·have hp:=Za6.2 (ZDl h0);have hG:=g4_len n;have hD:=Zu1 h0;rw [hD];refine pI func191 rfl ntmps191 results191 call191 ?_
  (refine wkvp w_t (w_1 cn) (w_s ?_);intros)
  refine Zfb (Frz.nilOwn (d:=3) 500 1 161 (gC)) ?_;refine Zad (ι:=Nat) (λi e m=>i≤(g4 n).length∧e 0=lim (toL (n/10000 ^ i))∧∃sv,e 3=.own 500 sv∧m 500=some (.row sv 161 1 (((g4 n).take i).map w16) 0)) (λi=>(g4 n).length - i) 0 zr ?_ ?_
  ·rintro i e m ⟨hi,e0,sv,e3,m500⟩
   have hlr:(((g4 n).take i).map w16).length≤100000000:=by rw [ZB2,ZCh];omega
   by_cases hk0:n/10000 ^ i=0
   ·have hiL:=g4_all hi hk0;rw [hk0] at e0;subst hiL;rw [ZDg] at m500;clear hlr;have l0:(toL 0).length=0:=by rw [Zax];rfl
    have hGl:((g4 n).map w16).length=(g4 n).length:=ZB2 ..;have hGp:0 < (g4 n).length:=(Zwe 0 n).2 (by simpa using h0);have gg:∀i (h:i < (g4 n).length),((g4 n).map w16).getD i .u=.v (.int .u16 ((n/10000 ^ i%10000:Nat):Int)):=λi h=>by
     rw [Zam w16 h,ZAb i n h];rfl
    generalize (g4 n).map w16=W at *
    (refine wkvp (w_6 e0 e3 m500 l0 @ZDp hGl) w_t (w_s ?_);intros)
    rename_i gB;refine Zfb (Frz.nilBox (k:=6) 1 501 1 5 (gC) rfl zo) ?_;refine Zad (ι:=Nat) (λi e m=>i≤(g4 n).length∧(e 3=.own 500 sv∧e 6=.pbox 6 gB 0∧e 7=.v (.int .i64 (((g4 n).length:Int) - 1 - (i:Int)))∧m 500=some (.row sv 161 1 W 0))∧∃c0 sv2,m 6=some (.box gB 268 [c0,.own 501 sv2] false)∧(c0=.v (.pointer none)∨c0=.pbox 6 gB 0)∧m 501=some (.row sv2 5 1 ((dig (n/10000 ^ ((g4 n).length - i))).map by8) 0)) (λi=>(g4 n).length - i) 0 zr ?_ ?_
    ·rintro i e m ⟨hi,⟨e3,e6,e7,m500⟩,c0,sv2,m6,hc0,m501⟩
     by_cases hlt:i < (g4 n).length
     ·obtain⟨p,hp⟩:∃p,(g4 n).length=p+1+i:=⟨(g4 n).length - 1 - i,zo⟩;have ggp:=gg p zo;have hV:n/10000 ^ ((g4 n).length - i)=n/10000 ^ p/10000:=by rw [show(g4 n).length - i=p+1 from by omega,Zuz]
      have hV2:n/10000 ^ ((g4 n).length - (i+1))=n/10000 ^ p:=by rw [show(g4 n).length - (i+1)=p from by omega]
      have hT:n/10000 ^ p/10000*10000+n/10000 ^ p%10000=n/10000 ^ p:=zo;have hle:n/10000 ^ p≤n:=ZF6 _ _;have e7:e 7=iv p:=by rw [e7];congr 2;omega
      have hgl:n/10000 ^ p%10000 < 10000:=ZDj _ zo;rw [hV] at m501;clear gg hV;generalize n/10000 ^ p%10000=g at *;generalize hVe:n/10000 ^ p/10000=V at *
      (refine wkap (w_7 e3 e6 e7 m500 m6 m501 hGl) w_t (w_r 0) (w_s ?_);intros)
      refine Zad (ι:=Nat) (λj e m=>j≤4∧(e 3=.own 500 sv∧e 6=.pbox 6 gB 0∧e 7=iv p∧e 8=.v (.int .u16 (dl j:Nat))∧m 500=some (.row sv 161 1 W 0))∧∃c0 sv2,m 6=some (.box gB 268 [c0,.own 501 sv2] false)∧(c0=.v (.pointer none)∨c0=.pbox 6 gB 0)∧m 501=some (.row sv2 5 1 ((dig (vl V g j)).map by8) 0)) (λj=>4 - j) 0 zr ?_ ?_
      ·rintro j e m ⟨hj,⟨e3,e6,e7,e8,m500⟩,c0,sv2,m6,hc0,m501⟩
       by_cases hj4:j < 4
       ·obtain⟨s1,s2,s3,s4,s5,s6,s7⟩:=vl_step (V:=V) hgl hj4
        have hdl:(dig (vl V g j)).length≤100000000:=by
         have h1:=dig_lg (vl V g j);have h2:=Zd4 (n:=vl V g j) (m:=n) zo;omega
        have hdz:=Zoh (n:=vl V g j);have hx:g/dl j%10 < 10:=ZDj _ zo;have hdn:=dig_next (v:=vl V g j) (x:=g/dl j%10);rw [←s1] at hdn;obtain⟨v1,hv1⟩:∃v1,vl V g (j+1)=v1:=⟨_,rfl⟩;rw [hv1] at s1 s3 hdn;generalize vl V g j=v at *;generalize dl j=d at *
        have w0:IntKind.u16.wrap ((g/d:Nat):Int)=((g/d:Nat):Int):=by
         have:g/d≤g:=ZF6 _ _;show((g/d:Nat):Int)%65536=_;generalize g/d=z at *;omega
        have w1:IntKind.u16.wrap (48+(((g/d:Nat):Int)).tmod 10)=((48+g/d%10:Nat):Int):=by
         rw [Int.tmod_eq_emod_of_nonneg (ZFo _)];show(48+((g/d:Nat):Int)%10)%65536=_;generalize g/d=z at *;omega
        have w3:IntKind.u16.wrap ((d:Int).tdiv 10)=((d/10:Nat):Int):=by
         rw [Int.tdiv_eq_ediv_of_nonneg (ZFo _)];show((d:Int)/10)%65536=_;omega
        have w2:IntKind.u8.wrap ((48+g/d%10:Nat):Int)=((48+g/d%10:Nat):Int):=by
         show(((48+g/d%10:Nat):Int))%256=_;omega
        have hb8:=dig_w8 (g/d%10) hx;have cl:=fun(m:Mem) a b=>bldLen m 6 501 gB sv2 c0 (dig v) a b;have cw:=fun(m:Mem) a b=>bldWrite m 6 501 gB sv2 c0 (dig v) (UInt8.ofNat (48+g/d%10)) a b hc0 zo hdl;rw [hb8] at cw
        (refine wkap (w_8 e3 e6 e7 e8 m500 m6 m501 hGl) w_t (w_r 0) (w_s ?_);intros)
        refine Zds (cl _ (gW m6) (gW m501)) ?_
        rintro _ _ ⟨rfl,rfl⟩
        by_cases hv:v=0
        ·have hl0:=hdz.2 hv;by_cases hgd:g < d
         ·(refine wkap (w_16 e3 e6 e7 e8 m500 m6 m501 hGl ggp @Zd0 w0 w1 w2 w3 hl0 @ZDp) w_t (w_r 0) (w_s ?_);intros)
          exact⟨j+1,⟨zo,⟨gW e3,gW e6,gW e7,by rw [←s4];exact gC,gW m500⟩,c0,sv2,gW m6,hc0,by rw [hv1,(s3 hv).2 hgd];rw [hv] at m501;exact gW m501⟩,zo⟩
         ·have hne:=λh=>hgd ((s3 hv).1 h)
          (refine wkap (w_16 e3 e6 e7 e8 m500 m6 m501 hGl ggp @Zd0 w0 w1 w2 w3 hl0 @ZDp) w_t (w_r 0) (w_s ?_);intros)
          refine Zds (cw _ (gW m6) (gW m501)) ?_
          rintro _ _ ⟨sv3,rfl,rfl⟩
          (refine wkap (w_7 e3 e6 e7 e8 m500 hGl w3) w_t (w_r 0) (w_s ?_);intros)
          exact⟨j+1,⟨zo,⟨gW e3,gW e6,gW e7,by rw [←s4];exact gC,gW m500⟩,.pbox 6 gB 0,sv3,gC,.inr rfl,by rw [hv1,hdn zo hx];exact gC⟩,zo⟩
        ·have hlp:0 < (dig v).length:=ZDl λh=>hv (hdz.1 h)
         (refine wkap (w_14 e3 e6 e7 e8 m500 m6 m501 hGl ggp @Zd0 w0 w1 w2 w3) w_t (w_r 0) (w_s ?_);intros)
         refine Zds (cw _ (gW m6) (gW m501)) ?_
         rintro _ _ ⟨sv3,rfl,rfl⟩
         (refine wkap (w_7 e3 e6 e7 e8 m500 hGl w3) w_t (w_r 0) (w_s ?_);intros)
         exact⟨j+1,⟨zo,⟨gW e3,gW e6,gW e7,by rw [←s4];exact gC,gW m500⟩,.pbox 6 gB 0,sv3,gC,.inr rfl,by rw [hv1,hdn zo hx];exact gC⟩,zo⟩
       ·have:j=4:=zo;subst this;have e8:e 8=.v (.int .u16 0):=e8;have h4:vl V g 4=n/10000 ^ p:=hT;rw [h4] at m501
        (refine wkap (w_8 e3 e6 e7 e8 m500 m6 m501 hGl) w_t (w_r 0) (w_s ?_);intros)
        exact⟨i+1,⟨zo,⟨gW e3,gW e6,by(simp (disch:=omega) only [go_sem,e7];congr 2;omega),gW m500⟩,c0,sv2,gW m6,hc0,by rw [hV2];exact gW m501⟩,zo⟩
      ·exact⟨zo,⟨gW e3,gW e6,gW e7,by show _=AV.v (.int .u16 1000);exact gC,gW m500⟩,c0,sv2,gW m6,hc0,by show _=some (Ent.row sv2 5 1 ((dig V).map by8) 0);exact gW m501⟩
     ·have:i=(g4 n).length:=zo;subst this;have e7:e 7=.v (.int .i64 (-1)):=by rw [e7];congr 2;omega
      rw [ZE8,ZFq,ZFm] at m501;have hne:dig n≠[]:=λh=>h0 (Zoh.1 (by rw [h];rfl));have cs:=fun(m:Mem) a (b:m 501=some (.row sv2 5 1 ((dig n).map by8) 0))=>ZA8 m 6 501 gB sv2 c0 (dig n) a b hne
      (refine wkap (w_7 e3 e6 e7 m500 m6 m501 hGl) w_t (w_r 0) (w_s ?_);intros)
      refine Zds (cs _ (gW m6) (gW m501)) ?_
      rintro _ _ ⟨rfl,rfl⟩
      (refine wkap w_t w_t (w_r 0) (w_s ?_);intros)
      all_goals simp (disch:=omega) only [go_sem]
    ·exact⟨ZB5 _,⟨gW e3,gC,by(simp (disch:=omega) only [go_sem];congr 2;omega),gW m500⟩,.v (.pointer none),.slice none 0 0,gC,.inl rfl,by rw [ZEs,hk0];exact gC⟩
   ·have hkp:=Za6.2 (ZDl hk0);have hilt:=(Zwe i n).2 hk0;have hlk:(toL (n/10000 ^ i)).length≤(toL n).length:=Zd4 (ZF6 _ _);have ht:=g4_take hk0;have hdp:=Zuz n i;have cb:=Zpw (toL (n/10000 ^ i)) 10000 zo (Zar _) zo zo;rw [Zap,←hdp] at cb;clear hdp;generalize ((g4 n).take i).map w16=W at *;generalize n/10000 ^ i%10000=x at *;obtain⟨y,hy⟩:∃y,n/10000 ^ (i+1)=y:=⟨_,rfl⟩;rw [hy] at cb;generalize n/10000 ^ i=z at *
    (refine wkvp (w_3 e0 e3 m500) (w_1 cb) (w_s ?_);intros)
    exact⟨i+1,⟨zo,by rw [hy];exact gC,_,gC,by rw [ht];exact gC⟩,zo⟩
  ·exact⟨ZB5 _,by rw [ZFq,ZFm];exact gC,_,gC,gC⟩
attribute [local go_sem] Zav Zaw Zas Zxc ZAm List.append_eq
theorem intText (z:Int) (hz:(toL z.natAbs).length≤10000000):Pure prog 190 [intZ z] (.v (.string (decZ z))):=by
 have cs:=iSign z zo;have ct:=Zy6 z.natAbs hz;have hs:=Zdu z.natAbs;have h45:(Zes [45]).size=1:=Zc0 _;unfold decZ;have e45:Zes [45]=⟨#[45]⟩:=rfl;rw [e45] at h45 ⊢;generalize decS z.natAbs=s at *;by_cases h:z < 0
 ·rw [ZBv h];rw [ZFr h] at cs;rw [show intZ z=.agg [.v (.bool true),lim (toL z.natAbs)] from by unfold intZ intA;rw [ZB4 h]] at *;refine pI func190 rfl ntmps190 results190 call190 ?_
  (refine wkvp (w_1 h45) (w_2 cs ct) (w_s ?_);intros)
  simp (disch:=omega) only [go_sem]
 ·rw [ZBu h];have h2:¬z.sign < 0:=by rw [Int.sign_neg_iff];exact h
  rw [show intZ z=.agg [.v (.bool false),lim (toL z.natAbs)] from by unfold intZ intA;rw [ZB3 h]] at *;generalize z.sign=x at *;refine pI func190 rfl ntmps190 results190 call190 ?_
  (refine wkvp w_t (w_2 cs ct) (w_s ?_);intros)
  simp (disch:=omega) only [go_sem]
theorem ratText (q:Rat) {k:Nat} (h:Sz q k) (hk:k≤1000000):Pure prog 110 [ratQ q] (.v (.string (decQ q))):=by
 have cp:=Zgc q h zo;have h1:=h.1;have h2:=h.2;have cr:=Zfx (decide (q.num < 0)) q.num.natAbs q.den zo zo q.den_nz;rw [show zI (decide (q.num < 0)) q.num.natAbs=q.num from by unfold zI;by_cases hq:q.num < 0<;>simp [hq]<;>omega,ZFt] at cr;have co:=Zla q.den zo;have cz:=intText q.num zo;have cd:=Zy6 q.den zo;have z1:=Zlu q.num;have z2:=Zdu q.den;have e47:Zes [47]=⟨#[47]⟩:=rfl;have h47:(Zes [47]).size=1:=Zc0 _;rw [e47] at h47;unfold decQ;rw [e47];by_cases hd:q.den=1
 ·rw [ZBv hd];rw [ZB4 hd] at co;generalize decZ q.num=s at *;refine pI func110 rfl ntmps110 results110 call110 ?_
  (refine wkad w_t (w_4 cp cr co cz) w_t (w_s ?_);intros)
  simp (disch:=omega) only [go_sem]
 ·rw [ZBu hd];rw [ZB3 hd] at co;generalize decZ q.num=s at *;generalize decS q.den=t at *;have h3:(s++⟨#[47]⟩:ByteArray).size=s.size+1:=by rw [ZCn,h47]
  refine pI func110 rfl ntmps110 results110 call110 ?_
  (refine wkad (w_2 h47 h3) (w_5 cp cr co cz cd) (w_1 (w_d 5 [(2,.v (.string s)),(6,.v (.string t))] [] [])) (w_s ?_);intros)
  simp (disch:=omega) only [go_sem]
end Go.Proofs.YtkefeinbjbeidaaGreatDoor
