/- Contracts of the functions that the law reaches, and the rules by which they are walked. They say what a call hands back for every input within the bounds that each names; no other condition. -/
import Derived.Test.YtenfejhaohihoaaGreatBm7
set_option linter.unusedSimpArgs false
set_option linter.unusedVariables false
set_option maxRecDepth 20000
set_option maxHeartbeats 16000000
namespace Go.Proofs.YtenfejhaohihoaaGreat
open Go Go.RowKit Go.Pg Go.Pol Go.Proofs.Tryz
attribute [-bool_to_prop] Bool.and_eq_decide Bool.or_eq_decide Bool.decide_beq_decide decide_eq_decide
attribute [go_sem] underlying26
attribute [local go_sem] Zbt Zba Zbb Zbc Ze6 Zbl Zfq Zcn Zbf Zbi Zck
theorem Zvv {a:Rat} {s:Nat} (h:Sz a s):∀n:Nat,Sz (a ^ n) (n*s+1)
 | 0=>by rw [Rat.pow_zero];exact(Zci 1 zo).mono zo
 | n+1=>by rw [Rat.pow_succ];exact((Zvv h n).mul h).mono (by rw [ZB7];omega)
theorem pow_sq (a:Rat):∀n:Nat,(a*a) ^ n=a ^ (2*n)
 | 0=>by rw [ZAg,Rat.pow_zero,Rat.pow_zero]
 | n+1=>by rw [Rat.pow_succ,pow_sq a n,Nat.mul_succ,Rat.pow_succ,Rat.pow_succ,Rat.mul_assoc]
abbrev evP (x:Nat→Rat) (p:Po):Rat:=evl (mv x) p
theorem Zfc (x:Nat→Rat) {p q:Po} (hp:SrtM p) (hq:SrtM q):evP x (addM p q)=evP x p+evP x q:=Zst ordM _ (λt ht=>(hp.1 t ht).2) (λt ht=>(hq.1 t ht).2)
theorem Zc7 (x:Nat→Rat) {p q:Po} (hp:SrtM p) (hq:SrtM q):evP x (subM p q)=evP x p - evP x q:=by
 have h:=Zfc x hp (Zca hq neg1);rw [show evP x (Zaw (-1) q)=evP x q*-1 from Zpb _ _ _] at h;show evP x (addM p (Zaw (-1) q))=_;rw [h];grind
theorem evP_scl (x:Nat→Rat) (a:Rat) (p:Po):evP x (sclM a p)=a*evP x p:=by
 unfold sclM;split
 ·rename_i h;rw [h,Rat.zero_mul];rfl
 ·rw [show evP x (Zaw a p)=evP x p*a from Zpb _ _ _,Rat.mul_comm]
theorem Zh6 (x:Nat→Rat) {p q:Po} (hp:SrtM p) (hq:SrtM q):evP x (mlM p q)=evP x p*evP x q:=evl_mulR ordM mulK (λa b ha hb=>mv_mul x ha hb) hp hq
theorem Zsb (x:Nat→Rat) (v:Nat):∀n,mvN x (Zdf v) n=if v < n then x v else 1
 | 0=>rfl
 | n+1=>by
   show mvN x (Zdf v) n*x n ^ (gI (Zdf v) n).toNat=_;rw [Zsb x v n,Zfb];by_cases h:n=v
   ·subst h;rw [Zx4 zo,Zx5 rfl,Zx5 zo];rw [show(1:Int).toNat=1 from rfl,Rat.pow_succ,Rat.pow_zero,ZAk,ZAk]
   ·rw [Zx4 h];rw [show(0:Int).toNat=0 from rfl,Rat.pow_zero,ZBr];by_cases h2:v < n
    ·rw [Zx5 h2,Zx5 zo]
    ·rw [Zx4 h2,Zx4 zo]
theorem Zgx (x:Nat→Rat) {v:Nat} (hv:v < 64):evP x (varM v)=x v:=by
 unfold varM;rw [Zx5 hv];show 1*mvN x (Zdf v) (Zdf v).length+0=x v;rw [Zsb,Zej,Zx5 zo]
 grind
theorem rpPow:∀(f n:Nat),n≤f→n≤1000000→∀(a:Rat) (s:Nat),Sz a s→n*s≤19000000000→Pure prog 44 [ratQ a,iv n] (ratQ (a ^ n))
 | f,0,_,_,a,s,_,_=>by
   have c1:Pure prog 42 [iv 1] (ratQ 1):=qOf 1 zo;rw [Rat.pow_zero];refine pI func44 rfl ntmps44 results44 call44 ?_;(focus (refine wklp w_t (w_1 c1) w_t (w_r 0) ?_;(repeat' first|exact w_t|apply w_l);all_goals intros))
 | 0,n+1,h,_,_,_,_,_=>zo
 | f+1,n+1,hf,hn,a,s,hs,hb=>by
   have hs2:s≤19000000000:=by rw [ZB7] at hb;omega
   have hd:(n+1)/2*(s+s)≤19000000000:=by
    refine Zye ?_ hb;rw [←Nat.two_mul,←Zzm];exact Zy5 _ zo
   have c1:=qMul a a hs hs zo zo;have c2:=rpPow f ((n+1)/2) zo zo (a*a) (s+s) (hs.mul hs) hd;have c3:=qMul ((a*a) ^ ((n+1)/2)) a (Zvv (hs.mul hs) _) hs zo zo;have hq:((n+1:Nat):Int).tdiv 2=(((n+1)/2:Nat):Int):=Zdh (n+1) 2;have hr:((n+1:Nat):Int).tmod 2=(((n+1)%2:Nat):Int):=Zd8 (n+1) 2
   have e:a ^ (n+1)=if (n+1)%2=1 then (a*a) ^ ((n+1)/2)*a else (a*a) ^ ((n+1)/2):=by
    rw [pow_sq];split
    ·rw [←Rat.pow_succ];congr 1;omega
    ·congr 1;omega
   rw [e];have h2:(n+1)%2=0∨(n+1)%2=1:=zo;have h0:((n+1:Nat):Int)≠0:=zo;have hkb:(n+1)/2≤1000000:=zo;generalize (n+1)/2=k at *;generalize (n+1)%2=z at *;generalize ((n+1:Nat):Int)=N at *;generalize (a*a) ^ k*a=u at *;generalize (a*a) ^ k=w at *;generalize a*a=b at *;clear e hs hb hd;rcases h2 with rfl | rfl
   ·rw [Zx4 zo];refine pI func44 rfl ntmps44 results44 call44 ?_;(focus (refine wkax (w_4 hq hr h0 hkb) w_t w_t w_t (w_2 c1 c2) w_t w_y (w_r 0) ?_;(repeat' first|exact w_t|apply w_l);all_goals intros))
    (all_goals (try simp (disch:=omega) only [go_sem,Zx8,Zx6,Zx5,Zx4,Int.reduceAdd,Int.reduceSub,Int.reduceToNat,Zyh]));(all_goals first|done|rfl|(congr 2;first|done|omega|(rw [Zyn];simp only [bool_to_prop,Zyj,Zyw,Zyx,Zyy,Zyz];omega))|skip)
   ·rw [Zx5 rfl];refine pI func44 rfl ntmps44 results44 call44 ?_;(focus (refine wkax (w_4 hq hr h0 hkb) w_t w_t w_t (w_3 c1 c2 c3) w_t w_y (w_r 0) ?_;(repeat' first|exact w_t|apply w_l);all_goals intros))
    (all_goals (try simp (disch:=omega) only [go_sem,Zx8,Zx6,Zx5,Zx4,Int.reduceAdd,Int.reduceSub,Int.reduceToNat,Zyh]));(all_goals first|done|rfl|(congr 2;first|done|omega|(rw [Zyn];simp only [bool_to_prop,Zyj,Zyw,Zyx,Zyy,Zyz];omega))|skip)
attribute [go_sem] underlying31
attribute [local go_sem] Za4 Za6 Zb1 Zc1 Zaz Zbk Zdb Zdd Zcp
abbrev rqC (q:Rat):List AV:=[.v (.bool (decide (q.num < 0))),lim (toL q.num.natAbs),lim (toL q.den)]
theorem rpEval (p:Po) (xs:List Rat) {k x0 s K:Nat} (hp:PK p k x0) (hx:∀j,j < xs.length→Sz (xs.getD j 0) s) (he:x0*s≤19000000000) (he2:x0≤1000000) (hk:k≤1000000) (hs:1≤s) (lp:p.length≤1000000) (lx:xs.length≤1000000)
 (hl:∀t∈p,t.2.length≤xs.length) (hm:∀t∈p,∀n,n≤t.2.length→Sz (t.1*mvN (λj=>xs.getD j 0) t.2 n) K)
 (hsum:∀i,i≤p.length→Sz (evP (λj=>xs.getD j 0) (p.take i)) K) (hK:K≤19900000000) :
 Pure prog 13 [poA p,.sl 3 (xs.map ratQ)] (.tup [ratQ (evP (λj=>xs.getD j 0) p),iv 0]):=by
 have hlp:(p.map tmA).length=p.length:=Zx9 ..;have hlx:(xs.map ratQ).length=xs.length:=Zx9 ..;have hgp:∀i (h:i < p.length),(p.map tmA).getD i .u=tmA p[i]:=λi h=>Zaj tmA h;have hgx:∀i,i < xs.length→(xs.map ratQ).getD i .u=ratQ (xs.getD i 0):=λi h=>by rw [Zaj ratQ h,Zyg,Zyf h];rfl
 have c0:Pure prog 42 [iv 0] (ratQ 0):=qOf 0 zo;have hsz:∀i (h:i < p.length),Sz p[i].1 k:=λi h=>(hp _ (Zyl h)).1;have htk:∀i (h:i < p.length),evP (λj=>xs.getD j 0) (p.take (i+1))=evP (λj=>xs.getD j 0) (p.take i)+p[i].1*mv (λj=>xs.getD j 0) p[i].2:=λi h=>by
  rw [ZAy h,show evP (λj=>xs.getD j 0) (p.take i++[p[i]])=_ from evl_app _ _ _];congr 1;show p[i].1*_+0=_;rw [ZAv]
 have hev:evP (λj=>xs.getD j 0) p=evP (λj=>xs.getD j 0) (p.take p.length):=by rw [Zy7]
 rw [hev];generalize hS:(λi=>evP (λj=>xs.getD j 0) (p.take i))=S at *;have hS0:S 0=0:=by rw [←hS];rfl
 have hSi:∀i,evP (λj=>xs.getD j 0) (p.take i)=S i:=λi=>by rw [←hS]
 simp only [hSi] at htk hsum ⊢;clear hev;show Pure _ _ [.sl 4 (p.map tmA),.sl 3 (xs.map ratQ)] _;generalize p.map tmA=L at *;generalize hX:xs.map ratQ=X at *;refine pI func13 rfl ntmps13 results13 call13 ?_;(focus (refine wkad w_t (w_1 c0) w_t ?_;(repeat' first|exact w_t|apply w_l);all_goals intros));rename_i g4 g6;refine Zad (ι:=Nat) (λi e m=>i≤p.length∧e 0=.sl 4 L∧e 1=.sl 3 X∧e 4=.pbox 4 g4 0∧e 6=.pbox 6 g6 0∧m 6=some (.box g6 59 (rqC 0) false)∧(∃c4,m 4=some (.box g4 59 c4 false)∧c4.length=3)∧e 7=iv i) (λi=>p.length - i) 0 zr ?_ ?_
 ·rintro i e m ⟨hi,e0,e1,e4,e6,m6,⟨c4,m4,hc4⟩,e7⟩
  by_cases hlt:i < p.length
  ·have hg:=hgp i hlt;have hle:=hl _ (Zyl hlt);have hlm:(p[i].2.map iv).length=p[i].2.length:=Zx9 ..;generalize p[i]=t at *;obtain⟨q,mn⟩:=t;simp only at hle hlm;have hg:L.getD i .u=.agg [.v (.bool (decide (q.num < 0))),lim (toL q.num.natAbs),lim (toL q.den),.sl 1 (mn.map iv)]:=hg;generalize mn.map iv=MN at *;(focus (refine wkad (w_12 e0 e1 e4 e6 e7 m6 m4 hlp hlx hg hlm hle) w_t w_t ?_;(repeat' first|exact w_t|apply w_l);all_goals intros));exact⟨i+1,⟨zo,gW e0,gW e1,gW e4,gW e6,gW m6,⟨c4,gW m4,hc4⟩,gS⟩,zo⟩
  ·(focus (refine wkad (w_9 e0 e1 e4 e6 e7 m6 m4 hlp hlx) w_t w_t ?_;(repeat' first|exact w_t|apply w_l);all_goals intros));refine Zad (ι:=Nat) (λi e m=>i≤p.length∧e 0=.sl 4 L∧e 1=.sl 3 X∧e 4=.pbox 4 g4 0∧e 6=.pbox 6 g6 0∧m 6=some (.box g6 59 (rqC (S i)) false)∧(∃c4,m 4=some (.box g4 59 c4 false)∧c4.length=3)∧e 8=iv i) (λi=>p.length - i) 0 zr ?_ ?_
   ·rintro i e m ⟨hi,e0,e1,e4,e6,m6,⟨c4,m4,hc4⟩,e8⟩
    by_cases hlt:i < p.length
    ·have hg:=hgp i hlt;have hle:=hl _ (Zyl hlt);have hlm:(p[i].2.map iv).length=p[i].2.length:=Zx9 ..;have hgm:∀j (h:j < p[i].2.length),(p[i].2.map iv).getD j .u=iv p[i].2[j]:=λj h=>Zaj iv h;have hmi:=hm _ (Zyl hlt);have hpi:=hp _ (Zyl hlt);have cA:=qAdd (S i) (p[i].1*mv (λj=>xs.getD j 0) p[i].2) (hsum i zo) (hmi _ (Zx7 _)) zo zo;rw [←htk i hlt] at cA;generalize p[i]=t at *;obtain⟨q,mn⟩:=t;simp only at hle hlm hgm hmi hpi cA;have hg:L.getD i .u=.agg [.v (.bool (decide (q.num < 0))),lim (toL q.num.natAbs),lim (toL q.den),.sl 1 (mn.map iv)]:=hg
     unfold mv at cA;generalize hMN:mn.map iv=MN at *;(focus (refine wkad (w_12 e0 e1 e4 e6 e8 m6 m4 hlp hlx hg hlm hle) w_t w_t ?_;(repeat' first|exact w_t|apply w_l);all_goals intros));rename_i g9;refine Zad (ι:=Nat) (λv e m=>v≤mn.length∧e 0=.sl 4 L∧e 1=.sl 3 X∧e 4=.pbox 4 g4 0∧e 6=.pbox 6 g6 0∧m 6=some (.box g6 59 (rqC (S i)) false)∧m 4=some (.box g4 59 c4 false)∧e 8=iv i∧e 9=.pbox 9 g9 0∧m 9=some (.box g9 59 (rqC (q*mvN (λj=>xs.getD j 0) mn v)) false)∧e 10=iv v) (λv=>mn.length - v) 0 zr ?_ ?_
     ·rintro v e m ⟨hv,e0,e1,e4,e6,m6,m4,e8,e9,m9,e10⟩
      by_cases hvl:v < mn.length
      ·have hgx2:=hgx v zo;have hgm2:=hgm v hvl;have hex:=hpi.2.2 v;rw [Zdr hvl] at hex;have hxs:=hx v zo;have hms:=hmi v hv
       have hstep:q*mvN (λj=>xs.getD j 0) mn (v+1)=q*mvN (λj=>xs.getD j 0) mn v*xs.getD v 0 ^ (mn[v]).toNat:=by
        show q*(mvN (λj=>xs.getD j 0) mn v*xs.getD v 0 ^ (gI mn v).toNat)=_;rw [Zdr hvl,Rat.mul_assoc]
       generalize xs.getD v 0=x at *;generalize mn[v]=z at *;obtain⟨n,rfl⟩:∃n:Nat,z=n:=⟨z.toNat,zo⟩;have hns:n*s≤x0*s:=Zy5 _ zo;have cP:=rpPow n n (Zx7 _) zo x s hxs zo;have cM:=qMul (q*mvN (λj=>xs.getD j 0) mn v) (x ^ n) hms (Zvv hxs n) zo zo;rw [Zzg] at hstep;generalize q*mvN (λj=>xs.getD j 0) mn v*x ^ n=b at *;generalize q*mvN (λj=>xs.getD j 0) mn v=a at *;generalize x ^ n=w at *;(focus (refine wkad (w_16 e0 e1 e4 e6 e8 e9 e10 m6 m4 m9 hlp hlx hg hlm hgx2 hgm2) (w_2 cP cM) (w_1 (w_d 14 [(13,ratQ w),(14,ratQ b)] [15] [])) ?_;(repeat' first|exact w_t|apply w_l);all_goals intros))
       exact⟨v+1,⟨zo,gW e0,gW e1,gW e4,gW e6,gW m6,gW m4,gW e8,gW e9,by(rw [hstep];exact gC),gS⟩,zo⟩
      ·have hvv:v=mn.length:=zo;subst hvv;(focus (refine wkad (w_14 e0 e1 e4 e6 e8 e9 e10 m6 m4 m9 hlp hlx hg hlm) (w_1 cA) w_t ?_;(repeat' first|exact w_t|apply w_l);all_goals intros));exact⟨i+1,⟨zo,gW e0,gW e1,gW e4,gW e6,gC,⟨c4,gW m4,hc4⟩,gS⟩,zo⟩
     ·exact⟨Zyi _,gW e0,gW e1,gW e4,gW e6,gW m6,gW m4,gW e8,gC,by(rw [show q*mvN (λj=>xs.getD j 0) mn 0=q from ZBr _];exact gC),gC⟩
    ·obtain rfl:i=p.length:=zo
     obtain⟨a1,a2,a3,rfl⟩:∃a1 a2 a3,c4=[a1,a2,a3]:=by
      match c4,hc4 with
      | [a1,a2,a3],_=>exact⟨a1,a2,a3,rfl⟩
     (focus (refine wkld (w_9 e0 e1 e4 e6 e8 m6 m4 hlp hlx) w_t (w_1 e4) w_t ?_;(repeat' first|exact w_t|apply w_l);all_goals intros))
   ·exact⟨Zyi _,gW e0,gW e1,gW e4,gW e6,by(rw [hS0];exact gW m6),⟨c4,gW m4,hc4⟩,gC⟩
 ·exact⟨Zyi _,gC,gC,gC,gC,gC,⟨_,gC,rfl⟩,gC⟩
def Zf2 (a b:PQ) (r:Rat):PQ:=(a.1+r*(b.1 - a.1),a.2+r*(b.2 - a.2))
def Zjc (p a b:PQ):PQ:=(p.1+1*(b.1 - a.1),p.2+1*(b.2 - a.2))
def Znm (p a b:PQ):PQ:=(p.1+1*-(b.2 - a.2),p.2+1*(b.1 - a.1))
theorem Zdl (a1 a2 s u1 u2:Rat) {j:Nat} (h1:Sz a1 j) (h2:Sz a2 j) (hs:Sz s j) (h3:Sz u1 j) (h4:Sz u2 j) (hj:j≤10000000000):Pure prog 139 [ptQ a1 a2,ratQ s,ptQ u1 u2] (ptQ (a1+s*u1) (a2+s*u2)):=by
 have c1:=qMul s u1 hs h3 zo zo;have c2:=qAdd a1 (s*u1) h1 (hs.mul h3) zo zo;have c3:=qMul s u2 hs h4 zo zo;have c4:=qAdd a2 (s*u2) h2 (hs.mul h4) zo zo;generalize a1+s*u1=x at *;generalize s*u1=y at *;generalize a2+s*u2=z at *;generalize s*u2=w at *;refine pI func139 rfl ntmps139 results139 call139 ?_;(focus (refine wkad w_t (w_4 c1 c2 c3 c4) (w_1 (w_d 1 [(5,ratQ y),(6,ratQ x),(12,ratQ w),(13,ratQ z)] [] [6])) ?_;(repeat' first|exact w_t|apply w_l);all_goals intros));simp (disch:=omega) only [go_sem]
theorem Zn3 (a b:PQ) (r:Rat) {j:Nat} (ha:a.sz j) (hb:b.sz j) (hr:Sz r j) (hj:j≤1000000000):Pure prog 74 [a.av,b.av,ratQ r] (Zf2 a b r).av:=by
 have c1:=Zd5 a.1 a.2 b.1 b.2 ha.1 ha.2 hb.1 hb.2 zo;have c2:=Zdl a.1 a.2 r (b.1 - a.1) (b.2 - a.2) (j:=2*j+1) (ha.1.mono zo) (ha.2.mono zo) (hr.mono zo) ((hb.1.sub ha.1).mono zo) ((hb.2.sub ha.2).mono zo) zo;unfold Zf2;obtain⟨a1,a2⟩:=a;obtain⟨b1,b2⟩:=b;simp only at *;generalize a1+r*(b1 - a1)=x at *;generalize a2+r*(b2 - a2)=y at *;generalize b1 - a1=u at *;generalize b2 - a2=v at *;refine pI func74 rfl ntmps74 results74 call74 ?_;(focus (refine wkad w_t (w_2 c1 c2) (w_1 (w_d 1 [(4,ptQ u v),(5,ptQ x y)] [] [6])) ?_;(repeat' first|exact w_t|apply w_l);all_goals intros))
 simp (disch:=omega) only [go_sem]
theorem r13Shift (p a b:PQ) {j:Nat} (hp:p.sz j) (ha:a.sz j) (hb:b.sz j) (hj:j≤1000000000):Pure prog 79 [p.av,a.av,b.av] (Zjc p a b).av:=by
 have c0:Pure prog 42 [iv 1] (ratQ 1):=qOf 1 zo;have c1:=Zd5 a.1 a.2 b.1 b.2 ha.1 ha.2 hb.1 hb.2 zo;have c2:=Zdl p.1 p.2 1 (b.1 - a.1) (b.2 - a.2) (j:=2*j+1) (hp.1.mono zo) (hp.2.mono zo) ((Zci 1 zo).mono zo) ((hb.1.sub ha.1).mono zo) ((hb.2.sub ha.2).mono zo) zo;unfold Zjc;obtain⟨p1,p2⟩:=p;obtain⟨a1,a2⟩:=a;obtain⟨b1,b2⟩:=b;simp only at *;generalize p1+1*(b1 - a1)=x at *;generalize p2+1*(b2 - a2)=y at *;generalize b1 - a1=u at *;generalize b2 - a2=v at *;generalize (1:Rat)=o at *;refine pI func79 rfl ntmps79 results79 call79 ?_;(focus (refine wkad w_t (w_3 c0 c1 c2) (w_1 (w_d 1 [(1,ratQ o),(4,ptQ u v),(5,ptQ x y)] [] [6])) ?_;(repeat' first|exact w_t|apply w_l);all_goals intros))
 simp (disch:=omega) only [go_sem]
theorem Zn2 (u v:Rat) {j:Nat} (hv:Sz v j) (hj:j≤10000000000):Pure prog 147 [ptQ u v] (ptQ (-v) u):=by
 have c:=qNeg v hv zo;generalize -v=w at *;refine pI func147 rfl ntmps147 results147 call147 ?_;(focus (refine wkad w_t (w_1 c) (w_1 (w_d 1 [(2,ratQ w)] [] [2])) ?_;(repeat' first|exact w_t|apply w_l);all_goals intros));simp (disch:=omega) only [go_sem]
theorem r13Turn (p a b:PQ) {j:Nat} (hp:p.sz j) (ha:a.sz j) (hb:b.sz j) (hj:j≤1000000000):Pure prog 80 [p.av,a.av,b.av] (Znm p a b).av:=by
 have c0:Pure prog 42 [iv 1] (ratQ 1):=qOf 1 zo;have c1:=Zd5 a.1 a.2 b.1 b.2 ha.1 ha.2 hb.1 hb.2 zo;have c3:=Zn2 (b.1 - a.1) (b.2 - a.2) (hb.2.sub ha.2) zo;have c2:=Zdl p.1 p.2 1 (-(b.2 - a.2)) (b.1 - a.1) (j:=2*j+1) (hp.1.mono zo) (hp.2.mono zo) ((Zci 1 zo).mono zo) ((hb.2.sub ha.2).neg.mono zo) ((hb.1.sub ha.1).mono zo) zo;unfold Znm;obtain⟨p1,p2⟩:=p;obtain⟨a1,a2⟩:=a;obtain⟨b1,b2⟩:=b;simp only at *;generalize p1+1*-(b2 - a2)=x at *;generalize p2+1*(b1 - a1)=y at *;generalize b1 - a1=u at *;generalize -(b2 - a2)=w at *;generalize b2 - a2=v at *;generalize (1:Rat)=o at *
 refine pI func80 rfl ntmps80 results80 call80 ?_;(focus (refine wkad w_t (w_4 c0 c1 c3 c2) (w_1 (w_d 1 [(1,ratQ o),(4,ptQ u v),(5,ptQ w u),(6,ptQ x y)] [] [6])) ?_;(repeat' first|exact w_t|apply w_l);all_goals intros));simp (disch:=omega) only [go_sem]
attribute [local go_sem] Zcd Zcz Zbe Zbh Zcj Zcr Zcf Zcq Zc3 Zc9 Ze4 Zc2 Zc8 Ze3 Zde Zff Zfg
theorem Sub.tup2 {a b a' b':AV} (h:Sub a a') (k:Sub b b'):Sub (.tup [a,b]) (.tup [a',b']):=Sub.tup _ _ rfl λj x y h1 h2=>by
 match j with
 | 0=>simp at h1 h2;subst h1;subst h2;exact h
 | 1=>simp at h1 h2;subst h1;subst h2;exact k
 | j+2=>simp at h1
theorem Agr.re {m σ:Mem} {t k:Nat} {e1 e e':Ent} (h:Agr m (upd σ k (some e1))) (ht:t=k+1000) (he:e'=e.sh):Agr (upd m t (some e')) (upd σ k (some e)):=by
 have:=h.put (k:=k) (e:=e) ht he
 rwa [upd_over] at this
theorem Sub.frame (KC KV KC' KV':Nat) (svC svV:Value):Sub (.agg [.own KC svC,.own KV svV]) (.agg [.own KC' svC,.own KV' svV]):=Sub.agg2 (Sub.own _ _ _) (Sub.own _ _ _)
theorem Zh3 (σ:Mem) (KC KV:Nat) (svC svV:Value) (vs:List Vt) (kind step number:Int) (hV:σ KV=some (.row svV 106 3 (vs.map Vt.av) 0)) (hl:vs.length≤200) :
 ACall prog 90 [.agg [.own KC svC,.own KV svV],iv kind,iv step,iv number] σ λr σ'=>∃sv,r=.tup [.agg [.own KC svC,.own KV sv],poA (varM vs.length)]∧σ'=upd σ KV (some (.row sv 106 3 ((vs++[(kind,step,number)]).map Vt.av) 0)):=by
 have mV:=Zah hV;have cv:=rpVar vs.length zo;have hln:(vs.map Vt.av).length=vs.length:=Zx9 ..;have hm1:((vs.length+1:Nat):Int) - 1=(vs.length:Int):=zo;simp only [Ent.sh,AV.shL,AV.sh] at mV;simp only [Zys,Zzc,Zy6];refine Zap func90 rfl ntmps90 results90 call90 zr zs ?_;(focus (refine wkad (w_6 mV hln hm1 @l_app @Zam @Zat) (w_1 cv) (w_1 (w_d 2 [(5,poA (varM vs.length))] [] [8])) ?_;(repeat' first|exact w_t|apply w_l);all_goals intros));simp (disch:=omega) only [go_sem];rename_i sv1;refine Zd4 (Sub.tup2 (Sub.frame _ _ _ _ _ _) (Sub.refl _)) ⟨sv1,rfl,rfl⟩ ?_
 (repeat (refine Agr.own ?_ zo))
 refine Agr.put ?_ rfl rfl
 (repeat' (first|exact Agr.start _|(refine Agr.own ?_ zo)))
theorem rcFree (σ:Mem) (KC KV:Nat) (svC svV:Value) (vs:List Vt) (i fr:Nat) (hV:σ KV=some (.row svV 106 3 (vs.map Vt.av) 0)) (hl:vs.length≤100) (hf:fr≤1000) :
 ACall prog 86 [.agg [.own KC svC,.own KV svV],iv i,iv fr] σ λr σ'=>∃sv,r=.tup [.agg [.own KC svC,.own KV sv],coA (if fr=0 then ([],[]) else if fr=1 then (varM vs.length,[]) else (varM vs.length,varM (vs.length+1)))] ∧
  σ'=upd σ KV (some (.row sv 106 3 ((vs++(if fr=0 then [] else if fr=1 then [(1,(i:Int),0)] else [(1,(i:Int),0),(1,(i:Int),1)])).map Vt.av) 0)):=by
 have mV:=Zah hV;simp only [Ent.sh,AV.shL,AV.sh] at mV;by_cases h0:fr=0
 ·subst h0;simp only [Zy2,Zzy];refine Zap func86 rfl ntmps86 results86 call86 zr zs ?_;(focus (refine wkad (w_1 mV) w_t (w_1 (w_d 6 [] [] [6,7])) ?_;(repeat' first|exact w_t|apply w_l);all_goals intros));simp (disch:=omega) only [go_sem];refine Zd4 (Sub.tup2 (Sub.frame _ _ _ _ _ _) (Sub.agg2 (Sub.nil 4) (Sub.nil 4))) ⟨svV,rfl,rfl⟩ ?_;rw [Zc0 hV]
  (repeat' (first|exact Agr.start _|(refine Agr.own ?_ zo)))
 ·by_cases h1:fr=1
  ·subst h1;simp only [Zx4 h0,Zy2];refine Zap func86 rfl ntmps86 results86 call86 zr zs ?_;(focus (refine wkad (w_1 mV) w_t w_t ?_;(repeat' first|exact w_t|apply w_l);all_goals intros));refine Zb9 (Zh3 _ (KC+1000) (KV+1000) svC svV vs 1 (i:Int) 0 (by(simp (disch:=omega) only [go_sem,mV,Zx4,Zx5,Zys,Zzc,Zy6]<;>repeat' first|rfl|refine⟨?_,?_⟩)) (by first|omega|(simp;omega))) ?_;intro sv1;(focus (refine wkad (w_1 mV) w_t (w_1 (w_d 6 [] [] [6,7])) ?_;(repeat' first|exact w_t|apply w_l);all_goals intros));simp (disch:=omega) only [go_sem]
   refine Zd4 (Sub.tup2 (Sub.frame _ _ _ _ _ _) (Sub.agg2 (Sub.refl _) (Sub.nil 4))) ⟨sv1,rfl,rfl⟩ ?_;simp only [Zys,Zzc,Zy6]
   (repeat (refine Agr.own ?_ zo))
   refine Agr.put ?_ rfl rfl
   (repeat' (first|exact Agr.start _|(refine Agr.own ?_ zo)))
  ·simp only [Zx4 h0,Zx4 h1];have hl1:(vs++[((1:Int),(i:Int),(0:Int))]).length=vs.length+1:=by simp
   refine Zap func86 rfl ntmps86 results86 call86 zr zs ?_;(focus (refine wkad (w_1 mV) w_t w_t ?_;(repeat' first|exact w_t|apply w_l);all_goals intros));refine Zb9 (Zh3 _ (KC+1000) (KV+1000) svC svV vs 1 (i:Int) 0 (by(simp (disch:=omega) only [go_sem,mV,Zx4,Zx5,Zys,Zzc,Zy6]<;>repeat' first|rfl|refine⟨?_,?_⟩)) (by first|omega|(simp;omega))) ?_;intro sv1;(focus (refine wkad (w_1 mV) w_t w_t ?_;(repeat' first|exact w_t|apply w_l);all_goals intros));refine Zb9 (Zh3 _ (KC+1000) (KV+1000) svC sv1 (vs++[(1,(i:Int),0)]) 1 (i:Int) 1 (by(simp (disch:=omega) only [go_sem,mV,Zx4,Zx5,Zys,Zzc,Zy6]<;>repeat' first|rfl|refine⟨?_,?_⟩)) (by first|omega|(simp;omega))) ?_
   intro sv2;(focus (refine wkad (w_2 mV hl1) w_t (w_1 (w_d 6 [] [] [6,7])) ?_;(repeat' first|exact w_t|apply w_l);all_goals intros));simp (disch:=omega) only [go_sem,hl1];refine Zd4 (Sub.tup2 (Sub.frame _ _ _ _ _ _) (Sub.refl _)) ⟨sv2,rfl,rfl⟩ ?_;simp only [Zzd,ZAu,ZBg]
   (repeat (refine Agr.own ?_ zo))
   refine Agr.re (e1:=.row sv1 106 3 ((vs++[(1,(i:Int),0)]).map Vt.av) 0) ?_ rfl rfl
   (repeat (refine Agr.own ?_ zo))
   refine Agr.put ?_ rfl rfl
   (repeat' (first|exact Agr.start _|(refine Agr.own ?_ zo)))
theorem rcDep (σ:Mem) (KC KV:Nat) (svC svV:Value) (vs:List Vt) (i:Nat) (num:Int) (hV:σ KV=some (.row svV 106 3 (vs.map Vt.av) 0)) (hl:vs.length≤100) (hn:0≤num∧num≤10) :
 ACall prog 91 [.agg [.own KC svC,.own KV svV],iv i,iv num] σ λr σ'=>∃sv,r=.tup [.agg [.own KC svC,.own KV sv],coA (varM vs.length,varM (vs.length+1))] ∧
  σ'=upd σ KV (some (.row sv 106 3 ((vs++[(2,(i:Int),num),(2,(i:Int),num+1)]).map Vt.av) 0)):=by
 have mV:=Zah hV;simp only [Ent.sh,AV.shL,AV.sh] at mV;have hl1:(vs++[((2:Int),(i:Int),num)]).length=vs.length+1:=by simp
 refine Zap func91 rfl ntmps91 results91 call91 zr zs ?_;(focus (refine wkad (w_1 mV) w_t w_t ?_;(repeat' first|exact w_t|apply w_l);all_goals intros));refine Zb9 (Zh3 _ (KC+1000) (KV+1000) svC svV vs 2 (i:Int) num (by(simp (disch:=omega) only [go_sem,mV,Zx4,Zx5,Zys,Zzc,Zy6]<;>repeat' first|rfl|refine⟨?_,?_⟩)) (by first|omega|(simp;omega))) ?_;intro sv1;(focus (refine wkad (w_1 mV) w_t w_t ?_;(repeat' first|exact w_t|apply w_l);all_goals intros));refine Zb9 (Zh3 _ (KC+1000) (KV+1000) svC sv1 (vs++[(2,(i:Int),num)]) 2 (i:Int) (num+1) (by(simp (disch:=omega) only [go_sem,mV,Zx4,Zx5,Zys,Zzc,Zy6]<;>repeat' first|rfl|refine⟨?_,?_⟩)) (by first|omega|(simp;omega))) ?_
 intro sv2;(focus (refine wkad (w_2 mV hl1) w_t (w_1 (w_d 4 [] [] [6,7])) ?_;(repeat' first|exact w_t|apply w_l);all_goals intros));simp (disch:=omega) only [go_sem,hl1];refine Zd4 (Sub.tup2 (Sub.frame _ _ _ _ _ _) (Sub.refl _)) ⟨sv2,rfl,rfl⟩ ?_;simp only [Zzd,ZAu,ZBg]
 (repeat (refine Agr.own ?_ zo))
 refine Agr.re (e1:=.row sv1 106 3 ((vs++[(2,(i:Int),num)]).map Vt.av) 0) ?_ rfl rfl
 (repeat (refine Agr.own ?_ zo))
 refine Agr.put ?_ rfl rfl
 (repeat' (first|exact Agr.start _|(refine Agr.own ?_ zo)))
theorem Zvg (a b:Po × Po) (m d1 d2 e1 e2 f1 f2:Po) (s1:Pure prog 27 [poA b.1,poA a.1] (poA d1)) (s2:Pure prog 27 [poA b.2,poA a.2] (poA d2))
 (m1:Pure prog 24 [poA m,poA d1] (poA e1)) (m2:Pure prog 24 [poA m,poA d2] (poA e2)) (a1:Pure prog 67 [poA a.1,poA e1] (poA f1)) (a2:Pure prog 67 [poA a.2,poA e2] (poA f2)) :
 Pure prog 87 [coA a,coA b,poA m] (coA (f1,f2)):=by
 obtain⟨x1,x2⟩:=a;obtain⟨y1,y2⟩:=b;simp only at *;refine pI func87 rfl ntmps87 results87 call87 ?_;(focus (refine wkld w_t (w_6 s1 s2 m1 m2 a1 a2) w_t (w_1 (w_d 1 [(7,poA d1),(8,poA e1),(9,poA f1),(17,poA d2),(18,poA e2),(19,poA f2)] [] [6])) ?_;(repeat' first|exact w_t|apply w_l);all_goals intros))
theorem rcPlus (p q r d f:Po) (s:Pure prog 27 [poA q,poA r] (poA d)) (a:Pure prog 67 [poA p,poA d] (poA f)):Pure prog 89 [poA p,poA q,poA r] (poA f):=by
 refine pI func89 rfl ntmps89 results89 call89 ?_;(focus (refine wklp w_t (w_2 s a) w_t (w_r 0) ?_;(repeat' first|exact w_t|apply w_l);all_goals intros))
abbrev cstM (q:Rat):Po:=if q=0 then [] else [(q,[])]
theorem cst_pk (q:Rat) {k:Nat} (h:Sz q k):PK (cstM q) k 1:=by
 unfold cstM;split
 ·exact PK.nil
 ·intro t ht;rw [Zzs] at ht;subst ht;exact⟨h,Zyi _,λj=>by rw [Zb3 (Zyi _)];omega⟩
theorem cst_srt (q:Rat):SrtM (cstM q):=by
 unfold cstM;split
 ·exact .nil
 ·rename_i h;exact Srt.nil.cons h Znb zs
theorem cst_len (q:Rat):(cstM q).length≤1:=by
 unfold cstM;split<;>simp
theorem Zxi (q:Rat) {d:Po} (sd:SrtM d):mlM (cstM q) d=sclM q d:=by
 unfold sclM cstM;by_cases h:q=0
 ·rw [Zx5 h,Zx5 h];exact Zsf d
 ·rw [Zx4 h,Zx4 h];exact Zom h sd
theorem PK.take {p:Po} {k e:Nat} (h:PK p k e) (i:Nat):PK (p.take i) k e:=λt ht=>h t (Zzh ht)
theorem Zuh (v:Nat) {d:Po} (sd:SrtM d):mlM (varM v) d=mlM d (varM v):=Zop ordM mulK (Zce v) sd
theorem var_len (v:Nat):(varM v).length≤1:=by unfold varM;split<;>simp
theorem rcMulC (q:Rat) (d:Po) (hq:Sz q 2) (hd:PK d 221 1) (sd:SrtM d) (ld:d.length≤8000):Pure prog 24 [poA (cstM q),poA d] (poA (sclM q d)):=by
 rw [←Zxi q sd];have:=cst_len q;refine rpMul (cstM q) d (cst_pk q hq) hd (cst_srt q) sd zo zo zo zo zo zo (K:=223) (E:=1) (λi=>?_) zo zo;rw [Zxi q (Zjo sd i)];have h1:=Zj7 q (d.take i);have h2:(d.take i).length≤d.length:=by rw [Zyp];omega
 exact⟨((hd.take i).scl hq).mono zo zo,zo⟩
theorem rcMulV (v:Nat) (d:Po) (hd:PK d 221 1) (sd:SrtM d) (ld:d.length≤8000):Pure prog 24 [poA (varM v),poA d] (poA (mlM d (varM v))):=by
 rw [←Zuh v sd];have:=var_len v;refine rpMul (varM v) d (Ziu v) hd (Zce v) sd zo zo zo zo zo zo (K:=222) (E:=2) (λi=>?_) zo zo;rw [Zuh v (Zjo sd i)];have h1:=Zhd (d.take i) v;have h2:(d.take i).length≤d.length:=by rw [Zyp];omega
 exact⟨(hd.take i).mulV.mono zo zo,zo⟩
theorem rcAlongS (a b:Po × Po) (q:Rat) (hq:Sz q 2) (a1:Co a.1) (a2:Co a.2) (b1:Co b.1) (b2:Co b.2):Pure prog 87 [coA a,coA b,poA (cstM q)] (coA (addM a.1 (sclM q (subM b.1 a.1)),addM a.2 (sclM q (subM b.2 a.2)))):=by
 have n1:=a1.ln;have n2:=a2.ln;have n3:=b1.ln;have n4:=b2.ln;have s1:=Ztf b.1 a.1 b1.pk a1.pk b1.st a1.st zo zo zo zo zo;have s2:=Ztf b.2 a.2 b2.pk a2.pk b2.st a2.st zo zo zo zo zo;have d1:=b1.pk.sub a1.pk;have d2:=b2.pk.sub a2.pk;have t1:=Zbu ordM b1.st a1.st;have t2:=Zbu ordM b2.st a2.st;have l1:=Zdg b.1 a.1;have l2:=Zdg b.2 a.2;have m1:=rcMulC q (subM b.1 a.1) hq d1 t1 zo;have m2:=rcMulC q (subM b.2 a.2) hq d2 t2 zo;have e1:=Znv a.1 (sclM q (subM b.1 a.1)) a1.pk (d1.scl hq) a1.st (Zh1 t1) zo (by have:=Zj7 q (subM b.1 a.1);omega) zo zo zo;have e2:=Znv a.2 (sclM q (subM b.2 a.2)) a2.pk (d2.scl hq) a2.st (Zh1 t2) zo (by have:=Zj7 q (subM b.2 a.2);omega) zo zo zo
 exact Zvg a b (cstM q) _ _ _ _ _ _ s1 s2 m1 m2 e1 e2
theorem rcAlongM (a b:Po × Po) (v:Nat) (a1:Co a.1) (a2:Co a.2) (b1:Co b.1) (b2:Co b.2):Pure prog 87 [coA a,coA b,poA (varM v)] (coA (addM a.1 (mlM (subM b.1 a.1) (varM v)),addM a.2 (mlM (subM b.2 a.2) (varM v)))):=by
 have n1:=a1.ln;have n2:=a2.ln;have n3:=b1.ln;have n4:=b2.ln;have s1:=Ztf b.1 a.1 b1.pk a1.pk b1.st a1.st zo zo zo zo zo;have s2:=Ztf b.2 a.2 b2.pk a2.pk b2.st a2.st zo zo zo zo zo;have d1:=b1.pk.sub a1.pk;have d2:=b2.pk.sub a2.pk;have t1:=Zbu ordM b1.st a1.st;have t2:=Zbu ordM b2.st a2.st;have l1:=Zdg b.1 a.1;have l2:=Zdg b.2 a.2;have m1:=rcMulV v (subM b.1 a.1) d1 t1 zo;have m2:=rcMulV v (subM b.2 a.2) d2 t2 zo;have e1:=Znv a.1 (mlM (subM b.1 a.1) (varM v)) (a1.pk.mono (Zx7 110) (show 1≤1+1 by omega)) d1.mulV a1.st (Zbr ordM mulK t1 (Zce v)) zo (by have:=Zhd (subM b.1 a.1) v;omega) zo zo zo
 have e2:=Znv a.2 (mlM (subM b.2 a.2) (varM v)) (a2.pk.mono (Zx7 110) (show 1≤1+1 by omega)) d2.mulV a2.st (Zbr ordM mulK t2 (Zce v)) zo (by have:=Zhd (subM b.2 a.2) v;omega) zo zo zo;exact Zvg a b (varM v) _ _ _ _ _ _ s1 s2 m1 m2 e1 e2
theorem Zme (p q r:Po) (hp:Co p) (hq:Co q) (hr:Co r):Pure prog 89 [poA p,poA q,poA r] (poA (addM p (subM q r))):=by
 have n1:=hp.ln;have n2:=hq.ln;have n3:=hr.ln;have l1:=Zdg q r;have s:=Ztf q r hq.pk hr.pk hq.st hr.st zo zo zo zo zo;have a:=Znv p (subM q r) hp.pk (hq.pk.sub hr.pk) hp.st (Zbu ordM hq.st hr.st) zo zo zo zo zo;exact rcPlus p q r _ _ s a
theorem Agr.at {m σ:Mem} (h:Agr m σ) {k:Nat} {e:Ent} (hk:σ k=some e):m (k+1000)=some e.sh:=by rw [h k,hk];rfl
def ptsN (cs:List (Po × Po)) (ar:List Int):List (Po × Po):=ar.map λa=>cs.getD a.toNat ([],[])
theorem Zii (cs:List (Po × Po)) (ar:List Int):(ptsN cs ar).length=ar.length:=by unfold ptsN;simp
theorem Zrz {cs:List (Po × Po)} {ar:List Int} {k:Nat} (h:k < ar.length):(ptsN cs ar)[k]'(by rw [Zii];exact h)=cs.getD (gI ar k).toNat ([],[]):=by
 unfold ptsN;rw [List.getElem_map,Zdr h]
theorem Zhu {cs:List (Po × Po)} {ar:List Int} {k:Nat} (h:k < ar.length):((ptsN cs ar).map coA).getD k .u=coA (cs.getD (gI ar k).toNat ([],[])):=by
 rw [Zaj coA (by rw [Zii];exact h),Zrz h]
theorem Zvt {cs:List (Po × Po)} {ar:List Int} {k:Nat} (h:k < ar.length):(ptsN cs ar).take (k+1)=(ptsN cs ar).take k++[cs.getD (gI ar k).toNat ([],[])]:=by
 rw [List.take_add_one,Zyf (by rw [Zii];exact h),Zrz h];rfl
theorem arS_le (k:Int):arS k≤4:=by
 unfold arS
 repeat' split
 all_goals omega
theorem rcNext (σ:Mem) (KC KV:Nat) (svC svV:Value) (cs:List (Po × Po)) (vs:List Vt) (fr i:Nat) (ss:List RS) (gs:List RG) (s:RS) (hi:i < ss.length) (hs:ss[i]=s) (hV:σ KV=some (.row svV 106 3 (vs.map Vt.av) 0)) (hC:σ KC=some (.row svC 98 2 (cs.map coA) 0)) (hVC:KV≠KC) (hl:vs.length≤64) (hf:fr≤100) (hi1:i≤1000) (hok:StOk cs s) (hco:∀c∈cs,Co c.1∧Co c.2) :
 ACall prog 32 [.agg [.own KC svC,.own KV svV],figA ss gs,iv i,iv fr] σ λr σ'=>∃sv,r=.tup [.agg [.own KC svC,.own KV sv],coA (FS.nxt ⟨cs,vs,fr⟩ i s).2] ∧
  σ'=upd σ KV (some (.row sv 106 3 ((vs++(FS.nxt ⟨cs,vs,fr⟩ i s).1).map Vt.av) 0)):=by
 have hgi:(ss.map RS.av).getD i .u=s.av:=by rw [←hs];exact Zaj RS.av hi
 have hls:(ss.map RS.av).length=ss.length:=Zx9 ..;have hcl:(cs.map coA).length=cs.length:=Zx9 ..;show ACall _ _ [.agg [.own KC svC,.own KV svV],.agg [.sl 6 (ss.map RS.av),.sl 5 (gs.map RG.av)],iv i,iv fr] _ _;generalize ss.map RS.av=M at *;generalize gs.map RG.av=N at *;clear hs;obtain⟨k0,nm,ar,⟨rs,rl,rd⟩⟩:=s;have hll:(ar.map iv).length=ar.length:=Zx9 ..;refine Zap func32 rfl ntmps32 results32 call32 zr zs ?_;(focus (refine wkad (w_3 hgi hls hll) w_t w_t ?_;(repeat' first|exact w_t|apply w_l);all_goals intros));rename_i g4 g5 g8 g9 g10
 refine Zf5 (Frz.nilOwn (d:=11) 37 2 98 (gC)) ?_;refine Zad (ι:=Nat) (λk e m=>k≤ar.length∧e 2=iv i∧e 3=iv fr∧e 4=.pbox 4 g4 0∧m 4=some (.box g4 40 [.own (KC+1000) svC,.own (KV+1000) svV] false)∧e 8=.pbox 8 g8 0∧m 8=some (.box g8 40 [.v (.slice none 0 0),.v (.slice none 0 0)] false)∧e 9=.pbox 9 g9 0∧m 9=some (.box g9 98 [.v (.slice none 0 0),.v (.slice none 0 0)] false)∧e 10=.pbox 10 g10 0∧m 10=some (.box g10 76 [iv k0,strA nm,ivs ar,.v (.bool rs),lim rl,lim rd] false)∧e 24=ivs ar∧e 25=iv ar.length∧e 26=iv k∧(∃sv,e 11=.own 37 sv∧m 37=some (.row sv 98 2 (((ptsN cs ar).take k).map coA) 0))∧Agr m σ) (λk=>ar.length - k) 0 zr ?_ ?_
 ·rintro k e m ⟨hk,hA2,hA3,e4,m4,e8,m8,e9,m9,e10,m10,e24,e25,e26,⟨sv,e11,m37⟩,hAg⟩
  have mV:=Agr.at hAg hV;have mC:=Agr.at hAg hC;simp only [Ent.sh,AV.shL,AV.sh] at mV mC;by_cases hlt:k < ar.length
  ·have h0:=hok.ai k hlt;simp only at h0;have hga:(ar.map iv).getD k .u=iv (gI ar k):=by rw [Zaj iv hlt,Zdr hlt]
   have hgc:(cs.map coA).getD (gI ar k).toNat .u=coA (cs.getD (gI ar k).toNat ([],[])):=Zo4 zo;have htk:=Zvt (cs:=cs) hlt
   have har4:ar.length≤4:=by
    have h1:(ar.length:Int)=arS k0:=hok.al;have h2:=arS_le k0;omega
   have hL:((ptsN cs ar).take k).length≤4:=by
    have h1:(ar.length:Int)=arS k0:=hok.al;have h2:=arS_le k0;rw [Zyp];omega
   generalize (ptsN cs ar).take k=L at *;generalize cs.getD (gI ar k).toNat ([],[])=c at *;generalize gI ar k=a at *;obtain⟨c1,c2⟩:=c;(focus (refine wkad (w_21 hA2 hA3 e4 m4 e8 m8 e9 m9 e10 m10 e11 e24 e25 e26 m37 mV mC hll hcl hga hgc) w_t w_t ?_;(repeat' first|exact w_t|apply w_l);all_goals intros));rename_i sv2;refine⟨k+1,⟨zo,by(simp (disch:=omega) only [go_sem,hA2]<;>repeat' first|rfl|refine⟨?_,?_⟩),by(simp (disch:=omega) only [go_sem,hA3]<;>repeat' first|rfl|refine⟨?_,?_⟩),gW e4,gW m4,gW e8,gW m8,gW e9,gW m9,gW e10,gW m10,gW e24,gW e25,gS,⟨_,gC,by(rw [htk,Zys];exact gC)⟩,?_⟩,zo⟩
   (repeat' (first|exact hAg|(refine Agr.own ?_ zo)))
  ·have hkk:k=ar.length:=zo;subst hkk;rw [show(ptsN cs ar).take ar.length=ptsN cs ar from ZA8 (by rw [Zii];exact Zx7 _)] at m37;have hlp:((ptsN cs ar).map coA).length=ar.length:=by rw [Zx9,Zii]
   by_cases k1:k0=1
   ·subst k1
    have en:FS.nxt ⟨cs,vs,fr⟩ i ⟨1,nm,ar,⟨rs,rl,rd⟩⟩=(if fr=0 then [] else if fr=1 then [(1,(i:Int),0)] else [(1,(i:Int),0),(1,(i:Int),1)],if fr=0 then ([],[]) else if fr=1 then (varM vs.length,[]) else (varM vs.length,varM (vs.length+1))):=by
     unfold FS.nxt;simp only [Zy2];by_cases f0:fr=0
     ·simp only [Zx5 f0]
     ·by_cases f1:fr=1
      ·simp only [Zx4 f0,Zx5 f1]
      ·simp only [Zx4 f0,Zx4 f1]
    rw [en];have cF:=rcFree m (KC+1000) (KV+1000) svC svV vs i fr mV zo zo;generalize (if fr=0 then (([],[]):Po × Po) else if fr=1 then (varM vs.length,[]) else (varM vs.length,varM (vs.length+1)))=x at *;generalize (if fr=0 then ([]:List Vt) else if fr=1 then [(1,(i:Int),0)] else [(1,(i:Int),0),(1,(i:Int),1)])=nv at *;obtain⟨x1,x2⟩:=x;(focus (refine wkad (w_21 hA2 hA3 e4 m4 e8 m8 e9 m9 e10 m10 e11 e24 e25 e26 m37 mV mC hll hlp @Zam @Zat) w_t w_t ?_;(repeat' first|exact w_t|apply w_l);all_goals intros));refine Zb9 cF ?_;intro sv1;(focus (refine wkad (w_21 hA2 hA3 e4 m4 e8 m8 e9 m9 e10 m10 e11 e24 e25 e26 m37 mV mC hll hlp @Zam @Zat) w_t w_t ?_;(repeat' first|exact w_t|apply w_l);all_goals intros))
    simp (disch:=omega) only [go_sem,e8,e9];refine Zd4 (Sub.tup2 (Sub.frame _ _ _ _ _ _) (Sub.refl _)) ⟨sv1,rfl,rfl⟩ ?_
    (repeat (refine Agr.own ?_ zo))
    refine Agr.put ?_ rfl rfl
    (repeat' (first|exact hAg|(refine Agr.own ?_ zo)))
   ·by_cases k2:k0=2
    ·subst k2;have hal2:ar.length=2:=by have h1:(ar.length:Int)=arS 2:=hok.al;have h2:arS 2=2:=rfl;omega
     have h0:0≤gI ar 0∧gI ar 0 < (cs.length:Int):=hok.ai 0 (show 0 < ar.length by omega);obtain⟨a1,a2⟩:Co (cs.getD (gI ar 0).toNat ([],[])).1∧Co (cs.getD (gI ar 0).toNat ([],[])).2:=hco _ (Za2 zo);have p0:((ptsN cs ar).map coA).getD 0 .u=coA (cs.getD (gI ar 0).toNat ([],[])):=Zhu zo;generalize ha:cs.getD (gI ar 0).toNat ([],[])=a at *;have h1:0≤gI ar 1∧gI ar 1 < (cs.length:Int):=hok.ai 1 (show 1 < ar.length by omega);obtain⟨b1,b2⟩:Co (cs.getD (gI ar 1).toNat ([],[])).1∧Co (cs.getD (gI ar 1).toNat ([],[])).2:=hco _ (Za2 zo);have p1:((ptsN cs ar).map coA).getD 1 .u=coA (cs.getD (gI ar 1).toNat ([],[])):=Zhu zo
     generalize hb:cs.getD (gI ar 1).toNat ([],[])=b at *;have ro:=hok.r2 rfl;have zr:=(RQ.ok_av hok.rl ro).2;have re:=RQ.ok_eq hok.rl ro
     have en:FS.nxt ⟨cs,vs,fr⟩ i ⟨2,nm,ar,⟨rs,rl,rd⟩⟩=([],(addM a.1 (sclM (RQ.q ⟨rs,rl,rd⟩) (subM b.1 a.1)),addM a.2 (sclM (RQ.q ⟨rs,rl,rd⟩) (subM b.2 a.2)))):=by
      rw [←ha,←hb];rfl
     rw [en];simp only at zr re;generalize hq:RQ.q ⟨rs,rl,rd⟩=q at *;simp only [RQ.mk.injEq] at re;obtain⟨rfl,rfl,rfl⟩:=re;have al:=rcAlongS a b q zr a1 a2 b1 b2;have cc:=rpConst q zr zo;generalize addM a.1 (sclM q (subM b.1 a.1))=x1 at *;generalize addM a.2 (sclM q (subM b.2 a.2))=x2 at *;clear a1 a2 b1 b2 ha hb hok hco en;obtain⟨aa,ab⟩:=a;obtain⟨ba,bb⟩:=b;(focus (refine wkad (w_24 hA2 hA3 e4 m4 e8 m8 e9 m9 e10 m10 e11 e24 e25 e26 m37 mV mC hll hlp @Zam @Zat hal2 p0 p1) (w_2 cc al) (w_1 (w_d 12 [(9,poA (cstM q)),(10,coA (x1,x2))] [] [8,9])) ?_;(repeat' first|exact w_t|apply w_l);all_goals intros))
     simp (disch:=omega) only [go_sem,e8,e9];refine Zd4 (Sub.tup2 (Sub.frame _ _ _ _ _ _) (Sub.refl _)) ⟨svV,rfl,rfl⟩ ?_;simp only [Zzy,Zc0 hV]
     (repeat' (first|exact hAg|(refine Agr.own ?_ zo)))
    ·by_cases k3:k0=3
     ·subst k3;have hal2:ar.length=3:=by have h1:(ar.length:Int)=arS 3:=hok.al;have h2:arS 3=3:=rfl;omega
      have h0:0≤gI ar 0∧gI ar 0 < (cs.length:Int):=hok.ai 0 (show 0 < ar.length by omega);obtain⟨a1,a2⟩:Co (cs.getD (gI ar 0).toNat ([],[])).1∧Co (cs.getD (gI ar 0).toNat ([],[])).2:=hco _ (Za2 zo);have p0:((ptsN cs ar).map coA).getD 0 .u=coA (cs.getD (gI ar 0).toNat ([],[])):=Zhu zo;generalize ha:cs.getD (gI ar 0).toNat ([],[])=a at *;have h1:0≤gI ar 1∧gI ar 1 < (cs.length:Int):=hok.ai 1 (show 1 < ar.length by omega);obtain⟨b1,b2⟩:Co (cs.getD (gI ar 1).toNat ([],[])).1∧Co (cs.getD (gI ar 1).toNat ([],[])).2:=hco _ (Za2 zo);have p1:((ptsN cs ar).map coA).getD 1 .u=coA (cs.getD (gI ar 1).toNat ([],[])):=Zhu zo
      generalize hb:cs.getD (gI ar 1).toNat ([],[])=b at *;have h2:0≤gI ar 2∧gI ar 2 < (cs.length:Int):=hok.ai 2 (show 2 < ar.length by omega);obtain⟨c1,c2⟩:Co (cs.getD (gI ar 2).toNat ([],[])).1∧Co (cs.getD (gI ar 2).toNat ([],[])).2:=hco _ (Za2 zo);have p2:((ptsN cs ar).map coA).getD 2 .u=coA (cs.getD (gI ar 2).toNat ([],[])):=Zhu zo;generalize hc:cs.getD (gI ar 2).toNat ([],[])=c at *
      have en:FS.nxt ⟨cs,vs,fr⟩ i ⟨3,nm,ar,⟨rs,rl,rd⟩⟩=([],(addM a.1 (subM c.1 b.1),addM a.2 (subM c.2 b.2))):=by
       rw [←ha,←hb,←hc];rfl
      rw [en];have q1:=Zme a.1 c.1 b.1 a1 c1 b1;have q2:=Zme a.2 c.2 b.2 a2 c2 b2;generalize addM a.1 (subM c.1 b.1)=x1 at *;generalize addM a.2 (subM c.2 b.2)=x2 at *;clear a1 a2 b1 b2 c1 c2 ha hb hc hok hco en;obtain⟨aa,ab⟩:=a;obtain⟨ba,bb⟩:=b;obtain⟨ca,cb⟩:=c;(focus (refine wkad (w_a hA2 (w_24 hA3 e4 m4 e8 m8 e9 m9 e10 m10 e11 e24 e25 e26 m37 mV mC hll hlp @Zam @Zat hal2 p0 p1 p2)) (w_2 q1 q2) (w_1 (w_d 14 [(13,poA x1),(26,poA x2)] [] [8,9])) ?_;(repeat' first|exact w_t|apply w_l);all_goals intros));simp (disch:=omega) only [go_sem,e8,e9];refine Zd4 (Sub.tup2 (Sub.frame _ _ _ _ _ _) (Sub.refl _)) ⟨svV,rfl,rfl⟩ ?_
      simp only [Zzy,Zc0 hV]
      (repeat' (first|exact hAg|(refine Agr.own ?_ zo)))
     ·by_cases k4:k0=4
      ·subst k4;have hal2:ar.length=3:=by have h1:(ar.length:Int)=arS 4:=hok.al;have h2:arS 4=3:=rfl;omega
       have h0:0≤gI ar 0∧gI ar 0 < (cs.length:Int):=hok.ai 0 (show 0 < ar.length by omega);obtain⟨a1,a2⟩:Co (cs.getD (gI ar 0).toNat ([],[])).1∧Co (cs.getD (gI ar 0).toNat ([],[])).2:=hco _ (Za2 zo);have p0:((ptsN cs ar).map coA).getD 0 .u=coA (cs.getD (gI ar 0).toNat ([],[])):=Zhu zo;generalize ha:cs.getD (gI ar 0).toNat ([],[])=a at *;have h1:0≤gI ar 1∧gI ar 1 < (cs.length:Int):=hok.ai 1 (show 1 < ar.length by omega);obtain⟨b1,b2⟩:Co (cs.getD (gI ar 1).toNat ([],[])).1∧Co (cs.getD (gI ar 1).toNat ([],[])).2:=hco _ (Za2 zo);have p1:((ptsN cs ar).map coA).getD 1 .u=coA (cs.getD (gI ar 1).toNat ([],[])):=Zhu zo
       generalize hb:cs.getD (gI ar 1).toNat ([],[])=b at *;have h2:0≤gI ar 2∧gI ar 2 < (cs.length:Int):=hok.ai 2 (show 2 < ar.length by omega);obtain⟨c1,c2⟩:Co (cs.getD (gI ar 2).toNat ([],[])).1∧Co (cs.getD (gI ar 2).toNat ([],[])).2:=hco _ (Za2 zo);have p2:((ptsN cs ar).map coA).getD 2 .u=coA (cs.getD (gI ar 2).toNat ([],[])):=Zhu zo;generalize hc:cs.getD (gI ar 2).toNat ([],[])=c at *
       have en:FS.nxt ⟨cs,vs,fr⟩ i ⟨4,nm,ar,⟨rs,rl,rd⟩⟩=([],(addM a.1 (subM b.2 c.2),addM a.2 (subM c.1 b.1))):=by
        rw [←ha,←hb,←hc];rfl
       rw [en];have q1:=Zme a.1 b.2 c.2 a1 b2 c2;have q2:=Zme a.2 c.1 b.1 a2 c1 b1;generalize addM a.1 (subM b.2 c.2)=x1 at *;generalize addM a.2 (subM c.1 b.1)=x2 at *;clear a1 a2 b1 b2 c1 c2 ha hb hc hok hco en;obtain⟨aa,ab⟩:=a;obtain⟨ba,bb⟩:=b;obtain⟨ca,cb⟩:=c;(focus (refine wkad (w_a hA2 (w_24 hA3 e4 m4 e8 m8 e9 m9 e10 m10 e11 e24 e25 e26 m37 mV mC hll hlp @Zam @Zat hal2 p0 p1 p2)) (w_2 q1 q2) (w_1 (w_d 16 [(13,poA x1),(26,poA x2)] [] [8,9])) ?_;(repeat' first|exact w_t|apply w_l);all_goals intros));simp (disch:=omega) only [go_sem,e8,e9];refine Zd4 (Sub.tup2 (Sub.frame _ _ _ _ _ _) (Sub.refl _)) ⟨svV,rfl,rfl⟩ ?_
       simp only [Zzy,Zc0 hV]
       (repeat' (first|exact hAg|(refine Agr.own ?_ zo)))
      ·by_cases k5:k0=5
       ·subst k5;have hal2:ar.length=2:=by have h1:(ar.length:Int)=arS 5:=hok.al;have h2:arS 5=2:=rfl;omega
        have h0:0≤gI ar 0∧gI ar 0 < (cs.length:Int):=hok.ai 0 (show 0 < ar.length by omega);obtain⟨a1,a2⟩:Co (cs.getD (gI ar 0).toNat ([],[])).1∧Co (cs.getD (gI ar 0).toNat ([],[])).2:=hco _ (Za2 zo);have p0:((ptsN cs ar).map coA).getD 0 .u=coA (cs.getD (gI ar 0).toNat ([],[])):=Zhu zo;generalize ha:cs.getD (gI ar 0).toNat ([],[])=a at *;have h1:0≤gI ar 1∧gI ar 1 < (cs.length:Int):=hok.ai 1 (show 1 < ar.length by omega);obtain⟨b1,b2⟩:Co (cs.getD (gI ar 1).toNat ([],[])).1∧Co (cs.getD (gI ar 1).toNat ([],[])).2:=hco _ (Za2 zo);have p1:((ptsN cs ar).map coA).getD 1 .u=coA (cs.getD (gI ar 1).toNat ([],[])):=Zhu zo
        generalize hb:cs.getD (gI ar 1).toNat ([],[])=b at *
        have en:FS.nxt ⟨cs,vs,fr⟩ i ⟨5,nm,ar,⟨rs,rl,rd⟩⟩=([(1,(i:Int),0)],(addM a.1 (mlM (subM b.1 a.1) (varM vs.length)),addM a.2 (mlM (subM b.2 a.2) (varM vs.length)))):=by
         rw [←ha,←hb];rfl
        rw [en];have al:=rcAlongM a b vs.length a1 a2 b1 b2;have cP:=Zh3 m (KC+1000) (KV+1000) svC svV vs 1 (i:Int) 0 mV zo;generalize addM a.1 (mlM (subM b.1 a.1) (varM vs.length))=x1 at *;generalize addM a.2 (mlM (subM b.2 a.2) (varM vs.length))=x2 at *;clear a1 a2 b1 b2 ha hb hok hco en;obtain⟨aa,ab⟩:=a;obtain⟨ba,bb⟩:=b;generalize varM vs.length=vv at *;(focus (refine wkad (w_22 hA2 hA3 e4 m4 e8 m8 e9 m9 e10 m10 e11 e24 e25 e26 m37 mV mC hll hlp @Zam @Zat hal2) w_t w_t ?_;(repeat' first|exact w_t|apply w_l);all_goals intros));refine Zb9 cP ?_;intro sv1;(focus (refine wkad (w_24 hA2 hA3 e4 m4 e8 m8 e9 m9 e10 m10 e11 e24 e25 e26 m37 mV mC hll hlp @Zam @Zat hal2 p0 p1) (w_1 al) (w_1 (w_d 19 [(8,coA (x1,x2))] [] [8,9])) ?_;(repeat' first|exact w_t|apply w_l);all_goals intros))
        simp (disch:=omega) only [go_sem,e8,e9];refine Zd4 (Sub.tup2 (Sub.frame _ _ _ _ _ _) (Sub.refl _)) ⟨sv1,rfl,rfl⟩ ?_
        (repeat (refine Agr.own ?_ zo))
        refine Agr.put ?_ rfl rfl
        (repeat' (first|exact hAg|(refine Agr.own ?_ zo)))
       ·by_cases k6:k0=6
        ·subst k6;have en:FS.nxt ⟨cs,vs,fr⟩ i ⟨6,nm,ar,⟨rs,rl,rd⟩⟩=([(1,(i:Int),0),(2,(i:Int),1),(2,(i:Int),2)],(varM (vs.length+1),varM (vs.length+2))):=rfl;rw [en];have hl1:(vs++[((1:Int),(i:Int),(0:Int))]).length=vs.length+1:=by simp
         have cP:=Zh3 m (KC+1000) (KV+1000) svC svV vs 1 (i:Int) 0 mV zo;(focus (refine wkad (w_21 hA2 hA3 e4 m4 e8 m8 e9 m9 e10 m10 e11 e24 e25 e26 m37 mV mC hll hlp @Zam @Zat) w_t w_t ?_;(repeat' first|exact w_t|apply w_l);all_goals intros));refine Zb9 cP ?_;intro sv1;(focus (refine wkad (w_21 hA2 hA3 e4 m4 e8 m8 e9 m9 e10 m10 e11 e24 e25 e26 m37 mV mC hll hlp @Zam @Zat) w_t w_t ?_;(repeat' first|exact w_t|apply w_l);all_goals intros));refine Zb9 (rcDep _ (KC+1000) (KV+1000) svC sv1 (vs++[(1,(i:Int),0)]) i 1 (by(simp (disch:=omega) only [go_sem,mV,Zx4,Zx5,Zys,Zzc,Zy6]<;>repeat' first|rfl|refine⟨?_,?_⟩)) (by first|omega|(simp;omega)) zo) ?_
         intro sv2;(focus (refine wkad (w_22 hA2 hA3 e4 m4 e8 m8 e9 m9 e10 m10 e11 e24 e25 e26 m37 mV mC hll hlp @Zam @Zat hl1) w_t w_t ?_;(repeat' first|exact w_t|apply w_l);all_goals intros));simp (disch:=omega) only [go_sem,hl1,e8,e9];refine Zd4 (Sub.tup2 (Sub.frame _ _ _ _ _ _) (Sub.refl _)) ⟨sv2,rfl,rfl⟩ ?_;simp only [Zzd,ZAu,ZBg]
         (repeat (refine Agr.own ?_ zo))
         refine Agr.re (e1:=.row sv1 106 3 ((vs++[(1,(i:Int),0)]).map Vt.av) 0) ?_ rfl rfl
         (repeat (refine Agr.own ?_ zo))
         refine Agr.put ?_ rfl rfl
         (repeat' (first|exact hAg|(refine Agr.own ?_ zo)))
        ·have en:FS.nxt ⟨cs,vs,fr⟩ i ⟨k0,nm,ar,⟨rs,rl,rd⟩⟩=([(2,(i:Int),0),(2,(i:Int),1)],(varM vs.length,varM (vs.length+1))):=by
          unfold FS.nxt;simp only [Zx4 k1,Zx4 k2,Zx4 k3,Zx4 k4,Zx4 k5,Zx4 k6]
         rw [en];have cD:=rcDep m (KC+1000) (KV+1000) svC svV vs i 0 mV zo zo;(focus (refine wkad (w_21 hA2 hA3 e4 m4 e8 m8 e9 m9 e10 m10 e11 e24 e25 e26 m37 mV mC hll hlp @Zam @Zat) w_t w_t ?_;(repeat' first|exact w_t|apply w_l);all_goals intros));refine Zb9 cD ?_;intro sv1;(focus (refine wkad (w_21 hA2 hA3 e4 m4 e8 m8 e9 m9 e10 m10 e11 e24 e25 e26 m37 mV mC hll hlp @Zam @Zat) w_t w_t ?_;(repeat' first|exact w_t|apply w_l);all_goals intros));simp (disch:=omega) only [go_sem,e8,e9];refine Zd4 (Sub.tup2 (Sub.frame _ _ _ _ _ _) (Sub.refl _)) ⟨sv1,rfl,rfl⟩ ?_
         (repeat (refine Agr.own ?_ zo))
         refine Agr.put ?_ rfl rfl
         (repeat' (first|exact hAg|(refine Agr.own ?_ zo)))
 ·refine⟨Zyi _,gC,gC,gC,gC,gC,gC,gC,gC,gC,gC,gC,gW hll,gC,⟨_,gC,by(simp (disch:=omega) only [go_sem,ZA0,Zy6]<;>repeat' first|rfl|refine⟨?_,?_⟩)⟩,?_⟩
  (repeat' (first|exact Agr.start _|(refine Agr.own ?_ zo)))
theorem rcFrame1 (ss:List RS) (gs:List RG) (cR:Pure prog 19 [figA ss gs] (iv 0)) (ho:FigOk ss) :
 Pure prog 9 [figA ss gs] (if (List.range ss.length).any (bigN ss)=true then .tup [.agg [.v (.slice none 0 0),.v (.slice none 0 0)],iv 4] else .tup [frmA (frN ss ss.length).cs (frN ss ss.length).vs,iv 0]):=by
 have cR:Pure prog 19 [.agg [.sl 6 (ss.map RS.av),.sl 5 (gs.map RG.av)]] (iv 0):=cR;show Pure _ _ [.agg [.sl 6 (ss.map RS.av),.sl 5 (gs.map RG.av)]] _;have hg:∀i (h:i < ss.length),(ss.map RS.av).getD i .u=ss[i].av:=λi h=>Zaj RS.av h;have hls:(ss.map RS.av).length=ss.length:=Zx9 ..;have hlen:=ho.len;have hN:∀(i:Nat) (hlt:i < ss.length) (svC svV:Value) (m':Mem),m' 21=some (.row svV 106 3 ((frN ss i).vs.map Vt.av) 0)→m' 20=some (.row svC 98 2 ((frN ss i).cs.map coA) 0)→(frN ss i).vs.length≤64→StOk (frN ss i).cs ss[i]→(∀c∈(frN ss i).cs,Co c.1∧Co c.2) →
  ACall prog 32 [.agg [.own 20 svC,.own 21 svV],.agg [.sl 6 (ss.map RS.av),.sl 5 (gs.map RG.av)],iv i,iv (frN ss i).fr] m' λr σ'=>∃sv,r=.tup [.agg [.own 20 svC,.own 21 sv],coA ((frN ss i).nxt i ss[i]).2]∧σ'=upd m' 21 (some (.row sv 106 3 (((frN ss i).vs++((frN ss i).nxt i ss[i]).1).map Vt.av) 0)) :=
  λi hlt svC svV m' hV hC h1 h2 h3=>rcNext m' 20 21 svC svV (frN ss i).cs (frN ss i).vs (frN ss i).fr i ss gs ss[i] hlt rfl hV hC zo h1 (by have:=Zo5 ss i;omega) zo h2 h3
 generalize ss.map RS.av=M at *;generalize gs.map RG.av=N at *;refine pI func9 rfl ntmps9 results9 call9 ?_;(focus (refine wkap (w_1 hls) (w_1 cR) (w_r 0) ?_;(repeat' first|exact w_t|apply w_l);all_goals intros));rename_i g1 g2 g5;refine Zf5 (Frz.nilBox (k:=5) 0 20 2 98 (gC) rfl zo) ?_;refine Zf5 (Frz.nilBox (k:=5) 1 21 3 106 (gC) rfl zo) ?_;refine Zad (ι:=Nat) (λi e m=>i≤ss.length∧e 1=.pbox 1 g1 0∧m 1=some (.box g1 25 [.sl 6 M,.sl 5 N] false)∧e 2=.pbox 2 g2 0∧m 2=some (.box g2 40 [.v (.slice none 0 0),.v (.slice none 0 0)] false)∧e 5=.pbox 5 g5 0∧e 6=iv (frN ss i).fr∧e 18=.sl 6 M∧e 19=iv ss.length∧e 20=iv i∧(∃svC svV,m 5=some (.box g5 40 [.own 20 svC,.own 21 svV] false)∧m 20=some (.row svC 98 2 ((frN ss i).cs.map coA) 0)∧m 21=some (.row svV 106 3 ((frN ss i).vs.map Vt.av) 0))∧∀j,j < i→bigN ss j=false) (λi=>ss.length - i) 0 zr ?_ ?_
 ·rintro i e m ⟨hi,e1,m1,e2,m2,e5,e6,e18,e19,e20,⟨svC,svV,m5,m20,m21⟩,hbig⟩
  by_cases hlt:i < ss.length
  ·have hgi:=hg i hlt;obtain⟨D,hD,hn⟩:=ho.fi hi hbig;have hco:=hD.co hn;have hst:=ho.st hlt;have hfr:=Zo5 ss i;have hnv:=hD.nv;have hb:=Zne hlt;have hsu:=Zeg hlt;have hn3:=Zmo (frN ss i) i ss[i];have hcl:=Zeu ss i;have hst2:=λm' hV hC=>hN i hlt svC svV m' hV hC hnv hst hco;clear hD hco hst hN hg cR;generalize hs:ss[i]=s at *;generalize hf:frN ss i=f at *;generalize hx:f.nxt i s=nx at *;obtain⟨nv,c1,c2⟩:=nx;obtain⟨k,nm,ar,⟨rs,rl,rd⟩⟩:=s;obtain⟨cs,vs,fr⟩:=f;simp only at *;(focus (refine wkap (w_14 e1 m1 e2 m2 e5 e6 e18 e19 e20 m5 m20 m21 hgi hls) w_t (w_r 0) ?_;(repeat' first|exact w_t|apply w_l);all_goals intros))
   refine Zb9 (hst2 _ (gW m21) (gW m20)) ?_;intro sv;have hvl:((vs++nv).map Vt.av).length=(vs++nv).length:=Zx9 ..;have hvl2:(vs++nv).length≤67:=by rw [Zy0];omega
   have hnx:∀j,j < i+1→bigN ss i=false→bigN ss j=false:=λj hj h=>by
    by_cases e:j=i
    ·rw [e];exact h
    ·exact hbig j zo
   have hany:bigN ss i=true→(List.range ss.length).any (bigN ss)=true:=λh=>List.any_eq_true.2 ⟨i,List.mem_range.2 hlt,h⟩;generalize vs++nv=vs2 at *;have hc1:(c1.map tmA).length=c1.length:=Zx9 ..;have hc2:(c2.map tmA).length=c2.length:=Zx9 ..;have hcsl:(cs.map coA).length=cs.length:=Zx9 ..;by_cases b1:64 < vs2.length
   ·rw [Zx5 (hany (by rw [hb];simp [b1]))];(focus (refine wklp (w_12 e1 e2 m2 e5 e6 e18 e19 e20 m5 m20 hvl hls) w_t (w_1 e2) (w_r 0) ?_;(repeat' first|exact w_t|apply w_l);all_goals intros))
   ·by_cases b2:4000 < c1.length
    ·rw [Zx5 (hany (by rw [hb];simp [b2]))];(focus (refine wklp (w_13 e1 e2 m2 e5 e6 e18 e19 e20 m5 m20 hvl hc1 hls) w_t (w_1 e2) (w_r 0) ?_;(repeat' first|exact w_t|apply w_l);all_goals intros))
    ·by_cases b3:4000 < c2.length
     ·rw [Zx5 (hany (by rw [hb];simp [b3]))];(focus (refine wklp (w_14 e1 e2 m2 e5 e6 e18 e19 e20 m5 m20 hvl hc1 hc2 hls) w_t (w_1 e2) (w_r 0) ?_;(repeat' first|exact w_t|apply w_l);all_goals intros))
     ·have hbf:bigN ss i=false:=by rw [hb];simp [b1,b2,b3]
      clear hany;by_cases k1:k=1
      ·subst k1;(focus (refine wkap (w_15 e1 e2 m2 e5 e6 e18 e19 e20 m5 m20 hvl hc1 hc2 hcsl hls) w_t (w_r 0) ?_;(repeat' first|exact w_t|apply w_l);all_goals intros));rename_i svC2;refine⟨i+1,⟨zo,gW e1,gW m1,gW e2,gW m2,gW e5,by(rw [hsu];exact gS),gW e18,gW e19,gS,⟨svC2,sv,?_,?_,?_⟩,λj hj=>hnx j hj hbf⟩,zo⟩
       ·(simp (disch:=omega) only [go_sem,List.set_cons_zero]<;>repeat' first|rfl|refine⟨?_,?_⟩)
       ·rw [hsu,Zys];exact gC
       ·rw [hsu];exact gC
      ·(focus (refine wkap (w_15 e1 e2 m2 e5 e6 e18 e19 e20 m5 m20 hvl hc1 hc2 hcsl hls) w_t (w_r 0) ?_;(repeat' first|exact w_t|apply w_l);all_goals intros));rename_i svC2;refine⟨i+1,⟨zo,gW e1,gW m1,gW e2,gW m2,gW e5,by(rw [hsu];simp only [Zx4 k1];exact gW e6),gW e18,gW e19,gS,⟨svC2,sv,?_,?_,?_⟩,λj hj=>hnx j hj hbf⟩,zo⟩
       ·(simp (disch:=omega) only [go_sem,List.set_cons_zero]<;>repeat' first|rfl|refine⟨?_,?_⟩)
       ·rw [hsu,Zys];exact gC
       ·rw [hsu];exact gC
  ·have hin:i=ss.length:=zo;subst hin
   have hno:¬(List.range ss.length).any (bigN ss)=true:=by
    rw [List.any_eq_true]
    rintro ⟨j,hj,hb⟩
    rw [hbig j (List.mem_range.1 hj)] at hb;cases hb
   rw [Zx4 hno];clear hN hg;generalize (frN ss ss.length).fr=fr at *;generalize (frN ss ss.length).cs=cs at *;generalize (frN ss ss.length).vs=vs at *;(focus (refine wklp (w_12 e1 e2 m2 e5 e6 e18 e19 e20 m5 m20 m21 hls) w_t (w_5 e2 m2 m5 m20 m21) (w_r 0) ?_;(repeat' first|exact w_t|apply w_l);all_goals intros))
 ·exact⟨Zyi _,gC,gC,gC,gC,gC,by(simp (disch:=omega) only [go_sem,frN]<;>repeat' first|rfl|refine⟨?_,?_⟩),gC,gW hls,gC,⟨_,_,by(simp (disch:=omega) only [go_sem,List.set_cons_zero,List.set_cons_succ,frN]<;>repeat' first|rfl|refine⟨?_,?_⟩),by(simp (disch:=omega) only [go_sem,frN,Zy6]<;>repeat' first|rfl|refine⟨?_,?_⟩),by(simp (disch:=omega) only [go_sem,frN,Zy6]<;>repeat' first|rfl|refine⟨?_,?_⟩)⟩,λj hj=>zo⟩
section
attribute [local go_sem] underlying3 underlying4 underlying184 underlying9 underlying67 underlying34 underlying59 underlying57 underlying55 underlying76 underlying22 underlying25 underlying106 underlying38 underlying98 underlying37 underlying40 underlying165 underlying167 underlying53 underlying111 underlying163 underlying200 sz3 by3 z3 szB zB Zbt zErr Zcd Zcz zStr Zba zRat Zbc zInt Zbb zNat Zbe Zbh Zcj Zcr zFig Zcf zSlI Zcq zSlS Zdb Zdd zVar Zcp zSlV Za4 Za6 Zb1 Zc1 zSlC Zaz Zbk Zc3 Zc9 Ze4 Zc2 Zc8 Ze3 Zbf Zbi Zck Zbl Zcn Zde Zff Zfg zFnC
end
attribute [go_sem] underlying178
attribute [local go_sem] Zgm Zg2 Zjy
theorem CB.subs {a b:Pt} (ha:CB a) (hb:CB b):(Pure prog 119 [poA b.1,poA a.1] (poA (subM b.1 a.1))∧Pure prog 27 [poA b.1,poA a.1] (poA (subM b.1 a.1)))∧(Pure prog 119 [poA b.2,poA a.2] (poA (subM b.2 a.2))∧Pure prog 27 [poA b.2,poA a.2] (poA (subM b.2 a.2))) :=
 ⟨hpSub hb.x ha.x zo zo zo zo zo zo,hpSub hb.y ha.y zo zo zo zo zo zo⟩
theorem hpM2 {p q:Po} (h:PB p 16 221 8) (g:PB q 16 221 8):Pure prog 120 [poA p,poA q] (poA (mlM p q))∧Pure prog 24 [poA p,poA q] (poA (mlM p q)) :=
 hpMul h g zo zo zo zo zo zo zo zo zo
theorem Zip {a b:Pt} (ha:CB a) (hb:CB b):Pure prog 118 [coA a,coA b] (coA (dfM a b)):=by
 obtain⟨⟨h1,-⟩,h2,-⟩:=ha.subs hb;clear ha hb;obtain⟨a1,a2⟩:=a;obtain⟨b1,b2⟩:=b;unfold dfM;simp only at *;generalize subM b1 a1=d1 at *;generalize subM b2 a2=d2 at *;refine pI func118 rfl ntmps118 results118 call118 ?_;(focus (refine wkld w_t (w_2 h1 h2) w_t (w_1 (w_d 1 [(4,poA d1),(9,poA d2)] [] [4])) ?_;(repeat' first|exact w_t|apply w_l);all_goals intros))
theorem hyDotC (u v:Pt) (p q r:Po) (m1:Pure prog 120 [poA u.1,poA v.1] (poA p)) (m2:Pure prog 120 [poA u.2,poA v.2] (poA q)) (ad:Pure prog 122 [poA p,poA q] (poA r)):Pure prog 117 [coA u,coA v] (poA r):=by
 obtain⟨u1,u2⟩:=u;obtain⟨v1,v2⟩:=v;simp only at *;refine pI func117 rfl ntmps117 results117 call117 ?_;(focus (refine wkld w_t (w_3 m1 m2 ad) w_t (w_1 (w_d 1 [(4,poA p),(9,poA q),(10,poA r)] [] [])) ?_;(repeat' first|exact w_t|apply w_l);all_goals intros))
theorem hyDot {a b c d:Pt} (ha:CB a) (hb:CB b) (hc:CB c) (hd:CB d):Pure prog 52 [coA a,coA b,coA c,coA d] (poA (dotM a b c d)):=by
 have b1:=Zip ha hb;have b2:=Zip hc hd;obtain⟨x1,y1⟩:=ha.df hb;obtain⟨x2,y2⟩:=hc.df hd;have cd:=hyDotC (dfM a b) (dfM c d) _ _ _ (hpM2 x1 x2).1 (hpM2 y1 y2).1 (hpAdd (x1.m2 x2) (y1.m2 y2) zo zo zo zo zo zo).1;rw [show addM (mlM (subM b.1 a.1) (subM d.1 c.1)) (mlM (subM b.2 a.2) (subM d.2 c.2))=dotM a b c d from rfl] at cd;generalize dotM a b c d=r at *;clear x1 y1 x2 y2 ha hb hc hd;obtain⟨a1,a2⟩:=a;obtain⟨b1,b2⟩:=b;obtain⟨c1,c2⟩:=c;obtain⟨d1,d2⟩:=d;generalize dfM _ _=u at *;generalize dfM _ _=v at *;obtain⟨u1,u2⟩:=u;obtain⟨v1,v2⟩:=v;refine pI func52 rfl ntmps52 results52 call52 ?_
 (focus (refine wkld w_t (w_3 b1 b2 cd) w_t (w_1 (w_d 1 [(2,coA (u1,u2)),(5,coA (v1,v2)),(6,poA r)] [] [])) ?_;(repeat' first|exact w_t|apply w_l);all_goals intros))
theorem Zw2 {a b c d:Pt} (ha:CB a) (hb:CB b) (hc:CB c) (hd:CB d):Pure prog 53 [coA a,coA b,coA c,coA d] (poA (Zeo a b c d)):=by
 have k1:=Zip ha hb;have k2:=Zip hc hd;obtain⟨x1,y1⟩:=ha.df hb;obtain⟨x2,y2⟩:=hc.df hd;have m1:=(hpM2 x1 y2).1;have m2:=(hpM2 y1 x2).1;have s:=(hpSub (x1.m2 y2) (y1.m2 x2) zo zo zo zo zo zo).1;rw [show subM (mlM (subM b.1 a.1) (subM d.2 c.2)) (mlM (subM b.2 a.2) (subM d.1 c.1))=Zeo a b c d from rfl] at s;generalize Zeo a b c d=r at *;clear x1 y1 x2 y2 ha hb hc hd;unfold dfM at k1 k2;generalize mlM (subM b.1 a.1) (subM d.2 c.2)=p at *;generalize mlM (subM b.2 a.2) (subM d.1 c.1)=q at *;generalize subM b.1 a.1=u1 at *;generalize subM b.2 a.2=u2 at *;generalize subM d.1 c.1=v1 at *
 generalize subM d.2 c.2=v2 at *;obtain⟨a1,a2⟩:=a;obtain⟨b1,b2⟩:=b;obtain⟨c1,c2⟩:=c;obtain⟨d1,d2⟩:=d;refine pI func53 rfl ntmps53 results53 call53 ?_;(focus (refine wkld w_t (w_5 k1 k2 m1 m2 s) w_t (w_2 (w_d 1 [(2,coA (u1,u2)),(5,coA (v1,v2))] [] [9,10]) (w_d 2 [(4,poA p),(9,poA q),(10,poA r)] [] [])) ?_;(repeat' first|exact w_t|apply w_l);all_goals intros))
attribute [go_sem] zSlP zFnN
attribute [local go_sem] Zj0 Zek Zeq Zgk Zgj Zuv
def fstN (vs:List Vt) (i:Int):Nat→Option Nat
 | 0=>none
 | y+1=>match fstN vs i y with
   | some v=>some v
   | none=>if (vs.getD y (0,0,0)).2.1=i then some y else none
theorem Zkr {vs:List Vt} {i:Int}:∀{n:Nat},(∀j,j < n→(vs.getD j (0,0,0)).2.1≠i)→fstN vs i n=none
 | 0,_=>rfl
 | n+1,h=>by
   unfold fstN;rw [Zkr λj hj=>h j zo];simp only;rw [Zx4 (h n zo)]
theorem Zxe {vs:List Vt} {i:Int} {y:Nat} (h:∀j,j < y→(vs.getD j (0,0,0)).2.1≠i) (hy:(vs.getD y (0,0,0)).2.1=i):∀{n:Nat},y < n→fstN vs i n=some y
 | 0,hn=>zo
 | n+1,hn=>by
   unfold fstN;by_cases e:y=n
   ·subst e;rw [Zkr h];simp only;rw [Zx5 hy]
   ·rw [Zxe h hy (n:=n) zo]
def parM (vs:List Vt) (i:Int):Po:=match fstN vs i vs.length with
 | some v=>varM v
 | none=>[]
theorem Zvz (vs:List Vt) (i:Int):PB (parM vs i) 1 1 1:=by
 unfold parM;split
 ·exact Zug _
 ·exact .nil
theorem wts_at {ss:List RS} {i a:Nat} (h:a < i):((wts ss i).map iv).getD a .u=iv (gI (wts ss i) a):=by
 rw [Zaj iv (by rw [Zhx];exact h),Zdr (by rw [Zhx];exact h)]
theorem wts_succ {ss:List RS} {i:Nat} (hi:i < ss.length):(wts ss (i+1)).map iv=(wts ss i).map iv++[iv (wOf (wts ss i) ss[i])]:=by
 show(wts ss i++[_]).map iv=_;rw [Zys,show ss.getD i RS.zero=ss[i] from by rw [Zyg,Zyf hi];rfl];rfl
theorem Zvb (ss:List RS) (gs:List RG) (hl:ss.length≤8) (he:∀i,i < ss.length→errS ss i=0):Pure prog 61 [figA ss gs] (ivs (wts ss ss.length)):=by
 have hg:∀i (h:i < ss.length),(ss.map RS.av).getD i .u=ss[i].av:=λi h=>Zaj RS.av h;have hls:(ss.map RS.av).length=ss.length:=Zx9 ..;have hok:∀i (h:i < ss.length),(ss[i].ar.length:Int)=arS ss[i].k∧∀k,k < ss[i].ar.length→0≤gI ss[i].ar k∧gI ss[i].ar k < (i:Int):=λi h=>⟨(Zge h (he i h)).2.1,(Zge h (he i h)).2.2.1⟩;have hws:∀i (h:i < ss.length),(wts ss (i+1)).map iv=(wts ss i).map iv++[iv (wOf (wts ss i) ss[i])]:=λi h=>wts_succ h;have hwl:∀i,((wts ss i).map iv).length=i:=λi=>by rw [Zx9,Zhx]
 have hbd:∀i n,i≤8→0≤gI (wts ss i) n∧gI (wts ss i) n≤6561:=λi n h=>by
  have:=Zla ss i n;have h3:(3 ^ i:Nat)≤3 ^ 8:=Zzj zo h;omega
 show Pure _ _ [.agg [.sl 6 (ss.map RS.av),.sl 5 (gs.map RG.av)]] (.sl 1 ((wts ss ss.length).map iv));generalize ss.map RS.av=M at *;generalize gs.map RG.av=N at *;refine pI func61 rfl ntmps61 results61 call61 ?_
 (refine wkad (w_1 hls) w_t w_t (w_s ?_);intros)
 rename_i g1;refine Zf5 (Frz.nilOwn (d:=3) 83 1 3 (gC)) ?_;refine Zad (ι:=Nat) (λi e m=>i≤ss.length∧e 1=.pbox 1 g1 0∧m 1=some (.box g1 25 [.sl 6 M,.sl 5 N] false)∧e 4=iv i∧∃sv,e 3=.own 83 sv∧m 83=some (.row sv 3 1 ((wts ss i).map iv) 0)) (λi=>ss.length - i) 0 zr ?_ ?_
 ·rintro i e m ⟨hi,e1,m1,e4,sv,e3,m83⟩
  by_cases hlt:i < ss.length
  ·have hgi:=hg i hlt;obtain⟨ha,hr⟩:=hok i hlt;have hwi:=hwl i;have hn:=hws i hlt;have hx:=λa (h:a < i)=>wts_at (ss:=ss) h;have hb:=λn=>hbd i n zo;clear hg hok hws hwl hbd;generalize wts ss i=w at *;generalize ss[i]=s at *;obtain⟨k,nm,ar,⟨rs,rl,rd⟩⟩:=s;unfold wOf at hn;unfold arS at ha;simp only at *;generalize w.map iv=W at *;by_cases k2:k=2
   ·subst k2;obtain⟨a,b,rfl,h1,h2⟩:=ar2 (by simpa using ha) hr;have b1:=hb a;have b2:=hb b;have x1:=hx a h1;have x2:=hx b h2;simp only [Zx5,gI,Zz0,Zz1,Zzg] at hn x1 x2 b1 b2;generalize w.getD a 0=x at *;generalize w.getD b 0=y at *;clear hb hx hr ha
    (refine wkad (w_10 e1 m1 e4 e3 m83 hls hgi hwi x1 x2) w_t w_t (w_s ?_);intros)
    exact⟨i+1,⟨zo,gW e1,gW m1,gS,_,gC,by rw [hn];exact gC⟩,zo⟩
   ·by_cases k34:k=3∨k=4
    ·obtain⟨a,b,c,rfl,h1,h2,h3⟩:=ar3 (by rcases k34 with rfl | rfl<;>simpa using ha) hr;have b1:=hb a;have b2:=hb b;have b3:=hb c;have x1:=hx a h1;have x2:=hx b h2;have x3:=hx c h3;rw [Zx4 k2,Zx5 k34] at hn;simp only [gI,Zz0,Zz1,Zzg] at hn x1 x2 x3 b1 b2 b3;generalize w.getD a 0=x at *;generalize w.getD b 0=y at *;generalize w.getD c 0=z at *;clear hb hx hr ha k2;rcases k34 with rfl | rfl
     all_goals
      (refine wkad (w_11 e1 m1 e4 e3 m83 hls hgi hwi x1 x2 x3) w_t w_t (w_s ?_);intros)
      exact⟨i+1,⟨zo,gW e1,gW m1,gS,_,gC,by rw [hn];exact gC⟩,zo⟩
    ·rw [Zx4 k2,Zx4 k34] at hn;by_cases k5:k=5
     ·subst k5;obtain⟨a,b,rfl,h1,h2⟩:=ar2 (by simpa using ha) hr;have b1:=hb a;have b2:=hb b;have x1:=hx a h1;have x2:=hx b h2;simp only [Zx5,gI,Zz0,Zz1,Zzg] at hn x1 x2 b1 b2;generalize w.getD a 0=x at *;generalize w.getD b 0=y at *;clear hb hx hr ha k2 k34
      (refine wkad (w_10 e1 m1 e4 e3 m83 hls hgi hwi x1 x2) w_t w_t (w_s ?_);intros)
      exact⟨i+1,⟨zo,gW e1,gW m1,gS,_,gC,by rw [hn];exact gC⟩,zo⟩
     ·have k3:¬k=3:=λh=>k34 (.inl h);have k4:¬k=4:=λh=>k34 (.inr h);rw [Zx4 k5] at hn;clear hb hx hr ha k34
      (refine wkad (w_8 e1 m1 e4 e3 m83 hls hgi hwi) w_t w_t (w_s ?_);intros)
      exact⟨i+1,⟨zo,gW e1,gW m1,gS,_,gC,by rw [hn];exact gC⟩,zo⟩
  ·have hin:i=ss.length:=zo;subst hin;clear hws hg hok hbd;have hwi:=hwl ss.length;generalize (wts ss ss.length).map iv=W at *;exact wkld (w_7 e1 m1 e4 e3 m83 hls hwi) w_t (w_1 m83) w_t w_z
 ·exact⟨Zyi _,gC,gC,gC,_,gC,by(simp (disch:=omega) only [go_sem,wts,Zy6]<;>repeat' first|rfl|refine⟨?_,?_⟩)⟩
def Zjk (w:List Int) (g:RG):Bool:=!(decide (g.k=6) || decide (g.k=7)) || g.ar.all λa=>decide (gI w a.toNat≤3)
theorem Zit {α:Type} {p:α→Bool} {l:List α} (h:∀j (hj:j < l.length),p l[j]=true):l.all p=true:=all_of h
theorem rlThin (ss:List RS) (gs:List RG) (hl:ss.length≤8) (hlg:gs.length≤1000) (he:∀i,i < ss.length→errS ss i=0) (heg:∀g∈gs,g.ar.length≤100∧∀k,k < g.ar.length→0≤gI g.ar k∧gI g.ar k < (ss.length:Int)):Pure prog 20 [figA ss gs] (.v (.bool (Zl4 ss gs))):=by
 have cw:Pure prog 61 [.agg [.sl 6 (ss.map RS.av),.sl 5 (gs.map RG.av)]] (.sl 1 ((wts ss ss.length).map iv)):=Zvb ss gs hl he;have hlen:=Zhx ss ss.length;have hbd:∀n,0≤gI (wts ss ss.length) n∧gI (wts ss ss.length) n≤6561:=λn=>by
  have:=Zla ss ss.length n;have h3:(3 ^ ss.length:Nat)≤3 ^ 8:=Zzj zo hl;omega
 have hg:∀i (h:i < gs.length),(gs.map RG.av).getD i .u=gs[i].av:=λi h=>Zaj RG.av h;have hlm:(gs.map RG.av).length=gs.length:=Zx9 ..;show Pure _ _ [.agg [.sl 6 (ss.map RS.av),.sl 5 (gs.map RG.av)]] _;have hT:Zl4 ss gs=((wts ss ss.length).all (λw=>decide (w≤8)) && gs.all (Zjk (wts ss ss.length))):=rfl;rw [hT];have hx:∀a,a < ss.length→((wts ss ss.length).map iv).getD a .u=iv (gI (wts ss ss.length) a):=λa h=>wts_at h;clear hT;generalize ss.map RS.av=M at *;generalize gs.map RG.av=N at *;generalize wts ss ss.length=w at *;generalize ss.length=n at *;have hwl:(w.map iv).length=n:=by rw [Zx9,hlen]
 generalize hW:w.map iv=W at *;refine pI func20 rfl ntmps20 results20 call20 ?_
 (refine wkap w_t (w_1 cw) (w_r 0) (w_s ?_);intros)
 rename_i g1;refine Zad (ι:=Nat) (λi e m=>i≤n∧e 1=.pbox 1 g1 0∧m 1=some (.box g1 25 [.sl 6 M,.sl 5 N] false)∧e 3=.sl 1 W∧e 4=iv i∧∀j,j < i→gI w j≤8) (λi=>n - i) 0 zr ?_ ?_
 ·rintro i e m ⟨hi,e1,m1,e3,e4,hj⟩
  by_cases hlt:i < n
  ·have x1:=hx i hlt;have b1:=hbd i;have hgw:gI w i=w[i]'zo:=Zdr zo;by_cases h8:8 < gI w i
   ·have:(w.all λw=>decide (w≤8))=false:=Zpk (i:=i) zo (by rw [←hgw];simpa using h8);rw [this,Zzb];generalize gI w i=x at *;exact wklp (w_6 e1 m1 e3 e4 hwl x1) w_t w_t (w_r 0) w_z
   ·have hnx:∀j,j < i+1→gI w j≤8:=λj hjj=>by
     by_cases e:j=i
     ·rw [e];omega
     ·exact hj j zo
    clear hj hgw;generalize gI w i=x at *
    (refine wkap (w_6 e1 m1 e3 e4 hwl x1) w_t (w_r 0) (w_s ?_);intros)
    exact⟨i+1,⟨zo,gW e1,gW m1,gW e3,gS,hnx⟩,zo⟩
  ·have hin:n=i:=zo;subst hin;have:(w.all λw=>decide (w≤8))=true:=Zit λj hjj=>by have:=hj j zo;rw [Zdr hjj] at this;simpa using this
   rw [this,Zzv];clear hj
   (refine wkap (w_5 e1 m1 e3 e4 hwl) w_t (w_r 0) (w_s ?_);intros)
   refine Zad (ι:=Nat) (λi e m=>i≤gs.length∧e 1=.pbox 1 g1 0∧m 1=some (.box g1 25 [.sl 6 M,.sl 5 N] false)∧e 3=.sl 1 W∧e 5=iv i∧∀j (hj:j < gs.length),j < i→Zjk w gs[j]=true) (λi=>gs.length - i) 0 zr ?_ ?_
   ·rintro i e m ⟨hi,e1,m1,e3,e5,hj⟩
    by_cases hlt:i < gs.length
    ·have hgi:=hg i hlt;obtain⟨ha,hr⟩:=heg _ (Zyl hlt);have hno:Zjk w gs[i]=false→gs.all (Zjk w)=false:=λh=>Zpk hlt h;have hnx:Zjk w gs[i]=true→∀j (hj:j < gs.length),j < i+1→Zjk w gs[j]=true:=λh j hjj h2=>by
      by_cases e:j=i
      ·subst e;exact h
      ·exact hj j hjj zo
     clear hj hg heg;generalize gs.all (Zjk w)=v at *;generalize gs[i]=g at *;obtain⟨k,ar,⟨rs,rl,rd⟩⟩:=g;simp only at *;have hla:(ar.map iv).length=ar.length:=Zx9 ..;have hga:∀j (h:j < ar.length),(ar.map iv).getD j .u=iv ar[j]:=λj h=>Zaj iv h
     (refine wkap (w_6 e1 m1 e3 e5 hlm hgi) w_t (w_r 0) (w_s ?_);intros)
     rename_i g6;refine Zad (ι:=Nat) (λy e m=>y≤ar.length∧e 1=.pbox 1 g1 0∧m 1=some (.box g1 25 [.sl 6 M,.sl 5 N] false)∧e 3=.sl 1 W∧e 5=iv i∧e 6=.pbox 6 g6 0∧m 6=some (.box g6 78 [iv k,ivs ar,.v (.bool rs),lim rl,lim rd] false)∧e 7=iv y∧((k=6∨k=7)→∀j (hj:j < ar.length),j < y→gI w ar[j].toNat≤3)) (λy=>ar.length - y) 0 zr ?_ ?_
     ·rintro y e m ⟨hy,e1,m1,e3,e5,e6,m6,e7,hq⟩
      by_cases hly:y < ar.length
      ·have hgy:=hga y hly;have hry:=hr y hly;rw [Zdr hly] at hry;obtain⟨a,hae⟩:∃a:Nat,ar[y]=a:=⟨ar[y].toNat,zo⟩;have han:a < n:=zo;have hxa:=hx a han;have hba:=hbd a;rw [hae] at hgy;by_cases hk:k=6∨k=7
       ·by_cases h3:3 < gI w a
        ·have:Zjk w ⟨k,ar,⟨rs,rl,rd⟩⟩=false:=by
          unfold Zjk;have h1:(decide (k=6) || decide (k=7))=true:=by simpa using hk
          have h2:(ar.all λa=>decide (gI w a.toNat≤3))=false:=Zpk hly (by rw [hae,Zzg];simpa using h3);simp only [h1,h2];rfl
         rw [hno this];clear hq hno hnx hga hr hx hbd this;generalize gI w a=x at *;rcases hk with rfl | rfl
         all_goals
          exact wklp (w_11 e1 m1 e3 e5 e6 m6 e7 hla hgy hwl hxa) w_t w_t (w_r 0) w_z
        ·have hq2:∀j (hj:j < ar.length),j < y+1→gI w ar[j].toNat≤3:=λj hjj h2=>by
          by_cases e:j=y
          ·subst e;rw [hae,Zzg];omega
          ·exact hq hk j hjj zo
         clear hq hno hnx hga hr hx hbd;generalize gI w a=x at *;rcases hk with rfl | rfl
         all_goals
          (refine wkap (w_11 e1 m1 e3 e5 e6 m6 e7 hla hgy hwl hxa) w_t (w_r 0) (w_s ?_);intros)
          exact⟨y+1,⟨zo,gW e1,gW m1,gW e3,gW e5,gW e6,gW m6,gS,λ_=>hq2⟩,zo⟩
       ·have k6:¬k=6:=λh=>hk (.inl h);have k7:¬k=7:=λh=>hk (.inr h);clear hq hno hnx hga hr hx hbd
        (refine wkap (w_8 e1 m1 e3 e5 e6 m6 e7 hla) w_t (w_r 0) (w_s ?_);intros)
        exact⟨y+1,⟨zo,gW e1,gW m1,gW e3,gW e5,gW e6,gW m6,gS,λh=>absurd h hk⟩,zo⟩
      ·have:Zjk w ⟨k,ar,⟨rs,rl,rd⟩⟩=true:=by
        unfold Zjk;by_cases hk:k=6∨k=7
        ·have h2:(ar.all λa=>decide (gI w a.toNat≤3))=true:=Zit λj hjj=>by have:=hq hk j hjj zo;simpa using this
         simp only [h2,Bool.or_true]
        ·have h1:(decide (k=6) || decide (k=7))=false:=by simpa using hk
         simp only [h1];rfl
       have:=hnx this;clear hq hno hnx hga hr hx hbd
       (refine wkap (w_8 e1 m1 e3 e5 e6 m6 e7 hla) w_t (w_r 0) (w_s ?_);intros)
       exact⟨i+1,⟨zo,gW e1,gW m1,gW e3,gS,this⟩,zo⟩
     ·exact⟨Zyi _,gW e1,gW m1,gW e3,gW e5,gC,gC,gC,λ_ j _ h=>zo⟩
    ·have:gs.all (Zjk w)=true:=Zit λj hjj=>hj j hjj zo;rw [this];clear hj hg heg hx hbd;exact wklp (w_5 e1 m1 e3 e5 hlm) w_t w_t (w_r 0) w_z
   ·exact⟨Zyi _,gW e1,gW m1,gW e3,gC,λj _ h=>zo⟩
 ·exact⟨Zyi _,gC,gC,gC,gC,λj h=>zo⟩
theorem arG_le (k:Int):arG k≤8:=by
 unfold arG
 repeat' split
 all_goals omega
theorem Ztz {ss:List RS} {gs:List RG} (h:figE ss gs=0):∀g∈gs,g.ar.length≤100∧∀k,k < g.ar.length→0≤gI g.ar k∧gI g.ar k < (ss.length:Int):=λg hg=>by
 unfold figE at h;split at h
 ·omega
 ·split at h
  ·rename_i h2;exact absurd h h2
  ·obtain⟨j,hj,rfl⟩:=List.mem_iff_getElem.1 hg;have h1:=Zju h j hj;rw [show gs.getD j ⟨0,[],⟨false,[],[]⟩⟩=gs[j] from by rw [Zyg,Zyf hj];rfl] at h1;have hle:=arG_le gs[j].k;generalize gs[j]=g at *;unfold errG at h1;split at h1
   ·omega
   ·split at h1
    ·omega
    ·split at h1
     ·omega
     ·rename_i h2 h3 h4;exact⟨zo,λk hk=>Zqi (by simpa using h4) hk⟩
theorem Zlv {ss:List RS} {gs:List RG} (h:figE ss gs=0):∀i,i < ss.length→errS ss i=0:=by
 unfold figE at h;split at h
 ·omega
 ·split at h
  ·rename_i h2;exact absurd h h2
  ·rename_i h2;exact Zju (Decidable.byContradiction λh3=>h2 h3)
theorem rlFew (ss:List RS) (gs:List RG) (cR:Pure prog 19 [figA ss gs] (iv (figE ss gs))):Pure prog 5 [figA ss gs] (.v (.bool (fewB ss gs))):=by
 have cR:Pure prog 19 [.agg [.sl 6 (ss.map RS.av),.sl 5 (gs.map RG.av)]] (iv (figE ss gs)):=cR;have hls:(ss.map RS.av).length=ss.length:=Zx9 ..;have hlg:(gs.map RG.av).length=gs.length:=Zx9 ..;have hgS:∀i (h:i < ss.length),(ss.map RS.av).getD i .u=ss[i].av:=λi h=>Zaj RS.av h;have hgG:∀i (h:i < gs.length),(gs.map RG.av).getD i .u=gs[i].av:=λi h=>Zaj RG.av h;have cT:ss.length≤8→gs.length≤3→figE ss gs=0→Pure prog 20 [.agg [.sl 6 (ss.map RS.av),.sl 5 (gs.map RG.av)]] (.v (.bool (Zl4 ss gs))):=λa b h=>rlThin ss gs a zo (Zlv h) (Ztz h);show Pure _ _ [.agg [.sl 6 (ss.map RS.av),.sl 5 (gs.map RG.av)]] _
 unfold fewB;have noS:∀i (h:i < ss.length),rat2 ss[i].r=false→(ss.all λs=>rat2 s.r)=false:=λi h e=>Zpk h e;have noG:∀i (h:i < gs.length),rat2 gs[i].r=false→(gs.all λs=>rat2 s.r)=false:=λi h e=>Zpk h e;have yeS:(∀i (h:i < ss.length),rat2 ss[i].r=true)→(ss.all λs=>rat2 s.r)=true:=λe=>Zit e;have yeG:(∀i (h:i < gs.length),rat2 gs[i].r=true)→(gs.all λs=>rat2 s.r)=true:=λe=>Zit e;generalize (ss.all λs=>rat2 s.r)=vS at *;generalize (gs.all λs=>rat2 s.r)=vG at *;generalize Zl4 ss gs=vT at *;generalize figE ss gs=z at *;generalize ss.map RS.av=M at *;generalize gs.map RG.av=N at *;by_cases h8:ss.length≤8
 ·by_cases h3:gs.length≤3
  ·rw [Zx8 h8,Zx8 h3,Zzv,Zzv];by_cases hz:z=0
   ·subst hz;have cT:=cT h8 h3 rfl;rw [Zx8 rfl,Zzv]
    cases vT with
    | false =>
      rw [Zzb];refine pI func5 rfl ntmps5 results5 call5 ?_;exact wklp (w_2 hls hlg) (w_2 cR cT) w_t (w_r 0) w_z
    | true =>
      rw [Zzv];refine pI func5 rfl ntmps5 results5 call5 ?_
      (refine wkap (w_2 hls hlg) (w_2 cR cT) (w_r 0) (w_s ?_);intros)
      rename_i g1;clear cR cT;refine Zad (ι:=Nat) (λi e m=>i≤ss.length∧e 1=.pbox 1 g1 0∧m 1=some (.box g1 25 [.sl 6 M,.sl 5 N] false)∧e 3=iv i∧∀j (h:j < ss.length),j < i→rat2 ss[j].r=true) (λi=>ss.length - i) 0 zr ?_ ?_
      ·rintro i e m ⟨hi,e1,m1,e3,hj⟩
       by_cases hlt:i < ss.length
       ·have hg:=hgS i hlt;have no:=noS i hlt;have nx:rat2 ss[i].r=true→∀j (h:j < ss.length),j < i+1→rat2 ss[j].r=true:=λh j hjj h2=>by
         by_cases e:j=i
         ·subst e;exact h
         ·exact hj j hjj zo
        clear hj noS yeS hgS hgG noG yeG;unfold rat2 at no nx;generalize ss[i]=s at *;obtain⟨k,nm,ar,⟨rs,rl,rd⟩⟩:=s;simp only at *;by_cases a1:rl.length≤2∧rd.length≤2
        ·have:=nx (by simp [a1.1,a1.2]);obtain⟨a1,a2⟩:=a1;clear nx no
         (refine wkap (w_6 e1 m1 e3 hls hg @Zav) w_t (w_r 0) (w_s ?_);intros)
         exact⟨i+1,⟨zo,gW e1,gW m1,gS,this⟩,zo⟩
        ·rw [no (by simp only [Bool.and_eq_false_iff,ZAa];omega),Zzb];clear nx no;(focus (refine wkap (w_6 e1 m1 e3 hls hg @Zav) w_t (w_r 0) ?_;(repeat' first|exact w_t|apply w_l);all_goals intros));all_goals first|((all_goals (try simp (disch:=omega) only [go_sem,Zx8,Zx6,Zx5,Zx4,Int.reduceAdd,Int.reduceSub,Int.reduceToNat,Zyh]));(all_goals first|done|rfl|(congr 2;first|done|omega|(rw [Zyn];simp only [bool_to_prop,Zyj,Zyw,Zyx,Zyy,Zyz];omega))|skip))|omega
       ·rw [yeS λj h=>hj j h zo,Zzv];clear hj noS yeS hgS
        (refine wkap (w_4 e1 m1 e3 hls) w_t (w_r 0) (w_s ?_);intros)
        refine Zad (ι:=Nat) (λi e m=>i≤gs.length∧e 1=.pbox 1 g1 0∧m 1=some (.box g1 25 [.sl 6 M,.sl 5 N] false)∧e 4=iv i∧∀j (h:j < gs.length),j < i→rat2 gs[j].r=true) (λi=>gs.length - i) 0 zr ?_ ?_
        ·rintro i e m ⟨hi,e1,m1,e4,hj⟩
         by_cases hlt:i < gs.length
         ·have hg:=hgG i hlt;have no:=noG i hlt;have nx:rat2 gs[i].r=true→∀j (h:j < gs.length),j < i+1→rat2 gs[j].r=true:=λh j hjj h2=>by
           by_cases e:j=i
           ·subst e;exact h
           ·exact hj j hjj zo
          clear hj hgG noG yeG;unfold rat2 at no nx;generalize gs[i]=s at *;obtain⟨k,ar,⟨rs,rl,rd⟩⟩:=s;simp only at *;by_cases a1:rl.length≤2∧rd.length≤2
          ·have:=nx (by simp [a1.1,a1.2]);obtain⟨a1,a2⟩:=a1;clear nx no
           (refine wkap (w_6 e1 m1 e4 hlg hg @Zav) w_t (w_r 0) (w_s ?_);intros)
           exact⟨i+1,⟨zo,gW e1,gW m1,gS,this⟩,zo⟩
          ·rw [no (by simp only [Bool.and_eq_false_iff,ZAa];omega)];clear nx no;(focus (refine wkap (w_6 e1 m1 e4 hlg hg @Zav) w_t (w_r 0) ?_;(repeat' first|exact w_t|apply w_l);all_goals intros));all_goals first|((all_goals (try simp (disch:=omega) only [go_sem,Zx8,Zx6,Zx5,Zx4,Int.reduceAdd,Int.reduceSub,Int.reduceToNat,Zyh]));(all_goals first|done|rfl|(congr 2;first|done|omega|(rw [Zyn];simp only [bool_to_prop,Zyj,Zyw,Zyx,Zyy,Zyz];omega))|skip))|omega
         ·rw [yeG λj h=>hj j h zo];clear hj hgG noG yeG;exact wklp (w_4 e1 m1 e4 hlg) w_t w_t (w_r 0) w_z
        ·exact⟨Zyi _,gW e1,gW m1,gC,λj h h2=>zo⟩
      ·exact⟨Zyi _,gC,gC,gC,λj h h2=>zo⟩
   ·rw [Zx6 hz,Zzb];clear cT;refine pI func5 rfl ntmps5 results5 call5 ?_;exact wklp (w_3 hls hlg hz) (w_1 cR) w_t (w_r 0) w_z
  ·rw [Zx8 h8,Zx6 h3,Zzv,Zzb];clear cT;refine pI func5 rfl ntmps5 results5 call5 ?_;exact wklp (w_2 hls hlg) (w_1 cR) w_t (w_r 0) w_z
 ·rw [Zx6 h8,Zzb];clear cT;refine pI func5 rfl ntmps5 results5 call5 ?_;exact wklp (w_2 hls hlg) (w_1 cR) w_t (w_r 0) w_z
def bigE (E:Nat→List Po) (i:Nat):Bool:=(E i).any λp=>decide (4000 < p.length)
def hypL (E:Nat→List Po):Nat→List Po
 | 0=>[]
 | i+1=>hypL E i++E i
attribute [local go_sem] Zpg Zs0
structure RT where
 r:RQ
 m:List Int
abbrev RT.av (t:RT):AV:=.agg [.v (.bool t.r.s),lim t.r.l,lim t.r.d,ivs t.m]
abbrev RT.tm (t:RT):Tm:=(t.r.q,t.m)
abbrev RT.zero:RT:=⟨⟨false,[],[]⟩,[]⟩
def RT.ok (t:RT):Bool:=t.r.ok && (decide (t.r.q≠0) && Zlg t.m)
def trmOk (l:List RT) (i:Nat):Bool:=(l.getD i RT.zero).ok && (decide (i=0) || decide (ltM (l.getD i RT.zero).m (l.getD (i - 1) RT.zero).m))
def polOk (l:List RT):Bool:=(List.range l.length).all (trmOk l)
theorem Zvh {l:List RT} {i:Nat} (h:i < l.length):l.getD i RT.zero=l[i]:=by rw [Zyg,Zyf h];rfl
theorem Zma {m:List Int} (h:Zlg m=true):Can m∧m.length≤64∧∀j,gI m j≤1048576:=by
 unfold Zlg at h;simp only [Zyv,Zy1,ZAm,ZAr] at h;obtain⟨⟨h1,h2⟩,h3⟩:=h;have hj:∀j,0≤gI m j∧gI m j≤1048576:=λj=>by
  by_cases hl:j < m.length
  ·have:=h3 m[j] (Zyl hl);rw [Zdr hl];unfold expOk at this;simp at this;omega
  ·rw [Zb3 zo];omega
 refine⟨⟨λj=>(hj j).1,?_⟩,h1,λj=>(hj j).2⟩;by_cases h0:m.length=0
 ·exact .inl h0
 ·rw [Ztx zo] at h2;exact .inr (by simpa using h2)
theorem pol_in {l:List RT} {k:Nat} (h:polOk l=true) (hs:∀t∈l,t.r.lm k) :
 .sl 4 (l.map RT.av)=poA (l.map RT.tm)∧SrtM (l.map RT.tm)∧PK (l.map RT.tm) k 1048576∧∀t∈l,t.m.length≤64:=by
 have hall:∀i (hi:i < l.length),l[i].ok=true∧(i=0∨ltM l[i].m (l.getD (i - 1) RT.zero).m):=λi hi=>by
  have:=List.all_eq_true.1 h i (List.mem_range.2 hi);unfold trmOk at this;rw [Zvh hi] at this
  simpa using this
 have hok:∀t∈l,t.r.ok=true∧t.r.q≠0∧Zlg t.m=true:=λt ht=>by
  obtain⟨i,hi,rfl⟩:=List.mem_iff_getElem.1 ht;have:=(hall i hi).1;unfold RT.ok at this;simp only [Zyv,Zy1] at this;exact this
 refine⟨?_,⟨λu hu=>?_,?_⟩,λu hu=>?_,λt ht=>(Zma (hok t ht).2.2).2.1⟩
 ·rw [poA,List.map_map];congr 1;refine ZAj λt ht=>?_;have:=(RQ.ok_av (hs t ht) (hok t ht).1).1;simp only [AV.agg.injEq,List.cons.injEq] at this;show AV.agg [_,_,_,_]=AV.agg [_,_,_,_];rw [this.1,this.2.1,this.2.2.1]
 ·obtain⟨t,ht,rfl⟩:=List.mem_map.1 hu;exact⟨(hok t ht).2.1,(Zma (hok t ht).2.2).1⟩
 ·have key:∀d i,i+d+1 < l.length→ltM (l.getD (i+d+1) RT.zero).m (l.getD i RT.zero).m:=by
   intro d
   induction d with
   | zero =>
     intro i hi;have:=(hall (i+1) hi).2;rw [Zvh hi];rcases this with h0 | h0
     ·omega
     ·exact h0
   | succ d ih =>
     intro i hi;have h1:=ih i zo;have h2:=(hall (i+(d+1)+1) hi).2;rw [Zvh hi];rcases h2 with h0 | h0
     ·omega
     ·exact ordM.tr _ _ _ h0 h1
  rw [List.pairwise_map,List.pairwise_iff_getElem];intro i j hi hj hij;have:=key (j - i - 1) i zo;rw [show i+(j - i - 1)+1=j by omega,Zvh hi,Zvh hj] at this;exact this
 ·obtain⟨t,ht,rfl⟩:=List.mem_map.1 hu;obtain⟨h1,h2,h3⟩:=Zma (hok t ht).2.2;exact⟨(RQ.ok_av (hs t ht) (hok t ht).1).2,by show t.m.length≤1000;omega,λj=>⟨h1.1 j,h3 j⟩⟩
def degM (p:Po):Int:=p.foldl (λn t=>max n (sumT t.2 t.2.length)) (-1)
theorem Zxh {p:Po} {i:Nat} (hi:i < p.length):degM (p.take (i+1))=max (degM (p.take i)) (sumT p[i].2 p[i].2.length):=by
 unfold degM;rw [ZAy hi,List.foldl_append];rfl
theorem Zuw {l:List Int} {e:Nat} (h:∀j,0≤gI l j∧gI l j≤(e:Int)):∀n,0≤sumT l n∧sumT l n≤((n*e:Nat):Int)
 | 0=>by simp [sumT]
 | n+1=>by
   have:=Zuw h n;have h1:=h n;have h2:sumT l (n+1)=sumT l n+gI l n:=rfl;rw [h2,ZB7];omega
def RT.two (t:RT):Bool:=decide (t.m.length≤4) && (decide (t.r.l.length≤2) && decide (t.r.d.length≤2))
def cooP (l:List RT):Bool:=decide (l.length≤6) && (polOk l && l.all λt=>t.two && decide (degM (l.map RT.tm)≤8))
theorem coo_in {l:List RT} {k:Nat} (hs:∀t∈l,t.r.lm k) (h:cooP l=true):.sl 4 (l.map RT.av)=poA (l.map RT.tm)∧PB (l.map RT.tm) 8 110 8:=by
 unfold cooP at h;simp only [Zyv,Zy1,ZAr] at h;obtain⟨h6,ho,h2⟩:=h;have h3:∀t∈l,t.r.lm 2:=λt ht=>by
  have:=(h2 t ht).1;unfold RT.two at this;simp only [Zyv,Zy1] at this;exact⟨(hs t ht).1,(hs t ht).2.1,this.2.1,this.2.2⟩
 obtain⟨e,st,pk,-⟩:=pol_in ho h3;refine⟨e,st,λu hu=>?_,by rw [Zx9];omega⟩;obtain⟨t,ht,rfl⟩:=List.mem_map.1 hu;have hp:=pk _ hu;refine⟨hp.1.mono zo,hp.2.1,λj=>⟨(hp.2.2 j).1,?_⟩⟩
 have hd:sumT t.m t.m.length≤8:=by
  have h4:=(h2 t ht).2;obtain⟨i,hi,e⟩:=List.mem_iff_getElem.1 hu;have h5:∀n,n≤(l.map RT.tm).length→i < n→sumT t.m t.m.length≤degM ((l.map RT.tm).take n):=λn=>by
   induction n with
   | zero=>intro _ h;omega
   | succ n ih =>
     intro hn hin;rw [Zxh zo];by_cases e2:i=n
     ·subst e2;rw [e];exact Int.le_max_right _ _
     ·exact Int.le_trans (ih zo zo) (Int.le_max_left _ _)
  have:=h5 (l.map RT.tm).length (Zx7 _) hi;rw [Zy7] at this;omega
 have key:∀n j,j < n→gI t.m j≤sumT t.m n:=λn=>by
  induction n with
  | zero=>intro j h;omega
  | succ n ih =>
    intro j hj;have e1:sumT t.m (n+1)=sumT t.m n+gI t.m n:=rfl;rw [e1];have h0:=(hp.2.2 n).1;have hb:=(Zuw (λj=>(hp.2.2 j)) n).1;by_cases e2:j=n
    ·subst e2;simp only at *;omega
    ·have:=ih j zo;simp only at *;omega
 by_cases hj:j < t.m.length
 ·have:=key _ _ hj;simp only;omega
 ·show gI t.m j≤_;rw [Zb3 zo];omega
end Go.Proofs.YtenfejhaohihoaaGreat
namespace Go.Proofs.YtenfejhaohihoaaGreat
attribute [-bool_to_prop] Bool.and_eq_decide Bool.or_eq_decide Bool.decide_beq_decide decide_eq_decide
section
open Go Go.RowKit Go.Pg Go.Pol
end
end Go.Proofs.YtenfejhaohihoaaGreat
namespace Go.Proofs.YtenfejhaohihoaaGreat
open Go Go.RowKit Go.Pg Go.Pol Go.Proofs.Tryz
attribute [-bool_to_prop] Bool.and_eq_decide Bool.or_eq_decide Bool.decide_beq_decide decide_eq_decide
theorem Zoi {α:Type} [DecidableEq α]:∀(l m:List α),l.Nodup→(∀x∈l,x∈m)→l.length≤m.length
 | [],_,_,_=>Zyi _
 | x :: l,m,h,hs=>by
   obtain⟨h1,h2⟩:=List.nodup_cons.1 h;have hx:=hs x (.head _);have:=Zoi l (m.erase x) h2 λy hy=>(List.mem_erase_of_ne (show y≠x from λe=>h1 (by rw [←e];exact hy))).2 (hs y (.tail _ hy));rw [List.length_erase_of_mem hx] at this;have hp:=List.length_pos_of_mem hx;rw [Zyk];omega
theorem Zu0 {p:Po} (h:SrtM p):(p.map (·.2)).Nodup:=by
 rw [List.Nodup,List.pairwise_map];refine List.Pairwise.imp ?_ h.2;intro s t hst e;rw [e] at hst;exact ordM.irr _ hst
theorem len_of {r a b:Po} (hr:SrtM r) (h:∀t∈r,t.2∈a.map (·.2)∨t.2∈b.map (·.2)):r.length≤a.length+b.length:=by
 have:=Zoi (r.map (·.2)) (a.map (·.2)++b.map (·.2)) (Zu0 hr) λx hx=>by
  obtain⟨t,ht,rfl⟩:=List.mem_map.1 hx;exact List.mem_append.2 (h t ht)
 simpa using this
theorem Zwq {q:Rat} {p:Po} {t:Tm} (h:t∈sclM q p):t.2∈p.map (·.2):=by
 unfold sclM at h;split at h
 ·cases h
 ·obtain⟨s,hs,rfl⟩:=List.mem_map.1 h;exact List.mem_map.2 ⟨s,hs,rfl⟩
theorem Zms {p q:Po} {t:Tm} (h:t∈addM p q):t.2∈p.map (·.2)∨t.2∈q.map (·.2):=by
 obtain⟨s,hs,e⟩:=Zjr h;rcases List.mem_append.1 hs with h1 | h1
 ·exact .inl (List.mem_map.2 ⟨s,h1,e.symm⟩)
 ·exact .inr (List.mem_map.2 ⟨s,h1,e.symm⟩)
theorem mem_neg {p:Po} {x:List Int} (h:x∈(Zaw (-1) p).map (·.2)):x∈p.map (·.2):=by
 unfold Zaw at h;rw [List.map_map] at h;exact h
theorem Zwv {a b:Po} (q:Rat) (ha:SrtM a) (hb:SrtM b):(addM a (sclM q (subM b a))).length≤a.length+b.length :=
 len_of (Zb5 ordM ha (Zh1 (Zbu ordM hb ha))) λt ht=>by
  rcases Zms ht with h | h
  ·exact .inl h
  ·obtain⟨s,hs,e⟩:=List.mem_map.1 h;have h1:=Zwq hs;obtain⟨u,hu,e2⟩:=List.mem_map.1 h1;rcases Zms hu with h2 | h2
   ·exact .inr (by rw [←e,←e2];exact h2)
   ·exact .inl (by rw [←e,←e2];exact mem_neg h2)
theorem Zpj {f:FS} (h:∀c∈f.cs,SrtM c.1∧SrtM c.2) (s:RS) (k:Nat):SrtM (f.at s k).1∧SrtM (f.at s k).2:=by
 unfold FS.at;by_cases hk:(gI s.ar k).toNat < f.cs.length
 ·exact h _ (Za2 hk)
 ·rw [Zyg,Zzl zo];exact⟨.nil,.nil⟩
theorem nxt_srt {f:FS} (h:∀c∈f.cs,SrtM c.1∧SrtM c.2) (i:Nat) (s:RS):SrtM (f.nxt i s).2.1∧SrtM (f.nxt i s).2.2:=by
 obtain⟨a1,a2⟩:=Zpj h s 0;obtain⟨b1,b2⟩:=Zpj h s 1;obtain⟨c1,c2⟩:=Zpj h s 2;have hv:=Zce;unfold FS.nxt;simp only;split
 ·split
  ·exact⟨.nil,.nil⟩
  ·split
   ·exact⟨hv _,.nil⟩
   ·exact⟨hv _,hv _⟩
 ·split
  ·exact⟨Zb5 ordM a1 (Zh1 (Zbu ordM b1 a1)),Zb5 ordM a2 (Zh1 (Zbu ordM b2 a2))⟩
  ·split
   ·exact⟨Zb5 ordM a1 (Zbu ordM c1 b1),Zb5 ordM a2 (Zbu ordM c2 b2)⟩
   ·split
    ·exact⟨Zb5 ordM a1 (Zbu ordM b2 c2),Zb5 ordM a2 (Zbu ordM c1 b1)⟩
    ·split
     ·exact⟨Zb5 ordM a1 (Zbr ordM mulK (Zbu ordM b1 a1) (hv _)),Zb5 ordM a2 (Zbr ordM mulK (Zbu ordM b2 a2) (hv _))⟩
     ·split
      ·exact⟨hv _,hv _⟩
      ·exact⟨hv _,hv _⟩
theorem Zq1 (ss:List RS):∀i,∀c∈(frN ss i).cs,SrtM c.1∧SrtM c.2
 | 0,c,h=>by simp [frN] at h
 | i+1,c,h=>by
   rcases List.mem_append.1 (show c∈(frN ss i).cs++[_] from h) with h1 | h1
   ·exact Zq1 ss i c h1
   ·rw [Zzs] at h1;subst h1;exact nxt_srt (Zq1 ss i) i _
theorem at_w {f:FS} {w:List Int} (h:∀n,((f.cs.getD n ([],[])).1.length:Int)≤gI w n∧((f.cs.getD n ([],[])).2.length:Int)≤gI w n) (s:RS) (k:Nat):((f.at s k).1.length:Int)≤gI w (gI s.ar k).toNat∧((f.at s k).2.length:Int)≤gI w (gI s.ar k).toNat:=h _
theorem nxt_w {f:FS} {w:List Int} (h0:∀c∈f.cs,SrtM c.1∧SrtM c.2) (h:∀n,((f.cs.getD n ([],[])).1.length:Int)≤gI w n∧((f.cs.getD n ([],[])).2.length:Int)≤gI w n) (i:Nat) (s:RS) :
 ((f.nxt i s).2.1.length:Int)≤wOf w s∧((f.nxt i s).2.2.length:Int)≤wOf w s:=by
 obtain⟨a1,a2⟩:=at_w h s 0;obtain⟨b1,b2⟩:=at_w h s 1;obtain⟨c1,c2⟩:=at_w h s 2;obtain⟨r1,r2⟩:=Zpj h0 s 0;obtain⟨t1,t2⟩:=Zpj h0 s 1;have hv:=λv=>(Zug v).l;have d1:=Zwv s.r.q r1 t1;have d2:=Zwv s.r.q r2 t2;unfold FS.nxt wOf;simp only;generalize f.at s 0=a at *;generalize f.at s 1=b at *;generalize f.at s 2=c at *;have hw:∀p q r:Po,(addM p (subM q r)).length≤p.length+(q.length+r.length):=fun(p q r:Po)=>Zye (Zjw (lt:=ltM) p (subM q r)) (Nat.add_le_add_left (Zdg q r) _);have hw':∀(p q:Po) (v:Nat),(addM p (mlM (subM q p) (varM v))).length≤p.length+(q.length+p.length):=fun(p q:Po) (v:Nat)=>Zye (Zjw (lt:=ltM) p (mlM (subM q p) (varM v))) (Nat.add_le_add_left (Zye (Zhd (subM q p) v) (Zdg q p)) _)
 have two:∀{x y:Po} {v:Int},(x.length:Int)≤v→(y.length:Int)≤v→(x.length:Int)≤v∧(y.length:Int)≤v:=λh k=>⟨h,k⟩;have v1:=hv f.vs.length;have v2:=hv (f.vs.length+1);have v3:=hv (f.vs.length+2);have n0:((([]:Po)).length:Int)≤1:=by simp
 by_cases k1:s.k=1
 ·rw [Zx5 k1,Zx4 (show ¬s.k=2 by omega),Zx4 (show ¬(s.k=3∨s.k=4) by omega),Zx4 (show ¬s.k=5 by omega)];split
  ·exact two n0 n0
  ·split
   ·exact two (x:=varM f.vs.length) zo n0
   ·exact two (x:=varM f.vs.length) (y:=varM (f.vs.length+1)) zo zo
 ·rw [Zx4 k1];by_cases k2:s.k=2
  ·rw [Zx5 k2,Zx5 k2];exact two (x:=addM a.1 (sclM s.r.q (subM b.1 a.1))) (y:=addM a.2 (sclM s.r.q (subM b.2 a.2))) zo zo
  ·rw [Zx4 k2,Zx4 k2];by_cases k3:s.k=3
   ·rw [Zx5 k3,Zx5 (Or.inl k3)];have h1:=hw a.1 c.1 b.1;have h2:=hw a.2 c.2 b.2;exact two (x:=addM a.1 (subM c.1 b.1)) (y:=addM a.2 (subM c.2 b.2)) zo zo
   ·rw [Zx4 k3];by_cases k4:s.k=4
    ·rw [Zx5 k4,Zx5 (Or.inr k4)];have h1:=hw a.1 b.2 c.2;have h2:=hw a.2 c.1 b.1;exact two (x:=addM a.1 (subM b.2 c.2)) (y:=addM a.2 (subM c.1 b.1)) zo zo
    ·rw [Zx4 k4,Zx4 (show ¬(s.k=3∨s.k=4) by omega)];by_cases k5:s.k=5
     ·rw [Zx5 k5,Zx5 k5];have h1:=hw' a.1 b.1 f.vs.length;have h2:=hw' a.2 b.2 f.vs.length;exact two (x:=addM a.1 (mlM (subM b.1 a.1) (varM f.vs.length))) (y:=addM a.2 (mlM (subM b.2 a.2) (varM f.vs.length))) zo zo
     ·rw [Zx4 k5,Zx4 k5];split
      ·exact two (x:=varM (f.vs.length+1)) (y:=varM (f.vs.length+2)) zo zo
      ·exact two (x:=varM f.vs.length) (y:=varM (f.vs.length+1)) zo zo
theorem frN_w (ss:List RS):∀i n,(((frN ss i).cs.getD n ([],[])).1.length:Int)≤gI (wts ss i) n∧(((frN ss i).cs.getD n ([],[])).2.length:Int)≤gI (wts ss i) n
 | 0,n=>by simp [frN,wts,gI]
 | i+1,n=>by
   have ih:=frN_w ss i;show((((frN ss i).cs++[_]).getD n ([],[])).1.length:Int)≤gI (wts ss i++[_]) n∧((((frN ss i).cs++[_]).getD n ([],[])).2.length:Int)≤gI (wts ss i++[_]) n;rw [Zxa,Zhx];have hl:=Zeu ss i;by_cases h1:n < i
   ·rw [Zx5 h1,Zyg,Zzp zo,←Zyg];exact ih n
   ·rw [Zx4 h1];by_cases h2:n=i
    ·rw [Zx5 h2,Zyg,Zzq zo,hl,h2,ZBi];exact nxt_w (Zq1 ss i) ih i _
    ·rw [Zx4 h2,Zyg,Zzl (by simp;omega)];simp
theorem vs_le (ss:List RS):∀i,(frN ss i).vs.length≤3*i
 | 0=>by simp [frN]
 | i+1=>by
   show((frN ss i).vs++((frN ss i).nxt i (ss.getD i RS.zero)).1).length≤_;rw [Zy0];have:=vs_le ss i;have:=Zmo (frN ss i) i (ss.getD i RS.zero);omega
def dgS (S:Nat→Bool) (m:List Int):Nat→Int
 | 0=>0
 | n+1=>dgS S m n+if S n then gI m n else 0
theorem Zi7 (S:Nat→Bool) (a b:List Int):∀n,dgS S (mulM a b) n=dgS S a n+dgS S b n
 | 0=>rfl
 | n+1=>by
   show dgS S (mulM a b) n+_=(dgS S a n+_)+(dgS S b n+_);rw [Zi7 S a b n,show gI (mulM a b) n=gI a n+gI b n from Zfo _ rfl a b n];split<;>omega
theorem Zm2 (S:Nat→Bool) (v:Nat):∀n,dgS S (Zdf v) n=if S v=true∧v < n then 1 else 0
 | 0=>by simp [dgS]
 | n+1=>by
   show dgS S (Zdf v) n+_=_;rw [Zm2 S v n,Zfb];by_cases h:n=v
   ·subst h;cases hS:S n<;>simp
   ·rw [Zx4 h,show(if S n=true then (0:Int) else 0)=0 from by split<;>rfl,Int.add_zero];have:(S v=true∧v < n)=(S v=true∧v < n+1):=propext ⟨λx=>⟨x.1,zo⟩,λx=>⟨x.1,zo⟩⟩;simp only [this]
def DP (S:Nat→Bool) (V:Nat) (d:Int) (p:Po):Prop:=∀t∈p,t.2.length≤V∧dgS S t.2 V≤d
theorem DP.mono {S:Nat→Bool} {V:Nat} {d e:Int} {p:Po} (h:DP S V d p) (hd:d≤e):DP S V e p:=λt ht=>⟨(h t ht).1,by have:=(h t ht).2;omega⟩
theorem DP.add {S:Nat→Bool} {V:Nat} {d:Int} {p q:Po} (h:DP S V d p) (g:DP S V d q):DP S V d (addM p q):=λt ht=>by
 rcases Zms ht with h1 | h1
 ·obtain⟨u,hu,e⟩:=List.mem_map.1 h1;rw [←e];exact h u hu
 ·obtain⟨u,hu,e⟩:=List.mem_map.1 h1;rw [←e];exact g u hu
theorem DP.neg {S:Nat→Bool} {V:Nat} {d:Int} {p:Po} (h:DP S V d p):DP S V d (Zaw (-1) p):=λt ht=>by
 obtain⟨u,hu,rfl⟩:=List.mem_map.1 ht;exact h u hu
theorem DP.sub {S:Nat→Bool} {V:Nat} {d:Int} {p q:Po} (h:DP S V d p) (g:DP S V d q):DP S V d (subM p q):=h.add g.neg
theorem DP.mul {S:Nat→Bool} {V:Nat} {d e:Int} {p q:Po} (h:DP S V d p) (g:DP S V e q):DP S V (d+e) (mlM p q):=by
 have key:∀(q out:Po),DP S V e q→DP S V (d+e) out→DP S V (d+e) (q.foldl (λout t=>addP ltM out (Zai mulM p t)) out):=by
  intro q
  induction q with
  | nil=>exact λout _ h2=>h2
  | cons t q ih =>
    intro out h1 h2;rw [ZCo];refine ih _ (λu hu=>h1 u (.tail _ hu)) (h2.add λu hu=>?_);obtain⟨s,hs,rfl⟩:=List.mem_map.1 hu;obtain⟨a1,a2⟩:=h s hs;obtain⟨b1,b2⟩:=h1 t (.head _);exact⟨by show(mulM s.2 t.2).length≤V;rw [Zf8];omega,by show dgS S (mulM s.2 t.2) V≤_;rw [Zi7];omega⟩
 exact key q [] g λt ht=>by cases ht
attribute [go_sem] underlying166 szA2P zA2P
attribute [local go_sem] Zbt Zcd Zcz Zba Zbc Zbb Zbe Zbh Zcj Zcr Zcf Zcq Zdb Zdd Zcp Za4 Za6 Zb1 Zc1 Zaz Zbk Zc3 Zc9 Ze4 Zc2 Zc8 Ze3 Zbf Zbi Zck Zbl Zcn Zde Zff Zfg Zgm Zg2 Zjy Zj0 Zek Zeq Zgk Zgj Zuv undFnN
theorem poConst1:Pure prog 121 [ratQ 1] (poA oneM):=by
 have z1:Sz (1:Rat) 1:=Zci 1 zo;have z0:Sz (0:Rat) 1:=Zci 0 zo;have o0:Pure prog 100 [iv 0] (ratQ 0):=ratOf 0 zo;have ad:=ratAdd 1 0 z1 z0 zo zo;rw [ZAv] at ad;have sg:Pure prog 183 [ratQ 1,.v (.slice none 0 0)] (poA oneM):=Zih (Zr0 1 [] zd z1 zo) (.cons (.refl _) (.cons (.nil 1) .nil));generalize (0:Rat)=q0 at *;generalize hr:oneM=r at *;generalize (1:Rat)=q1 at *;refine pI func121 rfl ntmps121 results121 call121 ?_;(focus (refine wkld w_t (w_3 o0 ad sg) w_t (w_1 (w_d 1 [(1,ratQ q0),(2,ratQ q1),(3,poA r)] [] [])) ?_;(repeat' first|exact w_t|apply w_l);all_goals intros))
abbrev nilC:AV:=.agg [.v (.slice none 0 0),.v (.slice none 0 0)]
theorem few_in {ss:List RS} {gs:List RG} (hs:∀s∈ss,s.sm) (h:fewB ss gs=true):ss.length≤8∧figE ss gs=0∧FigOk ss∧Zl4 ss gs=true:=by
 unfold fewB at h;simp only [Zyv,Zy1,ZAr] at h;obtain⟨h1,h2,h3,h4,h5,h6⟩:=h;refine⟨h1,h3,⟨zo,Zlv h3,λs hm=>?_,?_⟩,h4⟩
 ·have:=h5 s hm;unfold rat2 at this;simp only [Zyv,Zy1] at this;obtain⟨k1,k2,k3,k4⟩:=(hs s hm).1;exact⟨k1,k2,this.1,this.2⟩
 ·have:=Zwd ss ss.length;omega
theorem Zud (ss:List RS) {i j:Nat} (h:j < i):∀d,gI (wts ss (i+d)) j=gI (wts ss i) j
 | 0=>rfl
 | d+1=>by
   show gI (wts ss (i+d)++[_]) j=_;rw [Zxa,Zhx,Zx5 zo];exact Zud ss h d
theorem few_cb {ss:List RS} {gs:List RG} (hl:ss.length≤8) (ok:FigOk ss) (ht:Zl4 ss gs=true):(∀j,j < ss.length→bigN ss j=false)∧∀j,CB ((frN ss ss.length).cs.getD j ([],[])):=by
 have hw:∀j,gI (wts ss ss.length) j≤8:=λj=>by
  by_cases h:j < (wts ss ss.length).length
  ·unfold Zl4 at ht;simp only [Zyv,ZAr,Zy1] at ht;rw [Zdr h];exact ht.1 _ (Zyl h)
  ·rw [Zb3 zo];omega
 have big:∀j,j < ss.length→bigN ss j=false:=λj hj=>by
  rw [Zne hj];have hv:=vs_le ss (j+1);rw [Zeg hj] at hv;have h1:=frN_w ss (j+1) j;have h2:=Zud ss (show j < j+1 by omega) (ss.length - (j+1));rw [show j+1+(ss.length - (j+1))=ss.length by omega] at h2;have h3:=hw j;rw [Zeg hj,Zyg,Zzq (by rw [Zeu];omega),Zeu,ZBi] at h1;simp only [ZC9,Zz5] at h1;simp only [ZAn,ZAa];simp only at hv;omega
 refine⟨big,λj=>?_⟩;obtain⟨D,hD,hn⟩:=ok.fi (Zx7 _) big;have h1:=frN_w ss ss.length j;have h3:=hw j;by_cases hj:j < (frN ss ss.length).cs.length
 ·obtain⟨c1,c2⟩:=hD.co hn _ (Za2 (d:=(([],[]):Pt)) hj);exact⟨⟨c1.st,c1.pk.mono (Zx7 _) zo,zo⟩,⟨c2.st,c2.pk.mono (Zx7 _) zo,zo⟩⟩
 ·rw [Zyg,Zzl zo];exact⟨.nil,.nil⟩
theorem Zq0 {vs:List Vt} {i:Int} {w:Nat}:∀{n:Nat},fstN vs i n=some w→w < n
 | 0,h=>by cases h
 | n+1,h=>by
   unfold fstN at h;split at h
   ·rename_i v hv;have:=Zq0 hv;injection h with h
    omega
   ·split at h
    ·injection h with h;omega
    ·cases h
theorem Zxd {vs:List Vt} {i:Int}:∀{n:Nat},fstN vs i n=none→∀j,j < n→(vs.getD j (0,0,0)).2.1≠i
 | 0,_,j,hj=>zo
 | n+1,h,j,hj=>by
   unfold fstN at h;split at h
   ·cases h
   ·rename_i hn;split at h
    ·cases h
    ·rename_i hx;by_cases e:j=n
     ·rw [e];exact hx
     ·exact Zxd hn j zo
theorem Zue (ss:List RS) (i:Nat):∀d,∃l,(frN ss (i+d)).vs=(frN ss i).vs++l
 | 0=>⟨[],by rw [Zzy];rfl⟩
 | d+1=>by
   obtain⟨l,hl⟩:=Zue ss i d;refine⟨l++((frN ss (i+d)).nxt (i+d) (ss.getD (i+d) RS.zero)).1,?_⟩;show(frN ss (i+d)).vs++_=_;rw [hl,Zzd];rfl
theorem circ_var {ss:List RS} {i:Nat} (hi:i < ss.length) (hk:ss[i].k=6):∃w,fstN (frN ss ss.length).vs i (frN ss ss.length).vs.length=some w∧w < (frN ss ss.length).vs.length:=by
 cases h:fstN (frN ss ss.length).vs i (frN ss ss.length).vs.length with
 | some w=>exact⟨w,rfl,Zq0 h⟩
 | none =>
   exfalso;obtain⟨l,hl⟩:=Zue ss (i+1) (ss.length - (i+1));rw [show i+1+(ss.length - (i+1))=ss.length by omega,Zeg hi] at hl
   have hn:((frN ss i).nxt i ss[i]).1=[(1,(i:Int),0),(2,(i:Int),1),(2,(i:Int),2)]:=by
    unfold FS.nxt;simp [hk]
   simp only at hl;rw [hn] at hl;have hm:((1,(i:Int),0):Vt)∈(frN ss ss.length).vs:=by rw [hl];simp
   obtain⟨j,hj,e⟩:=List.mem_iff_getElem.1 hm;have:=Zxd h j hj;rw [Zyg,Zyf hj,e] at this;exact this rfl
def eqE (ss:List RS) (i:Nat):List Po :=
 let f:=frN ss ss.length
 let s:=ss.getD i RS.zero
 let p:=λk=>f.cs.getD (gI s.ar k).toNat ([],[])
 eqsM s.k (p 0) (p 1) (p 2) (p 3) (f.cs.getD i ([],[])) (parM f.vs i)
theorem Zvy {vs:List Vt} {i:Int} {w:Nat} (h:fstN vs i vs.length=some w):parM vs i=varM w:=by unfold parM;rw [h]
def ssF:List RS:=[⟨1,⟨#[65]⟩,[],⟨false,[],[]⟩⟩,⟨1,⟨#[66]⟩,[],⟨false,[],[]⟩⟩,⟨1,⟨#[67]⟩,[],⟨false,[],[]⟩⟩,⟨7,⟨#[70]⟩,[2,0,1],⟨false,[],[]⟩⟩]
def EF (i:Nat):List Po:=if i=3 then [mlM (varM 0) (varM 4),subM (mlM (varM 0) (varM 3)) (mlM (varM 0) (varM 1))] else []
structure RCo where
 x:List RT
 y:List RT
abbrev RCo.av (c:RCo):AV:=.agg [.sl 4 (c.x.map RT.av),.sl 4 (c.y.map RT.av)]
def RCo.lm (c:RCo) (k:Nat):Prop:=(∀t∈c.x,t.r.lm k)∧∀t∈c.y,t.r.lm k
def RCo.ok (c:RCo):Bool:=cooP c.x && cooP c.y
def RCo.pt (c:RCo):Pt:=(c.x.map RT.tm,c.y.map RT.tm)
theorem RCo.in {c:RCo} {k:Nat} (h:c.lm k) (ho:c.ok=true):c.av=coA c.pt∧CB c.pt:=by
 unfold RCo.ok at ho;rw [Zyv] at ho;obtain⟨e1,p1⟩:=coo_in h.1 ho.1;obtain⟨e2,p2⟩:=coo_in h.2 ho.2;exact⟨by show AV.agg [_,_]=AV.agg [_,_];rw [e1,e2];rfl,p1,p2⟩
section
attribute [local go_sem] underlying3 underlying4 underlying184 underlying9 underlying67 underlying34 underlying59 underlying57 underlying55 underlying76 underlying22 underlying25 underlying106 underlying38 underlying98 underlying37 underlying40 underlying165 underlying167 underlying53 underlying111 underlying163 underlying200 sz3 by3 z3 szB zB Zbt zErr Zcd Zcz zStr Zba zRat Zbc zInt Zbb zNat Zbe Zbh Zcj Zcr zFig Zcf zSlI Zcq zSlS Zdb Zdd zVar Zcp zSlV Za4 Za6 Zb1 Zc1 zSlC Zaz Zbk Zc3 Zc9 Ze4 Zc2 Zc8 Ze3 Zbf Zbi Zck Zbl Zcn Zde Zff Zfg zFnC underlying178 Zgm Zg2 Zjy underlying46 Zj0 zSlP underlying78 underlying23 szL byL zL Zek Zeq Zgk Zgj zSlF
end
end Go.Proofs.YtenfejhaohihoaaGreat
section
namespace Go.Pol
structure CO {α:Type} (cmp:α→α→Int):Prop where
 eqz:∀a b,cmp a b=0→a=b
 refl:∀a,cmp a a=0
 flip:∀a b,cmp a b < 0↔0 < cmp b a
 tr:∀a b c,cmp a b < 0→cmp b c < 0→cmp a c < 0
structure CP {α:Type} (cmp:α→α→Int):Prop where
 tr:∀{a b c},cmp a b≤0→cmp b c≤0→cmp a c≤0
 tot:∀a b,¬cmp a b < 0→cmp b a≤0
theorem CP.key {α β:Type} {cmp:α→α→Int} (o:CP cmp) (f:β→α):CP (λs t=>cmp (f s) (f t)):=⟨λh k=>o.tr h k,λ_ _ h=>o.tot _ _ h⟩
namespace CO
variable {α:Type} {cmp:α→α→Int}
theorem le_tr (o:CO cmp) {a b c:α} (h:cmp a b≤0) (k:cmp b c≤0):cmp a c≤0:=by
 by_cases h0:cmp a b=0
 ·rw [o.eqz a b h0];exact k
 ·by_cases k0:cmp b c=0
  ·rw [←o.eqz b c k0];exact h
  ·have:=o.tr a b c zo zo;omega
theorem le_total (o:CO cmp) (a b:α) (h:¬cmp a b < 0):cmp b a≤0:=by
 have:=(o.flip b a);have:=(o.flip a b);omega
theorem cp (o:CO cmp):CP cmp:=⟨λh k=>o.le_tr h k,o.le_total⟩
end CO
section
variable {α:Type} (cmp:α→α→Int)
def Asc (l:List α):Prop:=l.Pairwise λa b=>cmp a b≤0
def insI (P:List α) (x:α):Nat→List α
 | 0=>x :: P
 | j+1=>if cmp x (P.getD j x) < 0 then insI P x j else P.take (j+1)++x :: P.drop (j+1)
def srtN (L:List α):Nat→List α
 | 0=>[]
 | n+1=>match L[n]? with
   | some x=>insI cmp (srtN L n) x (srtN L n).length
   | none=>srtN L n
def srtQ (L:List α):List α:=srtN cmp L L.length
variable {cmp}
def putQ (cmp:α→α→Int):List α→α→List α
 | [],q=>[q]
 | a :: l,q=>if cmp a q≤0 then a :: putQ cmp l q else q :: a :: l
end
section
variable {α:Type} (cmp:α→α→Int)
def lexL:List α→List α→Int
 | [],[]=>0
 | [],_ :: _=>-1
 | _ :: _,[]=>1
 | a :: l,b :: m=>if cmp a b=0 then lexL l m else cmp a b
def ordL (l m:List α):Int:=if l.length < m.length then -1 else if m.length < l.length then 1 else lexL cmp l m
variable {cmp}
end
section
variable {κ:Type} [DecidableEq κ]
def addC:List (Rat × κ)→Rat × κ→List (Rat × κ)
 | [],t=>[t]
 | s :: l,t=>if s.2=t.2 then (s.1+t.1,s.2) :: l else s :: addC l t
def Dst (l:List (Rat × κ)):Prop:=l.Pairwise λs t=>s.2≠t.2
end
section
variable {κ:Type} (cmp:κ→κ→Int)
def sumG (l:List (Rat × κ)):List (Rat × κ):=sumH (λx y=>cmp y x < 0) (l.map λt=>if t.1=0 then [] else [t])
variable {cmp}
end
section
variable {κ:Type} [DecidableEq κ]
variable (cmp:κ→κ→Int)
def sumC (l:List (Rat × κ)):List (Rat × κ):=srtQ (λs t=>cmp s.2 t.2) ((l.foldl addC []).filter λt=>decide (t.1≠0))
variable {cmp}
end
end Go.Pol
end
namespace Go.Pol
section
def cl (q:Rat):Nat:=(q.num.natAbs+q.den - 1)/q.den
theorem cl_le {q:Rat} {B:Nat}:cl q≤B↔q.num.natAbs≤B*q.den:=by
 have h:0 < q.den:=Zz7 q.den_nz;unfold cl;rw [←Nat.lt_succ_iff,ZA7 h,ZB7];omega
theorem cl_self (q:Rat):q.num.natAbs≤cl q*q.den:=cl_le.1 (Zx7 _)
theorem Zk7 {q:Rat} {D:Nat} (h:q.den ∣ D):BQ D (cl q) q:=⟨h,cl_self q⟩
theorem Zxo (a b:Rat):cl (a+b)≤cl a+cl b:=cl_le.2 ((Zk7 (ZBt a.den b.den)).add (Zk7 (Nat.dvd_mul_left b.den a.den))).2
theorem Zxn (a b:Rat):cl (a*b)≤cl a*cl b:=cl_le.2 ((Zk7 (ZAs a.den)).mul (Zk7 (ZAs b.den))).2
theorem Zm3 {a b:Rat} {D:Nat} (h:a.den ∣ D) (k:b.den ∣ D):(a+b).den ∣ D:=((Zk7 h).add (Zk7 k)).1
theorem Zq6 {a b:Rat} {D E:Nat} (h:a.den ∣ D) (k:b.den ∣ E):(a*b).den ∣ D*E:=((Zk7 h).mul (Zk7 k)).1
variable {κ:Type}
def n1 (l:List (Rat × κ)):Nat:=(l.map λt=>cl t.1).sum
theorem Za3 (t:Rat × κ) (l:List (Rat × κ)):n1 (t :: l)=cl t.1+n1 l:=rfl
theorem Zwj (l m:List (Rat × κ)):n1 (l++m)=n1 l+n1 m:=by unfold n1;rw [Zys,List.sum_append]
theorem n1_mem {l:List (Rat × κ)} {t:Rat × κ} (h:t∈l):cl t.1≤n1 l:=by
 induction l with
 | nil=>cases h
 | cons s l ih =>
   rw [Za3];rcases List.mem_cons.1 h with rfl | h
   ·omega
   ·have:=ih h;omega
theorem Zwi (f:Rat × κ→Bool) (l:List (Rat × κ)):n1 (l.filter f)≤n1 l:=by
 induction l with
 | nil=>exact Zx7 _
 | cons t l ih =>
   rw [ZCz];split
   ·rw [Za3,Za3];omega
   ·rw [Za3];omega
theorem Zwh (l:List (Rat × κ)) (i:Nat):n1 (l.take i)≤n1 l:=by
 have:=Zwj (l.take i) (l.drop i);rw [ZAe] at this;omega
def NB (D B:Nat) (l:List (Rat × κ)):Prop:=(∀t∈l,t.1.den ∣ D)∧n1 l≤B
theorem NB.nil (D B:Nat):NB D B ([]:List (Rat × κ)):=⟨λt h=>(by cases h),Zyi _⟩
theorem NB.mono {D B E C:Nat} {l:List (Rat × κ)} (h:NB D B l) (hd:D ∣ E) (hb:B≤C):NB E C l:=⟨λt ht=>Nat.dvd_trans (h.1 t ht) hd,Zye h.2 hb⟩
theorem NB.filter {D B:Nat} {l:List (Rat × κ)} (h:NB D B l) (f:Rat × κ→Bool):NB D B (l.filter f):=⟨λt ht=>h.1 t (List.mem_filter.1 ht).1,Zye (Zwi f l) h.2⟩
theorem NB.take {D B:Nat} {l:List (Rat × κ)} (h:NB D B l) (i:Nat):NB D B (l.take i):=⟨λt ht=>h.1 t (Zzh ht),Zye (Zwh l i) h.2⟩
theorem NB.app {D B C:Nat} {l m:List (Rat × κ)} (h:NB D B l) (k:NB D C m):NB D (B+C) (l++m) :=
 ⟨λt ht=>(List.mem_append.1 ht).elim (h.1 t) (k.1 t),by rw [Zwj];exact ZAp h.2 k.2⟩
theorem NB.scale {D B E:Nat} {l:List (Rat × κ)} (h:NB D B l) {a:Rat} (ha:a.den ∣ E):NB (D*E) (B*cl a) (Zaw a l):=by
 refine⟨λt ht=>?_,Zye ?_ (Zy5 _ h.2)⟩
 ·obtain⟨s,hs,rfl⟩:=List.mem_map.1 ht;exact Zq6 (h.1 s hs) ha
 ·clear h
  induction l with
  | nil=>exact Zyi _
  | cons t l ih =>
    show cl (t.1*a)+n1 (Zaw a l)≤(cl t.1+n1 l)*cl a;rw [Zy4];exact ZAp (Zxn _ _) ih
end
section
variable {κ:Type} [DecidableEq κ]
theorem n1_addC (l:List (Rat × κ)) (t:Rat × κ):n1 (addC l t)≤n1 l+cl t.1:=by
 induction l with
 | nil=>show cl t.1+0≤0+cl t.1;omega
 | cons s l ih =>
   unfold addC;split
   ·rw [Za3,Za3];have:=Zxo s.1 t.1;simp only;omega
   ·rw [Za3,Za3];omega
theorem den_addC {D:Nat} {l:List (Rat × κ)} {t:Rat × κ} (h:∀s∈l,s.1.den ∣ D) (ht:t.1.den ∣ D):∀s∈addC l t,s.1.den ∣ D:=by
 induction l with
 | nil=>intro s hs;rw [List.mem_singleton.1 hs];exact ht
 | cons u l ih =>
   intro s hs;unfold addC at hs;split at hs
   ·rcases List.mem_cons.1 hs with rfl | hs
    ·exact Zm3 (h u (.head _)) ht
    ·exact h s (.tail _ hs)
   ·rcases List.mem_cons.1 hs with rfl | hs
    ·exact h _ (.head _)
    ·exact ih (λv hv=>h v (.tail _ hv)) s hs
theorem NB.addC {D B C:Nat} {l:List (Rat × κ)} (h:NB D B l) {t:Rat × κ} (ht:t.1.den ∣ D) (hc:cl t.1≤C):NB D (B+C) (addC l t) :=
 ⟨den_addC h.1 ht,Zye (n1_addC l t) (ZAp h.2 hc)⟩
end
section
variable {κ:Type} {lt:κ→κ→Prop} [DecidableRel lt]
theorem NB.addP {D B C:Nat} {p q:List (Rat × κ)} (hp:NB D B p) (hq:NB D C q):NB D (B+C) (addP lt p q):=by
 suffices h:(∀t∈Go.Pol.addP lt p q,t.1.den ∣ D)∧n1 (Go.Pol.addP lt p q)≤n1 p+n1 q from⟨h.1,Zye h.2 (ZAp hp.2 hq.2)⟩
 replace hp:=hp.1
 replace hq:=hq.1
 fun_induction Go.Pol.addP lt p q with
 | case1 q=>exact⟨hq,by show n1 q≤0+n1 q;omega⟩
 | case2 s p=>exact⟨hp,ZB9 _ _⟩
 | case3 s p u q h1 ih =>
   obtain⟨a,b⟩:=ih (λt h=>hp t (.tail _ h)) hq;exact⟨λt ht=>by
    rcases List.mem_cons.1 ht with rfl | ht
    ·exact hp _ (.head _)
    ·exact a t ht,by rw [Za3,Za3];omega⟩
 | case4 s p u q h1 h2 ih =>
   obtain⟨a,b⟩:=ih hp (λt h=>hq t (.tail _ h));exact⟨λt ht=>by
    rcases List.mem_cons.1 ht with rfl | ht
    ·exact hq _ (.head _)
    ·exact a t ht,by rw [Za3,Za3 u];omega⟩
 | case5 s p u q h1 h2 h3 ih =>
   obtain⟨a,b⟩:=ih (λt h=>hp t (.tail _ h)) (λt h=>hq t (.tail _ h));exact⟨a,by rw [Za3,Za3];omega⟩
 | case6 s p u q h1 h2 h3 ih =>
   obtain⟨a,b⟩:=ih (λt h=>hp t (.tail _ h)) (λt h=>hq t (.tail _ h));exact⟨λt ht=>by
    rcases List.mem_cons.1 ht with rfl | ht
    ·exact Zm3 (hp _ (.head _)) (hq _ (.head _))
    ·exact a t ht,by rw [Za3,Za3,Za3];have:=Zxo s.1 u.1;simp only;omega⟩
theorem sumH_nb {D:Nat} (l:List (List (Rat × κ))) (h:∀p∈l,∀t∈p,t.1.den ∣ D):NB D ((l.map n1).sum) (sumH lt l):=by
 fun_induction sumH lt l with
 | case1=>exact .nil _ _
 | case2 p=>exact⟨h p (.head _),by simp⟩
 | case3 p q l ih1 ih2 =>
   have:=(ih1 λu hu=>h u (Zzh hu)).addP (lt:=lt) (ih2 λu hu=>h u (Zz8 hu))
   rwa [←List.sum_append,←Zys,ZAe] at this
end
section
variable {κ:Type} {cmp:κ→κ→Int}
theorem NB.sumG {D B:Nat} {l:List (Rat × κ)} (h:NB D B l):NB D B (sumG cmp l):=by
 have:=sumH_nb (lt:=λx y=>cmp y x < 0) (D:=D) (l.map λt=>if t.1=0 then [] else [t]) λp hp t ht=>by
  obtain⟨s,hs,rfl⟩:=List.mem_map.1 hp;split at ht
  ·cases ht
  ·rw [List.mem_singleton.1 ht];exact h.1 s hs
 refine this.mono (ZAs _) (Zye ?_ h.2);clear this h
 induction l with
 | nil=>exact Zx7 _
 | cons t l ih =>
   rw [Zzc,Zzc,List.sum_cons,Za3];refine ZAp ?_ ih;split
   ·exact Zyi _
   ·show cl t.1+0≤_;omega
def prodL (mu:κ→κ→κ) (l m:List (Rat × κ)):List (Rat × κ):=l.flatMap λs=>m.map λt=>(s.1*t.1,mu s.2 t.2)
theorem Ztj (mu:κ→κ→κ) (s:Rat × κ) (l m:List (Rat × κ)):prodL mu (s :: l) m=(m.map λt=>(s.1*t.1,mu s.2 t.2))++prodL mu l m:=rfl
theorem Zvu {mu:κ→κ→κ} {l m:List (Rat × κ)} {u:Rat × κ} (h:u∈prodL mu l m):∃s∈l,∃t∈m,u=(s.1*t.1,mu s.2 t.2):=by
 obtain⟨s,hs,hu⟩:=List.mem_flatMap.1 h;obtain⟨t,ht,rfl⟩:=List.mem_map.1 hu;exact⟨s,hs,t,ht,rfl⟩
theorem NB.prodL {mu:κ→κ→κ} {D B E C:Nat} {l m:List (Rat × κ)} (h:NB D B l) (k:NB E C m):NB (D*E) (B*C) (prodL mu l m):=by
 refine⟨λu hu=>?_,Zye ?_ (ZA2 h.2 k.2)⟩
 ·obtain⟨s,hs,t,ht,rfl⟩:=Zvu hu;exact Zq6 (h.1 s hs) (k.1 t ht)
 ·clear h k
  induction l with
  | nil=>exact Zyi _
  | cons s l ih =>
    rw [Ztj,Zwj,Za3,Zy4];refine ZAp ?_ ih;clear ih
    induction m with
    | nil=>exact Zyi _
    | cons t m ih =>
      rw [Zzc,Za3,Za3,Zza];exact ZAp (Zxn _ _) ih
end
section
variable {κ:Type}
end
section
variable {κ:Type} {lt:κ→κ→Prop} [DecidableRel lt] {D:κ→Prop}
end
structure RG {κ:Type} (D:κ→Prop) (cmp:κ→κ→Int) (mu:κ→κ→κ) (e:κ):Prop where
 o:CO cmp
 comm:∀a b,mu a b=mu b a
 assoc:∀a b c,mu (mu a b) c=mu a (mu b c)
 one:∀a,D a→mu a e=a
 cl:∀a b,D a→D b→D (mu a b)
 de:D e
section
variable {κ:Type} {D:κ→Prop} {cmp:κ→κ→Int} {mu:κ→κ→κ} {e:κ}
abbrev SQ (D:κ→Prop) (cmp:κ→κ→Int) (p:List (Rat × κ)):Prop:=Srt D (λx y=>cmp y x < 0) p
abbrev adG (cmp:κ→κ→Int) (p q:List (Rat × κ)):List (Rat × κ):=addP (λx y=>cmp y x < 0) p q
def mlG (cmp:κ→κ→Int) (mu:κ→κ→κ) (p q:List (Rat × κ)):List (Rat × κ):=sumG cmp (prodL mu p q)
def pwG (cmp:κ→κ→Int) (mu:κ→κ→κ) (e:κ) (a:List (Rat × κ)):Nat→List (Rat × κ)
 | 0=>[((1:Rat),e)]
 | n+1=>mlG cmp mu (pwG cmp mu e a n) a
def rfG (cmp:κ→κ→Int) (mu:κ→κ→κ) (e:κ) (P:Nat→List (Rat × κ)) (a d:List (Rat × κ)) (m:Nat):Nat→List (Rat × κ)
 | 0=>[]
 | k+1=>adG cmp (rfG cmp mu e P a d m k) (mlG cmp mu (mlG cmp mu (P k) (pwG cmp mu e a k)) (pwG cmp mu e d (m - k)))
def hnG (cmp:κ→κ→Int) (mu:κ→κ→κ) (e:κ) (P:Nat→List (Rat × κ)) (a d:List (Rat × κ)) (m:Nat):Nat→List (Rat × κ)
 | 0=>[]
 | n+1=>adG cmp (mlG cmp mu (hnG cmp mu e P a d m n) a) (mlG cmp mu (P (m - n)) (pwG cmp mu e d n))
end
end Go.Pol
namespace Go.Proofs.YtenfejhaohihoaaGreat
open Go Go.RowKit Go.Pg Go.Pol Go.Proofs.Tryz
theorem Zwk (p q:Po):n1 (addM p q)≤n1 p+n1 q:=by
 show n1 (addP ltM p q)≤_
 fun_induction addP ltM p q with
 | case1 q=>exact Nat.le_add_left _ _
 | case2 s p=>exact ZB9 _ _
 | case3 s p u q h1 ih=>rw [Za3,Za3 s p];omega
 | case4 s p u q h1 h2 ih=>rw [Za3,Za3 u q];omega
 | case5 s p u q h1 h2 h3 ih=>rw [Za3,Za3];omega
 | case6 s p u q h1 h2 h3 ih=>rw [Za3,Za3 s,Za3 u];have:=Zxo s.1 u.1;simp only;omega
theorem n1_times (p:Po) (t:Tm):n1 (Zai mulM p t)≤n1 p*cl t.1:=by
 induction p with
 | nil=>exact Zyi _
 | cons s p ih =>
   show cl (s.1*t.1)+n1 (Zai mulM p t)≤(cl s.1+n1 p)*cl t.1;rw [Zy4];exact ZAp (Zxn _ _) ih
structure NE (p:Po) (D B e v:Nat):Prop where
 s:SrtM p
 d:∀t∈p,t.1.den ∣ D
 b:n1 p≤B
 m:∀t∈p,t.2.length≤v∧∀j,gI t.2 j≤(e:Int)
theorem NE.mono {p:Po} {D B e v E C f w:Nat} (h:NE p D B e v) (hd:D ∣ E) (hb:B≤C) (he:e≤f) (hv:v≤w):NE p E C f w :=
 ⟨h.s,λt ht=>Nat.dvd_trans (h.d t ht) hd,Zye h.b hb,λt ht=>⟨Zye (h.m t ht).1 hv,λj=>by have:=(h.m t ht).2 j;omega⟩⟩
theorem NE.nil {D B e v:Nat}:NE [] D B e v:=⟨.nil,λt h=>(by cases h),Zyi _,λt h=>(by cases h)⟩
theorem NE.add {p q:Po} {D B C e f v:Nat} (h:NE p D B e v) (g:NE q D C f v):NE (addM p q) D (B+C) (max e f) v:=by
 refine⟨Zb5 ordM h.s g.s,λt ht=>?_,Zye (Zwk p q) (ZAp h.b g.b),λt ht=>?_⟩
 ·rcases Zfx ht with k | k | ⟨s,hs,u,hu,rfl⟩
  ·exact h.d t k
  ·exact g.d t k
  ·exact Zm3 (h.d s hs) (g.d u hu)
 ·rcases Zfx ht with k | k | ⟨s,hs,u,hu,rfl⟩
  ·exact⟨(h.m t k).1,λj=>by have:=(h.m t k).2 j;omega⟩
  ·exact⟨(g.m t k).1,λj=>by have:=(g.m t k).2 j;omega⟩
  ·exact⟨(h.m s hs).1,λj=>by have:=(h.m s hs).2 j;simp only;omega⟩
theorem NE.neg {p:Po} {D B e v:Nat} (h:NE p D B e v):NE (Zaw (-1) p) D B e v:=by
 have hn:NB (D*1) (n1 p*cl (-1)) (Zaw (-1) p):=NB.scale ⟨h.d,Zx7 _⟩ zd;refine⟨Zca h.s neg1,λt ht=>by have:=hn.1 t ht;rwa [ZA1] at this,?_,λt ht=>?_⟩
 ·have:=hn.2;rw [show cl (-1)=1 from rfl,ZA1] at this;exact Zye this h.b
 ·obtain⟨s,hs,rfl⟩:=List.mem_map.1 ht;exact h.m s hs
theorem NE.sub {p q:Po} {D B C e f v:Nat} (h:NE p D B e v) (g:NE q D C f v):NE (subM p q) D (B+C) (max e f) v:=h.add g.neg
theorem ne_times {p:Po} {t:Tm} {D E B e f v:Nat} (h:NE p D B e v) (ht:t.1.den ∣ E) (hm:t.2.length≤v∧∀j,gI t.2 j≤(f:Int)) :
 (∀u∈Zai mulM p t,u.1.den ∣ D*E)∧∀u∈Zai mulM p t,u.2.length≤v∧∀j,gI u.2 j≤((e+f:Nat):Int):=by
 constructor
 ·intro u hu;obtain⟨s,hs,rfl⟩:=List.mem_map.1 hu;exact Zq6 (h.d s hs) ht
 ·intro u hu;obtain⟨s,hs,rfl⟩:=List.mem_map.1 hu;refine⟨?_,λj=>?_⟩
  ·show(mulM s.2 t.2).length≤v;rw [Zf8];have:=(h.m s hs).1;omega
  ·show gI (mulM s.2 t.2) j≤_;rw [Zfo _ rfl];have:=(h.m s hs).2 j;have:=hm.2 j;omega
theorem Zwe {p:Po} {D E B e f v:Nat} (h:NE p D B e v):∀(q out:Po),(∀t∈q,t.1.den ∣ E)→(∀t∈q,t.2.length≤v∧∀j,gI t.2 j≤(f:Int))→(∀t∈out,t.1.den ∣ D*E)→(∀t∈out,t.2.length≤v∧∀j,gI t.2 j≤((e+f:Nat):Int)) →
 (∀t∈q.foldl (λout t=>addP ltM out (Zai mulM p t)) out,t.1.den ∣ D*E)∧n1 (q.foldl (λout t=>addP ltM out (Zai mulM p t)) out)≤n1 out+n1 p*n1 q∧∀t∈q.foldl (λout t=>addP ltM out (Zai mulM p t)) out,t.2.length≤v∧∀j,gI t.2 j≤((e+f:Nat):Int)
 | [],out,_,_,h1,h2=>⟨h1,ZB9 _ _,h2⟩
 | t :: q,out,hq,hm,h1,h2=>by
   obtain⟨k1,k2⟩:=ne_times h (hq t (.head _)) (hm t (.head _));have k3:=n1_times p t;have k4:=Zwk out (Zai mulM p t);obtain⟨r1,r2,r3⟩:=Zwe h q (addP ltM out (Zai mulM p t)) (λu hu=>hq u (.tail _ hu)) (λu hu=>hm u (.tail _ hu))
    (λu hu=>by
     rcases Zfx hu with k | k | ⟨s,hs,w,hw,rfl⟩
     ·exact h1 u k
     ·exact k1 u k
     ·exact Zm3 (h1 s hs) (k1 w hw))
    (λu hu=>by
     rcases Zfx hu with k | k | ⟨s,hs,w,hw,rfl⟩
     ·exact h2 u k
     ·exact k2 u k
     ·exact h2 s hs)
   refine⟨r1,Zye r2 ?_,r3⟩;rw [Za3,Zza];have k4:n1 (addP ltM out (Zai mulM p t))≤n1 out+n1 (Zai mulM p t):=k4;omega
theorem NE.mul {p q:Po} {D E B C e f v:Nat} (h:NE p D B e v) (g:NE q E C f v):NE (mlM p q) (D*E) (B*C) (e+f) v:=by
 obtain⟨r1,r2,r3⟩:=Zwe h q [] g.d g.m (λt h=>by cases h) (λt h=>by cases h);refine⟨Zbr ordM mulK h.s g.s,r1,Zye r2 ?_,r3⟩;rw [show n1 ([]:Po)=0 from rfl,Zy8];exact ZA2 h.b g.b
theorem bq_pow {x:Rat} {D B:Nat} (h:BQ D B x) (hB:1≤B) {e:Nat}:∀n,n≤e→BQ (D ^ e) (B ^ e) (x ^ n):=by
 have key:∀n,BQ (D ^ n) (B ^ n) (x ^ n):=λn=>by
  induction n with
  | zero=>rw [Rat.pow_zero];exact BQ.int 1 (by rw [ZCw];decide)
  | succ n ih=>rw [Rat.pow_succ,Zzi,Zzi];exact ih.mul h
 exact λn hn=>(key n).mono (Nat.pow_dvd_pow D hn) (Zzj hB hn)
def sumN (s:Nat→Nat):Nat→Nat
 | 0=>0
 | k+1=>sumN s k+s k
def denE (x:Nat→Rat) (e:Nat):Nat→Nat
 | 0=>1
 | k+1=>denE x e k*(x k).den ^ e
theorem Zm4 (x:Nat→Rat) (e:Nat):∀k,denE x e k≠0
 | 0=>by unfold denE;omega
 | k+1=>ZBb (Zm4 x e k) (Nat.ne_of_gt (ZB5 (Zz7 (x k).den_nz)))
theorem Zpy (s:Nat→Nat) (k:Nat):∀d,sumN s k≤sumN s (k+d)
 | 0=>Zx7 _
 | d+1=>Zye (Zpy s k d) (ZB9 _ _)
theorem Zld {s r:Nat→Nat}:∀k,(∀j,j < k→s j=r j)→sumN s k=sumN r k
 | 0,_=>rfl
 | k+1,h=>by
   show sumN s k+s k=sumN r k+r k;rw [Zld k λj hj=>h j zo,h k zo]
theorem Zlc {s:Nat→Nat} {c:Nat} (k:Nat):∀d,(∀j,k≤j→j < k+d→s j≤c)→sumN s (k+d)≤sumN s k+d*c
 | 0,_=>by rw [ZCl];exact Zx7 _
 | d+1,h=>by
   have h1:=Zlc k d λj h1 h2=>h j h1 zo;have h2:=h (k+d) zo zo;show sumN s (k+d)+s (k+d)≤_;rw [ZB7];omega
theorem Zq9 {x:Nat→Rat} {s:Nat→Nat} {v e:Nat} (hx:∀j,j < v→Sz (x j) (s j)) {m:List Int} (hm:∀j,gI m j≤(e:Int)):∀k,k≤v→BQ (denE x e k) (65536 ^ (e*sumN s k)) (mvN x m k)
 | 0,_=>BQ.int 1 (by show 1≤_;exact Nat.one_le_pow _ _ zd)
 | k+1,h=>by
   have h1:=Zq9 hx hm k zo;have h2:=Zac.1 (hx k zo).1;have h3:BQ (x k).den (65536 ^ s k) (x k):=⟨ZAs _,Zye (Nat.le_of_lt h2) (ZBa _ (Zz7 (x k).den_nz))⟩;have h4:=bq_pow h3 (Nat.one_le_pow _ _ zd) (e:=e) (gI m k).toNat (by have:=hm k;omega);have h5:=h1.mul h4;rw [←Nat.pow_mul,←Zzo] at h5;show BQ (denE x e k*(x k).den ^ e) (65536 ^ (e*(sumN s k+s k))) (mvN x m k*x k ^ (gI m k).toNat);rw [Zza,Zy9 e (s k)];exact h5
theorem Zq7 {x:Nat→Rat} {s:Nat→Nat} {v e:Nat} (hx:∀j,j < v→Sz (x j) (s j)):∀k,k≤v→denE x e k≤65536 ^ (e*sumN s k)
 | 0,_=>Nat.one_le_pow _ _ zd
 | k+1,h=>by
   have h1:=Zq7 (e:=e) hx k zo;have h2:=Zac.1 (hx k zo).2;show denE x e k*(x k).den ^ e≤65536 ^ (e*(sumN s k+s k));rw [Zza,Zzo,Zy9 e (s k),Nat.pow_mul _ (s k) e];exact ZA2 h1 (Nat.pow_le_pow_left (Nat.le_of_lt h2) e)
theorem mvN_len (x:Nat→Rat) {m:List Int} {v:Nat} (h:m.length≤v):mvN x m v=mv x m:=by
 have:=Zsc x m (v - m.length)
 rwa [show m.length+(v - m.length)=v by omega] at this
theorem bq_evs {x:Nat→Rat} {s:Nat→Nat} {v e D:Nat} (hx:∀j,j < v→Sz (x j) (s j)):∀p:Po,(∀t∈p,t.1.den ∣ D)→(∀t∈p,t.2.length≤v∧∀j,gI t.2 j≤(e:Int))→BQ (D*denE x e v) (n1 p*65536 ^ (e*sumN s v)) (evP x p)
 | [],_,_=>by
   rw [show evP x []=((0:Int):Rat) from rfl];exact BQ.int 0 (Zyi _)
 | t :: p,hd,hm=>by
   have h1:=bq_evs hx p (λu hu=>hd u (.tail _ hu)) λu hu=>hm u (.tail _ hu);have h2:=(Zk7 (hd t (.head _))).mul (Zq9 hx (hm t (.head _)).2 v (Zx7 _));rw [mvN_len x (hm t (.head _)).1] at h2;have h3:=h2.add h1;rw [←Zy4] at h3;exact h3
theorem Zhe {D d E n:Nat} (h:D < 65536 ^ d) (hE:E≤65536 ^ n):D*E < 65536 ^ (d+n):=by
 rw [Zzo];exact ZBj (ZAh _ hE) (ZCu h (ZB5 zd))
theorem ne_szs {p:Po} {D B e v:Nat} (h:NE p D B e v) {x:Nat→Rat} {s:Nat→Nat} (hx:∀j,j < v→Sz (x j) (s j)) {d b S K:Nat} (h0:D≠0) (hD:D < 65536 ^ d) (hB:B < 65536 ^ b) (hS:sumN s v≤S) (hK:d+b+2*(e*S)≤K) :
 (∀t∈p,∀k,k≤t.2.length→Sz (t.1*mvN x t.2 k) K)∧∀i,i≤p.length→Sz (evP x (p.take i)) K:=by
 have hes:e*sumN s v≤e*S:=ZAh _ hS;constructor
 ·intro t ht k hk;have hkv:k≤v:=Zye hk (h.m t ht).1;have h1:=(Zk7 (h.d t ht)).mul (Zq9 hx (h.m t ht).2 k hkv)
  have hek:sumN s k≤sumN s v:=by
   have:=Zpy s k (v - k)
   rwa [show k+(v - k)=v by omega] at this
  have hek:e*sumN s k≤e*sumN s v:=ZAh _ hek;have hcb:cl t.1 < 65536 ^ b:=ZBj (Zye (n1_mem ht) h.b) hB;exact(bq_sz h1 (ZBb h0 (Zm4 x e k)) (Zhe hD (Zq7 hx k hkv)) (Zhe hcb (Zx7 _))).mono zo
 ·intro i hi;have h1:=bq_evs hx (p.take i) (λt ht=>h.d t (Zzh ht)) λt ht=>h.m t (Zzh ht);have hn:n1 (p.take i) < 65536 ^ b:=ZBj (Zye (Zwh p i) h.b) hB;exact(bq_sz h1 (ZBb h0 (Zm4 x e v)) (Zhe hD (Zq7 hx v (Zx7 _))) (Zhe hn (Zx7 _))).mono zo
end Go.Proofs.YtenfejhaohihoaaGreat
namespace Go.Proofs.YtenfejhaohihoaaGreat
open Go Go.RowKit Go.Pg Go.Proofs.Tryz
attribute [-bool_to_prop] Bool.and_eq_decide Bool.or_eq_decide Bool.decide_beq_decide decide_eq_decide
attribute [go_sem] underlying69
attribute [local go_sem] Zbt Zcd Zcz Zcf Zpx Zua Zhq Zhw Zk3
structure RC where
 k:Int
 ar:List Int
 st:Int
abbrev RC.av (c:RC):AV:=.agg [iv c.k,ivs c.ar,iv c.st]
def cAr (k:Int):Int:=if k=1 then 2 else if k=2 then 3 else if k=3 then 4 else if k=4 then 0 else -1
theorem cAr_le (k:Int):cAr k≤4:=by unfold cAr;repeat' split
                                   all_goals omega
def cErr (k:Int) (ar:List Int) (n:Nat):Int:=if cAr k < 0 then 8 else if (ar.length:Int)≠cAr k then 1 else if outB n ar=true then 2 else 0
theorem z_ne:(⟨#[32,33,61,32]⟩:ByteArray).size=4:=rfl
theorem z_cm:(⟨#[44,32]⟩:ByteArray).size=2:=rfl
theorem z_nc:(⟨#[32,97,114,101,32,110,111,116,32,99,111,108,108,105,110,101,97,114]⟩:ByteArray).size=18:=rfl
theorem z_an:(⟨#[32,97,110,100,32]⟩:ByteArray).size=5:=rfl
theorem z_np:(⟨#[32,97,114,101,32,110,111,116,32,112,97,114,97,108,108,101,108]⟩:ByteArray).size=17:=rfl
theorem z_sl:(⟨#[115,108,111,112,101,32,111,102,32]⟩:ByteArray).size=9:=rfl
theorem z_lp:(⟨#[40]⟩:ByteArray).size=1:=rfl
theorem z_rp:(⟨#[41]⟩:ByteArray).size=1:=rfl
theorem z_sp:(⟨#[32]⟩:ByteArray).size=1:=rfl
theorem z_em:(⟨#[]⟩:ByteArray).size=0:=rfl
def Zov (a b:ByteArray):ByteArray:=if 1 < a.size∨1 < b.size then ⟨#[40]⟩++a++⟨#[32]⟩++b++⟨#[41]⟩ else a++b
theorem Zsj {a b:ByteArray} (ha:a.size≤1000) (hb:b.size≤1000):(Zov a b).size≤2003:=by
 unfold Zov;split
 ·simp only [ZAt,z_lp,z_sp,z_rp];omega
 ·simp only [ZAt];omega
def cTxt (k:Int) (x y z w:ByteArray):ByteArray :=
 if k=1 then x++⟨#[32,33,61,32]⟩++y
 else if k=2 then x++⟨#[44,32]⟩++y++⟨#[44,32]⟩++z++⟨#[32,97,114,101,32,110,111,116,32,99,111,108,108,105,110,101,97,114]⟩
 else Zov x y++⟨#[32,97,110,100,32]⟩++Zov z w++⟨#[32,97,114,101,32,110,111,116,32,112,97,114,97,108,108,101,108]⟩
abbrev nmA (ss:List ByteArray) (j:Int):ByteArray:=ss.getD j.toNat ByteArray.empty
def cRes (c:RC) (ss:List ByteArray):AV :=
 if cErr c.k c.ar ss.length≠0 then .tup [strA ⟨#[]⟩,iv (cErr c.k c.ar ss.length)]
 else if c.k=4 then (if c.st < 0∨(ss.length:Int)≤c.st then .tup [strA ⟨#[]⟩,iv 2] else .tup [strA (⟨#[115,108,111,112,101,32,111,102,32]⟩++nmA ss c.st),iv 0])
 else .tup [strA (cTxt c.k (nmA ss (gI c.ar 0)) (nmA ss (gI c.ar 1)) (nmA ss (gI c.ar 2)) (nmA ss (gI c.ar 3))),iv 0]
theorem Zxu {k:Int} {ar:List Int} {n:Nat} (h:cErr k ar n=0) :
 (k=1∧∃a b:Nat,ar=[(a:Int),(b:Int)]∧a < n∧b < n)∨(k=2∧∃a b c:Nat,ar=[(a:Int),(b:Int),(c:Int)]∧a < n∧b < n∧c < n)∨(k=3∧∃a b c d:Nat,ar=[(a:Int),(b:Int),(c:Int),(d:Int)]∧a < n∧b < n∧c < n∧d < n)∨(k=4∧ar=[]):=by
 unfold cErr at h;split at h
 ·omega
 ·split at h
  ·omega
  ·split at h
   ·omega
   ·rename_i h1 h2 h3;have hin:∀j,j < ar.length→0≤gI ar j∧gI ar j < (n:Int):=λj hj=>Zqi (by simpa using h3) hj;have hl:(ar.length:Int)=cAr k:=zo;clear h2 h3 h;unfold cAr at h1 hl;have nat:∀a:Int,0≤a∧a < (n:Int)→∃m:Nat,a=m∧m < n:=λa ha=>⟨a.toNat,zo,zo⟩;split at hl
    ·rename_i k1
     match ar,hl,hin with
     | [a,b],_,hin =>
       obtain⟨a',rfl,ha⟩:=nat a (hin 0 zs);obtain⟨b',rfl,hb⟩:=nat b (hin 1 zs);exact .inl ⟨k1,a',b',rfl,ha,hb⟩
    ·split at hl
     ·rename_i k1
      match ar,hl,hin with
      | [a,b,c],_,hin =>
        obtain⟨a',rfl,ha⟩:=nat a (hin 0 zs);obtain⟨b',rfl,hb⟩:=nat b (hin 1 zs);obtain⟨c',rfl,hc⟩:=nat c (hin 2 zs);exact .inr (.inl ⟨k1,a',b',c',rfl,ha,hb,hc⟩)
     ·split at hl
      ·rename_i k1
       match ar,hl,hin with
       | [a,b,c,d],_,hin =>
         obtain⟨a',rfl,ha⟩:=nat a (hin 0 zs);obtain⟨b',rfl,hb⟩:=nat b (hin 1 zs);obtain⟨c',rfl,hc⟩:=nat c (hin 2 zs);obtain⟨d',rfl,hd⟩:=nat d (hin 3 zs);exact .inr (.inr (.inl ⟨k1,a',b',c',d',rfl,ha,hb,hc,hd⟩))
      ·split at hl
       ·rename_i k1;exact .inr (.inr (.inr ⟨k1,List.length_eq_zero_iff.1 zo⟩))
       ·omega
theorem nm_at {ss:List ByteArray} {j:Nat} (h:j < ss.length):(ss.map strA).getD j .u=strA (ss.getD j ByteArray.empty):=by
 rw [Zyg,Zzt,Zyf h,Zyg,Zyf h];rfl
theorem nm_sz {ss:List ByteArray} (h:∀s∈ss,s.size≤1000) (j:Nat):(ss.getD j ByteArray.empty).size≤1000:=by
 rw [Zyg];rcases Zyr j ss.length with h1 | h1
 ·rw [Zyf h1];exact h _ (Zyl h1)
 ·rw [Zzl h1];exact Zyi _
theorem cnAr (k:Int):Pure prog 124 [iv k] (iv (cAr k)):=by
 unfold cAr;refine pI func124 rfl ntmps124 results124 call124 ?_;(focus (refine wklp w_t w_t w_t (w_r 0) ?_;(repeat' first|exact w_t|apply w_l);all_goals intros));all_goals (congr 2;repeat' split)
 all_goals (first|rfl|omega)
theorem cnChk (k:Int) (ar:List Int) (st:Int) (n:Nat) (hn:n≤1000000000):Pure prog 55 [.agg [iv k,ivs ar,iv st],iv n] (iv (cErr k ar n)):=by
 have ca:=cnAr k;have hle:=cAr_le k;unfold cErr;generalize cAr k=a at *;have hla:(ar.map iv).length=ar.length:=Zx9 ..;by_cases w1:a < 0
 ·rw [Zx5 w1];refine pI func55 rfl ntmps55 results55 call55 ?_;(focus (refine wklp (w_1 hla) (w_1 ca) w_t (w_r 0) ?_;(repeat' first|exact w_t|apply w_l);all_goals intros))
 ·rw [Zx4 w1];by_cases w2:(ar.length:Int)≠a
  ·rw [Zx5 w2];refine pI func55 rfl ntmps55 results55 call55 ?_;(focus (refine wklp (w_1 hla) (w_1 ca) w_t (w_r 0) ?_;(repeat' first|exact w_t|apply w_l);all_goals intros))
  ·rw [Zx4 w2];have w3:(ar.length:Int)=a:=zo;clear w1 w2 hla;subst w3;have hv1:outB n ar=true→(if outB (n:Int) ar=true then (2:Int) else 0)=2:=λh=>Zx5 h;have hv2:outB n ar=false→(if outB (n:Int) ar=true then (2:Int) else 0)=0:=λh=>Zx4 (by rw [h];simp);generalize (if outB (n:Int) ar=true then (2:Int) else 0)=v at *
   match ar,hle with
   | [],_ =>
     rw [hv2 rfl];refine pI func55 rfl ntmps55 results55 call55 ?_;(focus (refine wklp w_t (w_1 ca) w_t (w_r 5) ?_;(repeat' first|exact w_t|apply w_l);all_goals intros))
   | [x],_ =>
     simp only [outB,List.any_cons,List.any_nil,Bool.or_false,Zz2,Zy1,ZAn,ZAa] at hv1 hv2;refine pI func55 rfl ntmps55 results55 call55 ?_;(focus (refine wklp w_t (w_1 ca) w_t (w_r 5) ?_;(repeat' first|exact w_t|apply w_l);all_goals intros));all_goals (congr 2;first|exact(hv1 zo).symm|exact(hv2 zo).symm)
   | [x,y],_ =>
     simp only [outB,List.any_cons,List.any_nil,Bool.or_false,Zz2,Zy1,ZAn,ZAa] at hv1 hv2;refine pI func55 rfl ntmps55 results55 call55 ?_;(focus (refine wklp w_t (w_1 ca) w_t (w_r 5) ?_;(repeat' first|exact w_t|apply w_l);all_goals intros));all_goals (congr 2;first|exact(hv1 zo).symm|exact(hv2 zo).symm)
   | [x,y,z],_ =>
     simp only [outB,List.any_cons,List.any_nil,Bool.or_false,Zz2,Zy1,ZAn,ZAa] at hv1 hv2;refine pI func55 rfl ntmps55 results55 call55 ?_;(focus (refine wklp w_t (w_1 ca) w_t (w_r 5) ?_;(repeat' first|exact w_t|apply w_l);all_goals intros));all_goals (congr 2;first|exact(hv1 zo).symm|exact(hv2 zo).symm)
   | [x,y,z,w],_ =>
     simp only [outB,List.any_cons,List.any_nil,Bool.or_false,Zz2,Zy1,ZAn,ZAa] at hv1 hv2;refine pI func55 rfl ntmps55 results55 call55 ?_;(focus (refine wklp w_t (w_1 ca) w_t (w_r 5) ?_;(repeat' first|exact w_t|apply w_l);all_goals intros));all_goals (congr 2;first|exact(hv1 zo).symm|exact(hv2 zo).symm)
attribute [go_sem] underlying27 underlying33 zSlR zSlB szIns zIns
attribute [local go_sem] Zba Zbc Zbb Zjz Zpn Zno Znp
def eqP (p q:PQ):Bool:=decide (p.1=q.1) && decide (p.2=q.2)
abbrev ptN (ps:List PQ) (j:Int):PQ:=ps.getD j.toNat (0,0)
def cHld (k:Int) (x y z w:PQ):Bool :=
 if k=1 then !eqP x y
 else if k=2 then !decide ((Zb4 x y x z).num.sign=0)
 else if k=3 then !decide ((Zb4 x y z w).num.sign=0)
 else true
def hRes (c:RC) (ps:List PQ):AV :=
 if cErr c.k c.ar ps.length≠0 then .tup [.v (.bool false),iv (cErr c.k c.ar ps.length)]
 else .tup [.v (.bool (cHld c.k (ptN ps (gI c.ar 0)) (ptN ps (gI c.ar 1)) (ptN ps (gI c.ar 2)) (ptN ps (gI c.ar 3)))),iv 0]
theorem pt_at {ps:List PQ} {j:Nat} (h:j < ps.length):(ps.map PQ.av).getD j .u=(ps.getD j (0,0)).av:=by
 rw [Zaj PQ.av h,Zyg,Zyf h];rfl
theorem pt_szs {ps:List PQ} {n:Nat} (h:∀p∈ps,p.sz n) {j:Nat} (hj:j < ps.length):(ps.getD j (0,0)).sz n:=by
 rw [Zyg,Zyf hj];exact h _ (Zyl hj)
theorem plEqual (p q:PQ) {j:Nat} (hp:p.sz j) (hq:q.sz j) (hj:j≤1000000000):Pure prog 56 [p.av,q.av] (.v (.bool (eqP p q))):=by
 have c1:=Zrw p.1 q.1 hp.1 hq.1 zo zo;have c2:=Zrw p.2 q.2 hp.2 hq.2 zo zo;unfold eqP;clear hp hq;obtain⟨a,b⟩:=p;obtain⟨c,d⟩:=q;simp only at *;generalize decide (a=c)=u at *;generalize decide (b=d)=v at *;cases u;all_goals
  refine pI func56 rfl ntmps56 results56 call56 ?_;(focus (refine wklp w_t (w_2 c1 c2) w_t (w_r 0) ?_;(repeat' first|exact w_t|apply w_l);all_goals intros))
theorem Zig (p q:PQ) {j:Nat} (hp:p.sz j) (hq:q.sz j) (hj:j≤1000000000):Pure prog 143 [p.av,q.av] (.v (.bool (eqP p q))):=by
 have c1:=qEqual p.1 q.1 hp.1 hq.1 zo zo;have c2:=qEqual p.2 q.2 hp.2 hq.2 zo zo;unfold eqP;clear hp hq;obtain⟨a,b⟩:=p;obtain⟨c,d⟩:=q;simp only at *;generalize decide (a=c)=u at *;generalize decide (b=d)=v at *;cases u;all_goals
  refine pI func143 rfl ntmps143 results143 call143 ?_;(focus (refine wklp w_t (w_2 c1 c2) w_t (w_r 0) ?_;(repeat' first|exact w_t|apply w_l);all_goals intros))
theorem Zq8 (c:RC) (ps:List PQ) (hl:ps.length≤1000000000) {J:Nat} (hs:∀p∈ps,p.sz J) (hJ:J≤1000000000:=by omega):Pure prog 18 [c.av,.sl 6 (ps.map PQ.av)] (hRes c ps):=by
 have cc:=cnChk c.k c.ar c.st ps.length hl;have ok:=@Zxu c.k c.ar ps.length;have hlm:(ps.map PQ.av).length=ps.length:=Zx9 ..;have hat:∀j:Nat,j < ps.length→(ps.map PQ.av).getD j .u=(ps.getD j (0,0)).av:=λj hj=>pt_at hj;have hsz:=fun(j:Nat) (hj:j < ps.length)=>pt_szs hs hj;obtain⟨k,ar,st⟩:=c;unfold hRes;simp only at *;generalize cErr k ar ps.length=v at *;generalize ps.map PQ.av=M at *;by_cases hv:v=0
 ·rw [Zx4 (by simpa using hv)];subst hv;rcases ok rfl with⟨rfl,a,b,rfl,ha,hb⟩ | ⟨rfl,a,b,c,rfl,ha,hb,hc⟩ | ⟨rfl,a,b,c,d,rfl,ha,hb,hc,hd⟩ | ⟨rfl,rfl⟩
  ·unfold cHld ptN;simp only [gI,Zz0,Zz1,Zzg,Zy2,Zx5,show ¬((2:Int)=1) from by decide,show ¬((3:Int)=1) from by decide,show ¬((3:Int)=2) from by decide,Zyu];have ga:=hat a ha;have za:=hsz a ha;have gb:=hat b hb;have zb:=hsz b hb;generalize ps.getD a (0,0)=x at *;generalize ps.getD b (0,0)=y at *;clear hat hsz ok hs;have c1:=plEqual x y za zb zo;generalize eqP x y=e at *;clear za zb;obtain⟨x1,x2⟩:=x;obtain⟨y1,y2⟩:=y
   try simp only at *
   refine pI func18 rfl ntmps18 results18 call18 ?_;(focus (refine wkax (w_3 hlm ga gb) (w_2 cc c1) (w_1 (w_d 12 [(6,.v (.bool e))] [] [])) w_t w_t w_t w_y (w_r 5) ?_;(repeat' first|exact w_t|apply w_l);all_goals intros));all_goals exact gL
  ·unfold cHld ptN;simp only [gI,Zz0,Zz1,Zzg,Zy2,Zx5,show ¬((2:Int)=1) from by decide,show ¬((3:Int)=1) from by decide,show ¬((3:Int)=2) from by decide,Zyu];have ga:=hat a ha;have za:=hsz a ha;have gb:=hat b hb;have zb:=hsz b hb;have gc:=hat c hc;have zc:=hsz c hc;generalize ps.getD a (0,0)=x at *;generalize ps.getD b (0,0)=y at *;generalize ps.getD c (0,0)=z at *;clear hat hsz ok hs;have c1:=Zr2 x y x z za zb za zc zo;have c2:=Zf4 (Zb4 x y x z) (Zg0 za zb za zc) zo;generalize Zb4 x y x z=q at *;generalize q.num.sign=s at *
   clear za zb zc;obtain⟨x1,x2⟩:=x;obtain⟨y1,y2⟩:=y;obtain⟨z1,z2⟩:=z
   try simp only at *
   refine pI func18 rfl ntmps18 results18 call18 ?_;(focus (refine wkax (w_4 hlm ga gb gc) (w_3 cc c1 c2) (w_1 (w_d 14 [(12,ratQ q),(13,iv s)] [] [])) w_t w_t w_t w_y (w_r 5) ?_;(repeat' first|exact w_t|apply w_l);all_goals intros));all_goals exact gL
  ·unfold cHld ptN;simp only [gI,Zz0,Zz1,Zzg,Zy2,Zx5,show ¬((2:Int)=1) from by decide,show ¬((3:Int)=1) from by decide,show ¬((3:Int)=2) from by decide,Zyu];have ga:=hat a ha;have za:=hsz a ha;have gb:=hat b hb;have zb:=hsz b hb;have gc:=hat c hc;have zc:=hsz c hc;have gd:=hat d hd;have zd:=hsz d hd;generalize ps.getD a (0,0)=x at *;generalize ps.getD b (0,0)=y at *;generalize ps.getD c (0,0)=z at *;generalize ps.getD d (0,0)=w at *;clear hat hsz ok hs;have c1:=Zr2 x y z w za zb zc zd zo;have c2:=Zf4 (Zb4 x y z w) (Zg0 za zb zc zd) zo
   generalize Zb4 x y z w=q at *;generalize q.num.sign=s at *;clear za zb zc zd;obtain⟨x1,x2⟩:=x;obtain⟨y1,y2⟩:=y;obtain⟨z1,z2⟩:=z;obtain⟨w1,w2⟩:=w
   try simp only at *
   refine pI func18 rfl ntmps18 results18 call18 ?_;(focus (refine wkax (w_5 hlm ga gb gc gd) (w_3 cc c1 c2) (w_1 (w_d 16 [(12,ratQ q),(13,iv s)] [] [])) w_t w_t w_t w_y (w_r 5) ?_;(repeat' first|exact w_t|apply w_l);all_goals intros));all_goals exact gL
  ·show Pure _ _ _ (.tup [.v (.bool true),iv 0]);refine pI func18 rfl ntmps18 results18 call18 ?_;(focus (refine wkax (w_1 hlm) (w_1 cc) w_t w_t w_t w_t w_y (w_r 5) ?_;(repeat' first|exact w_t|apply w_l);all_goals intros))
   (all_goals (try simp (disch:=omega) only [go_sem,Zx8,Zx6,Zx5,Zx4,Int.reduceAdd,Int.reduceSub,Int.reduceToNat,Zyh]));(all_goals first|done|rfl|(congr 2;first|done|omega|(rw [Zyn];simp only [bool_to_prop,Zyj,Zyw,Zyx,Zyy,Zyz];omega))|skip)
 ·rw [Zx5 hv];clear hat hsz ok;refine pI func18 rfl ntmps18 results18 call18 ?_;(focus (refine wkax (w_1 hlm) (w_1 cc) w_t w_t w_t w_t w_y (w_r 5) ?_;(repeat' first|exact w_t|apply w_l);all_goals intros))
  (all_goals (try simp (disch:=omega) only [go_sem,Zx8,Zx6,Zx5,Zx4,Int.reduceAdd,Int.reduceSub,Int.reduceToNat,Zyh]));(all_goals first|done|rfl|(congr 2;first|done|omega|(rw [Zyn];simp only [bool_to_prop,Zyj,Zyw,Zyx,Zyy,Zyz];omega))|skip)
def RQ.four (r:RQ):Bool:=decide (r.l.length≤4) && decide (r.d.length≤4)
def RP.fine (p:RP):Bool:=p.x.four && (p.y.four && (p.x.ok && p.y.ok))
def fineB (ps:List RP):Bool:=decide (ps.length≤12) && ps.all RP.fine
attribute [go_sem] underlying64
attribute [local go_sem] Zbe Zbh Zcj Zcr Zcq Zek Zeq Zgk Zgj Zaz Zbk Zc1 Zcp Zj1 Zpo
def cHas (k:Int):Bool:=decide (6≤k∧k≤14)
def cOf (s:RS) (i:Nat):RC :=
 if s.k=6 then ⟨4,[],i⟩
 else if s.k=7∨s.k=8 then ⟨1,[gI s.ar 1,gI s.ar 2],i⟩
 else if s.k=9 then ⟨3,s.ar,i⟩
 else if s.k=10∨s.k=12∨s.k=14 then ⟨1,[gI s.ar 0,gI s.ar 1],i⟩
 else if s.k=11 then ⟨2,s.ar,i⟩
 else if s.k=13 then ⟨1,[gI s.ar 0,gI s.ar 2],i⟩
 else ⟨0,[],0⟩
theorem Zuf (k:Int) (i:Int) (b:Bool):Vk (.tup [.agg [iv k,.v (.slice none 0 0),iv i],.v (.bool b)]) (.tup [(RC.mk k [] i).av,.v (.bool b)]) :=
 Vk.tupL (.cons (Vk.aggL (.cons (.refl _) (.cons (.nil 1) (.cons (.refl _) .nil)))) (.cons (.refl _) .nil))
theorem len2 {ar:List Int} (h:(ar.length:Int)=2):∃x y,ar=[x,y]:=by
 match ar,h with
 | [x,y],_=>exact⟨x,y,rfl⟩
theorem len3 {ar:List Int} (h:(ar.length:Int)=3):∃x y z,ar=[x,y,z]:=by
 match ar,h with
 | [x,y,z],_=>exact⟨x,y,z,rfl⟩
theorem len4 {ar:List Int} (h:(ar.length:Int)=4):∃x y z w,ar=[x,y,z,w]:=by
 match ar,h with
 | [x,y,z,w],_=>exact⟨x,y,z,w,rfl⟩
theorem cnStep (s:RS) (i:Nat) (hl:(s.ar.length:Int)=arS s.k):Pure prog 50 [s.av,iv i] (.tup [(cOf s i).av,.v (.bool (cHas s.k))]):=by
 obtain⟨k,nm,ar,⟨rs,rl,rd⟩⟩:=s;simp only at *;by_cases k6:k=6
 ·subst k6;refine Zdm (r:=.tup [.agg [iv 4,.v (.slice none 0 0),iv i],.v (.bool true)]) ?_ (Zuf 4 i true);refine pI func50 rfl ntmps50 results50 call50 ?_;(focus (refine wkld w_t w_t w_t w_t ?_;(repeat' first|exact w_t|apply w_l);all_goals intros))
 by_cases k7:k=7
 ·subst k7;obtain⟨x,y,z,rfl⟩:=len3 (by simpa [arS] using hl);unfold cOf cHas;simp [gI];refine pI func50 rfl ntmps50 results50 call50 ?_;(focus (refine wkld w_t w_t w_t (w_1 (w_d 9 [] [8] [27])) ?_;(repeat' first|exact w_t|apply w_l);all_goals intros))
 by_cases k8:k=8
 ·subst k8;obtain⟨x,y,z,rfl⟩:=len3 (by simpa [arS] using hl);unfold cOf cHas;simp [gI];refine pI func50 rfl ntmps50 results50 call50 ?_;(focus (refine wkld w_t w_t w_t (w_1 (w_d 9 [] [8] [27])) ?_;(repeat' first|exact w_t|apply w_l);all_goals intros))
 by_cases k9:k=9
 ·subst k9;obtain⟨x,y,z,w,rfl⟩:=len4 (by simpa [arS] using hl);unfold cOf cHas;simp [gI];refine pI func50 rfl ntmps50 results50 call50 ?_;(focus (refine wkld w_t w_t w_t w_t ?_;(repeat' first|exact w_t|apply w_l);all_goals intros))
 by_cases k10:k=10
 ·subst k10;obtain⟨x,y,z,rfl⟩:=len3 (by simpa [arS] using hl);unfold cOf cHas;simp [gI];refine pI func50 rfl ntmps50 results50 call50 ?_;(focus (refine wkld w_t w_t w_t (w_1 (w_d 16 [] [8] [47])) ?_;(repeat' first|exact w_t|apply w_l);all_goals intros))
 by_cases k11:k=11
 ·subst k11;obtain⟨x,y,z,rfl⟩:=len3 (by simpa [arS] using hl);unfold cOf cHas;simp [gI];refine pI func50 rfl ntmps50 results50 call50 ?_;(focus (refine wkld w_t w_t w_t w_t ?_;(repeat' first|exact w_t|apply w_l);all_goals intros))
 by_cases k12:k=12
 ·subst k12;obtain⟨x,y,z,w,rfl⟩:=len4 (by simpa [arS] using hl);unfold cOf cHas;simp [gI];refine pI func50 rfl ntmps50 results50 call50 ?_;(focus (refine wkld w_t w_t w_t (w_1 (w_d 16 [] [8] [47])) ?_;(repeat' first|exact w_t|apply w_l);all_goals intros))
 by_cases k13:k=13
 ·subst k13;obtain⟨x,y,z,w,rfl⟩:=len4 (by simpa [arS] using hl);unfold cOf cHas;simp [gI];refine pI func50 rfl ntmps50 results50 call50 ?_;(focus (refine wkld w_t w_t w_t (w_1 (w_d 21 [] [8] [65])) ?_;(repeat' first|exact w_t|apply w_l);all_goals intros))
 by_cases k14:k=14
 ·subst k14;obtain⟨x,y,rfl⟩:=len2 (by simpa [arS] using hl);unfold cOf cHas;simp [gI];refine pI func50 rfl ntmps50 results50 call50 ?_;(focus (refine wkld w_t w_t w_t (w_1 (w_d 16 [] [8] [47])) ?_;(repeat' first|exact w_t|apply w_l);all_goals intros))
 have e1:cOf ⟨k,nm,ar,⟨rs,rl,rd⟩⟩ i=⟨0,[],0⟩:=by unfold cOf;simp [k6,k7,k8,k9,k10,k11,k12,k13,k14]
 have e2:cHas k=false:=by unfold cHas;rw [ZAa];omega
 rw [e1];simp only [e2];refine Zdm (r:=.tup [.agg [iv 0,.v (.slice none 0 0),iv 0],.v (.bool false)]) ?_ (Zuf 0 0 false);clear e1 e2;refine pI func50 rfl ntmps50 results50 call50 ?_;(focus (refine wkld w_t w_t w_t w_t ?_;(repeat' first|exact w_t|apply w_l);all_goals intros))
def Zl8 (a b:RC):Bool:=decide (a.k=b.k) && (decide (a.st=b.st) && decide (a.ar=b.ar))
theorem Zte (a:RC):Zl8 a a=true:=by unfold Zl8;simp
theorem cnSame (a b:RC) (h1:a.ar.length≤1000000000) (h2:b.ar.length≤1000000000):Pure prog 116 [a.av,b.av] (.v (.bool (Zl8 a b))):=by
 obtain⟨k,ar,st⟩:=a;obtain⟨k',ar',st'⟩:=b;unfold Zl8;simp only at *;show Pure _ _ [.agg [iv k,.sl 1 (ar.map iv),iv st],.agg [iv k',.sl 1 (ar'.map iv),iv st']] _;have l1:(ar.map iv).length=ar.length:=Zx9 ..;have l2:(ar'.map iv).length=ar'.length:=Zx9 ..;by_cases hk:k=k'
 ·by_cases hs:st=st'
  ·by_cases hl:ar.length=ar'.length
   ·have g1:∀i (h:i < ar.length),(ar.map iv).getD i .u=iv (gI ar i):=λi h=>by rw [Zaj iv h,Zdr h]
    have g2:∀i (h:i < ar.length),(ar'.map iv).getD i .u=iv (gI ar' i):=λi h=>by rw [Zaj iv zo,Zdr zo]
    have hne:∀i,i < ar.length→gI ar i≠gI ar' i→decide (ar=ar')=false:=λi hi h=>Zx6 λe=>h (by rw [e]);have heq:(∀i,i < ar.length→gI ar i=gI ar' i)→decide (ar=ar')=true:=λh=>Zx8 (List.ext_getElem hl λi h3 h4=>by have:=h i h3;rwa [Zdr h3,Zdr h4] at this);subst hk hs;simp only [decide_true,Zzv];generalize decide (ar=ar')=v at *;generalize ar.map iv=A at *;generalize ar'.map iv=B at *;rw [←hl] at l2;generalize ar.length=n at *;refine pI func116 rfl ntmps116 results116 call116 ?_;(focus (refine wkad (w_2 l1 l2) w_t w_t ?_;(repeat' first|exact w_t|apply w_l);all_goals intros))
    all_goals rename_i ga gb
    refine Zad (ι:=Nat) (λi e m=>i≤n∧e 2=.pbox 2 ga 0∧m 2=some (.box ga 69 [iv k,.sl 1 A,iv st] false)∧e 3=.pbox 3 gb 0∧m 3=some (.box gb 69 [iv k,.sl 1 B,iv st] false)∧e 28=.sl 1 A∧e 29=iv n∧e 30=iv i∧∀j,j < i→gI ar j=gI ar' j) (λi=>n - i) 0 zr ?_ ?_
    ·rintro i e m ⟨hi,e2,m2,e3,m3,e28,e29,e30,hj⟩
     by_cases hlt:i < n
     ·have x1:=g1 i hlt;have x2:=g2 i hlt;have hnx:gI ar i=gI ar' i→∀j,j < i+1→gI ar j=gI ar' j:=λh j hjj=>by
       by_cases e:j=i
       ·rw [e];exact h
       ·exact hj j zo
      have hn:=hne i hlt;clear hj heq hne g1 g2;by_cases hx:gI ar i=gI ar' i
      ·have:=hnx hx;rw [←hx] at x2;clear hnx hn;generalize gI ar i=x at *;(focus (refine wkad (w_11 e2 m2 e3 m3 e28 e29 e30 l1 l2 x1 x2) w_t w_t ?_;(repeat' first|exact w_t|apply w_l);all_goals intros));exact⟨i+1,⟨zo,gW e2,gW m2,gW e3,gW m3,gW e28,gW e29,gS,this⟩,zo⟩
      ·rw [hn hx];clear hnx hn;generalize gI ar i=x at *;generalize gI ar' i=y at *;(focus (refine wkad (w_11 e2 m2 e3 m3 e28 e29 e30 l1 l2 x1 x2) w_t w_t ?_;(repeat' first|exact w_t|apply w_l);all_goals intros));all_goals exact gL
     ·rw [heq λj h=>hj j zo];clear hj heq hne g1 g2;(focus (refine wkld (w_9 e2 m2 e3 m3 e28 e29 e30 l1 l2) w_t w_t w_t ?_;(repeat' first|exact w_t|apply w_l);all_goals intros))
    ·exact⟨Zyi _,gC,gC,gC,gC,gC,gW l1,gC,λj h=>zo⟩
   ·have:decide (ar=ar')=false:=Zx6 λe=>hl (by rw [e]);rw [this,ZA3,ZA3];subst hk hs;refine pI func116 rfl ntmps116 results116 call116 ?_;(focus (refine wkad (w_2 l1 l2) w_t w_t ?_;(repeat' first|exact w_t|apply w_l);all_goals intros));all_goals exact gL
  ·rw [Zx6 hs,Zzb,ZA3];subst hk;refine pI func116 rfl ntmps116 results116 call116 ?_;(focus (refine wkad (w_2 l1 l2) w_t w_t ?_;(repeat' first|exact w_t|apply w_l);all_goals intros));all_goals exact gL
 ·rw [Zx6 hk,Zzb];refine pI func116 rfl ntmps116 results116 call116 ?_;(focus (refine wkad (w_2 l1 l2) w_t w_t ?_;(repeat' first|exact w_t|apply w_l);all_goals intros));all_goals exact gL
theorem rkSame (a b:RC) (h1:a.ar.length≤1000000000) (h2:b.ar.length≤1000000000):Pure prog 49 [a.av,b.av] (.v (.bool (Zl8 a b))):=by
 obtain⟨k,ar,st⟩:=a;obtain⟨k',ar',st'⟩:=b;unfold Zl8;simp only at *;show Pure _ _ [.agg [iv k,.sl 1 (ar.map iv),iv st],.agg [iv k',.sl 1 (ar'.map iv),iv st']] _;have l1:(ar.map iv).length=ar.length:=Zx9 ..;have l2:(ar'.map iv).length=ar'.length:=Zx9 ..;by_cases hk:k=k'
 ·by_cases hs:st=st'
  ·by_cases hl:ar.length=ar'.length
   ·have g1:∀i (h:i < ar.length),(ar.map iv).getD i .u=iv (gI ar i):=λi h=>by rw [Zaj iv h,Zdr h]
    have g2:∀i (h:i < ar.length),(ar'.map iv).getD i .u=iv (gI ar' i):=λi h=>by rw [Zaj iv zo,Zdr zo]
    have hne:∀i,i < ar.length→gI ar i≠gI ar' i→decide (ar=ar')=false:=λi hi h=>Zx6 λe=>h (by rw [e]);have heq:(∀i,i < ar.length→gI ar i=gI ar' i)→decide (ar=ar')=true:=λh=>Zx8 (List.ext_getElem hl λi h3 h4=>by have:=h i h3;rwa [Zdr h3,Zdr h4] at this);subst hk hs;simp only [decide_true,Zzv];generalize decide (ar=ar')=v at *;generalize ar.map iv=A at *;generalize ar'.map iv=B at *;rw [←hl] at l2;generalize ar.length=n at *;refine pI func49 rfl ntmps49 results49 call49 ?_;(focus (refine wkad (w_2 l1 l2) w_t w_t ?_;(repeat' first|exact w_t|apply w_l);all_goals intros))
    all_goals rename_i ga gb
    refine Zad (ι:=Nat) (λi e m=>i≤n∧e 2=.pbox 2 ga 0∧m 2=some (.box ga 69 [iv k,.sl 1 A,iv st] false)∧e 3=.pbox 3 gb 0∧m 3=some (.box gb 69 [iv k,.sl 1 B,iv st] false)∧e 5=iv i∧∀j,j < i→gI ar j=gI ar' j) (λi=>n - i) 0 zr ?_ ?_
    ·rintro i e m ⟨hi,e2,m2,e3,m3,e5,hj⟩
     by_cases hlt:i < n
     ·have x1:=g1 i hlt;have x2:=g2 i hlt;have hnx:gI ar i=gI ar' i→∀j,j < i+1→gI ar j=gI ar' j:=λh j hjj=>by
       by_cases e:j=i
       ·rw [e];exact h
       ·exact hj j zo
      have hn:=hne i hlt;clear hj heq hne g1 g2;by_cases hx:gI ar i=gI ar' i
      ·have:=hnx hx;rw [←hx] at x2;clear hnx hn;generalize gI ar i=x at *;(focus (refine wkad (w_9 e2 m2 e3 m3 e5 l1 l2 x1 x2) w_t w_t ?_;(repeat' first|exact w_t|apply w_l);all_goals intros));exact⟨i+1,⟨zo,gW e2,gW m2,gW e3,gW m3,gS,this⟩,zo⟩
      ·rw [hn hx];clear hnx hn;generalize gI ar i=x at *;generalize gI ar' i=y at *;(focus (refine wkad (w_9 e2 m2 e3 m3 e5 l1 l2 x1 x2) w_t w_t ?_;(repeat' first|exact w_t|apply w_l);all_goals intros));all_goals exact gL
     ·rw [heq λj h=>hj j zo];clear hj heq hne g1 g2;(focus (refine wkld (w_7 e2 m2 e3 m3 e5 l1 l2) w_t w_t w_t ?_;(repeat' first|exact w_t|apply w_l);all_goals intros))
    ·exact⟨Zyi _,gC,gC,gC,gC,gC,λj h=>zo⟩
   ·have:decide (ar=ar')=false:=Zx6 λe=>hl (by rw [e]);rw [this,ZA3,ZA3];subst hk hs;refine pI func49 rfl ntmps49 results49 call49 ?_;(focus (refine wkad (w_2 l1 l2) w_t w_t ?_;(repeat' first|exact w_t|apply w_l);all_goals intros));all_goals exact gL
  ·rw [Zx6 hs,Zzb,ZA3];subst hk;refine pI func49 rfl ntmps49 results49 call49 ?_;(focus (refine wkad (w_2 l1 l2) w_t w_t ?_;(repeat' first|exact w_t|apply w_l);all_goals intros));all_goals exact gL
 ·rw [Zx6 hk,Zzb];refine pI func49 rfl ntmps49 results49 call49 ?_;(focus (refine wkad (w_2 l1 l2) w_t w_t ?_;(repeat' first|exact w_t|apply w_l);all_goals intros));all_goals exact gL
end Go.Proofs.YtenfejhaohihoaaGreat
