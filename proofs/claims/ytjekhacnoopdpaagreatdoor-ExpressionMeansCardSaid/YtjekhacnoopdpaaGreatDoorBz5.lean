/- Contracts of the functions that the law reaches, and the rules by which they are walked. They say what a call hands back for every input within the bounds that each names; no other condition. -/
import Derived.Test.YtjekhacnoopdpaaGreatDoorBz4
import Derived.Lib.Builder
import Derived.Lib.UnsafeStr
import Derived.Laws.Externs
import Derived.Shelf.RegionOpenPlain
set_option linter.unusedSimpArgs false
set_option linter.unusedVariables false
set_option maxRecDepth 20000
set_option maxHeartbeats 16000000
namespace Go.Proofs.YtjekhacnoopdpaaGreatDoor
open Go Go.RowKit Go.Pg Go.Pol
attribute [-bool_to_prop] Bool.and_eq_decide Bool.or_eq_decide Bool.decide_beq_decide decide_eq_decide
attribute [local go_sem] Tryz.underlying3 Tryz.underlying4 Tryz.underlying172 Tryz.underlying25 Tryz.underlying47 Tryz.underlying49 Tryz.underlying22 Tryz.underlying23 sz3 by3 z3 szB zB Zaj Zaw Zak Bool.and_self Zan Zbs zSlQ szQT byQT zQT Zby zSlT szQP zQP Tryz.underlying237
theorem Zm5:Go.Sort.SWO stLt:=Zua Zcc λs:TQ=>s.1.2
set_option maxHeartbeats 40000000 in
theorem stPdq':∀(n:Nat) (σ:Mem) (K:Nat) (sv:Value) (d:Array TQ) (a0 b0 lim0:Nat),b0 - a0=n→a0≤b0→b0≤d.size→lim0≤1000000→d.size≤1000000000→Go.Sort.Below stLt a0 b0 d→σ K=some (.row sv 49 4 ((d).toList.map tqA) 0) →
 ACall Tryz.prog 231 [.own K sv,iv a0,iv b0,iv lim0,.fn 152 []] σ λr σ'=>r=.tup []∧σ'=upd σ K (some (.row sv 49 4 ((Go.Sort.pdq stLt d a0 b0 lim0 true true).toList.map tqA) 0)):=by
 intro n
 induction n using Nat.strongRecOn with
 | _ n ih =>
 intro σ K sv d a0 b0 lim0 hn hab0 hbd0 hlim0 hz hBel hK;refine Za9 (args':=[.own (K+1000) sv,iv a0,iv b0,iv lim0,.fn 152 []]) Tryz.func231 rfl Tryz.ntmps231 Tryz.results231 Tryz.call231 (by rfl) (by simp) (.cons (Sub.own _ _ _) (.cons (Sub.refl _) (.cons (Sub.refl _) (.cons (Sub.refl _) (.cons (Sub.refl _) .nil))))) ?_;have hL:∀k,lent σ (k+1000)=σ k:=λk=>by unfold lent;rw [if_neg (by omega),Nat.add_sub_cancel]
 generalize lent σ=m0 at *;have m0K:m0 (K+1000)=some (.row sv 49 4 ((d).toList.map tqA) 0):=by rw [hL,hK]
 generalize hV:Go.Sort.pdq stLt d a0 b0 lim0 true true=V at *;(focus (refine wkad w_t w_t w_t ?_;(repeat' first|exact w_t|apply w_l);all_goals intros));refine Zad (ι:=(Nat × Nat) × ((Nat × (Bool × Bool)) × Array TQ)) (λp e m=>(p.1.1≤p.1.2∧p.1.2≤d.size∧p.1.2 - p.1.1≤n∧p.2.1.1≤1000000∧p.2.2.size=d.size∧Go.Sort.Below stLt p.1.1 p.1.2 p.2.2∧Go.Sort.pdq stLt p.2.2 p.1.1 p.1.2 p.2.1.1 p.2.1.2.1 p.2.1.2.2=V)∧(e 0=.own (K+1000) sv∧e 1=iv p.1.1∧e 2=iv p.1.2∧e 4=.fn 152 [])∧e 3=iv p.2.1.1∧e 10=.v (.bool p.2.1.2.1)∧e 11=.v (.bool p.2.1.2.2)∧(∀k,k≠K→m (k+1000)=σ k)∧m (K+1000)=some (.row sv 49 4 ((p.2.2).toList.map tqA) 0)) (λp=>p.1.2 - p.1.1) ((a0,b0),((lim0,(true,true)),d)) (by rfl) ?_ ?_
 ·clear hBel hV hn hab0 hbd0 hlim0
  rintro ⟨⟨a,b⟩,⟨⟨lim,⟨wb,wp⟩⟩,dk⟩⟩ e m ⟨⟨hab,hbd,hbn,hlim,hsz,hB,hO⟩,⟨q0,q1,q2,q4⟩,q3,q10,q11,hm,mK⟩
  simp only at hab hbd hbn hlim hsz hB hO q1 q2 q3 q10 q11 mK;obtain⟨l,hl⟩:∃x,x=b - a:=⟨_,rfl⟩;have cl:(b:Int) - (a:Int)=(l:Int):=by omega
  by_cases h12:l≤12
  ·have h12':(l:Int)≤12:=by omega
   rw [Go.Pol.pdq_ins (by omega)] at hO;have ci:=fun(m:Mem) h=>stIns m (K+1000) sv dk a b hab (by omega) h (by omega);rw [hO] at ci;(focus (refine wkad (w_9 q0 q1 q2 q4 q3 q10 q11 cl h12') w_t w_t ?_;(repeat' first|exact w_t|apply w_l);all_goals intros));refine Zbj (ci _ (by(simp (disch:=omega) only [go_sem,mK]<;>repeat' first|rfl|refine⟨?_,?_⟩))) ?_;(focus (refine wkad w_t w_t w_t ?_;(repeat' first|exact w_t|apply w_l);all_goals intros));simp (disch:=omega) only [go_sem];refine Zap (Sub.refl _) ⟨rfl,rfl⟩ λk hk=>?_;by_cases e:k=K
   ·subst e;simp only [Zac,if_pos]
   ·simp only [Zac,if_neg e,if_neg (show ¬k+1000=K+1000 by omega)];exact hm k e
  ·have h12':¬(l:Int)≤12:=by omega
   by_cases hl0:lim=0
   ·rw [Go.Pol.pdq_heap (by omega) hl0] at hO;have hl0':(lim:Int)=0:=by omega
    have ci:=fun(m:Mem) h=>stHeap m (K+1000) sv dk a b (by omega) (by omega) h (by omega);rw [hO] at ci;(focus (refine wkad (w_10 q0 q1 q2 q4 q3 q10 q11 cl h12' hl0') w_t w_t ?_;(repeat' first|exact w_t|apply w_l);all_goals intros));refine Zbj (ci _ (by(simp (disch:=omega) only [go_sem,mK]<;>repeat' first|rfl|refine⟨?_,?_⟩))) ?_;(focus (refine wkad w_t w_t w_t ?_;(repeat' first|exact w_t|apply w_l);all_goals intros));simp (disch:=omega) only [go_sem];refine Zap (Sub.refl _) ⟨rfl,rfl⟩ λk hk=>?_;by_cases e:k=K
    ·subst e;simp only [Zac,if_pos]
    ·simp only [Zac,if_neg e,if_neg (show ¬k+1000=K+1000 by omega)];exact hm k e
   ·have hl0':¬(lim:Int)=0:=by omega
    obtain⟨d1,hd1⟩:∃x,x=if !wb then Go.Sort.breakPatterns dk a b else dk:=⟨_,rfl⟩;obtain⟨lim1,hlim1⟩:∃x,x=if !wb then lim - 1 else lim:=⟨_,rfl⟩;obtain⟨c,hc⟩:∃x,x=Go.Sort.choosePivot stLt d1 a b:=⟨_,rfl⟩;obtain⟨d2,hd2⟩:∃x,x=if c.2=.decreasing then Go.Sort.reverseRange d1 a b else d1:=⟨_,rfl⟩;obtain⟨pv,hpv⟩:∃x,x=if c.2=.decreasing then (b - 1) - (c.1 - a) else c.1:=⟨_,rfl⟩;obtain⟨hint,hhi⟩:∃x,x=if c.2=.decreasing then Go.Sort.Hint.increasing else c.2:=⟨_,rfl⟩;obtain⟨pi,hpi⟩:∃x,x=if wb && wp && hint=.increasing then Go.Sort.partialInsertionSort stLt d2 a b else (d2,false):=⟨_,rfl⟩;rw [Go.Pol.pdq_unf (by omega) hl0 hd1 hlim1 hc hd2 hpv hhi hpi] at hO
    have hp1':Go.Sort.PermIn a b dk d1:=by
     rw [hd1];split
     ·exact Go.Sort.breakPatterns_holds dk a b hab (by omega)
     ·exact Go.Sort.permIn_refl _ _ _
    have hs1:d1.size=d.size:=by rw [hp1'.1,hsz]
    have hB1:=hB.perm (by omega) hp1';have hcr:=Go.Sort.choosePivot_holds stLt d1 a b (by omega);rw [←hc] at hcr
    have hp2':Go.Sort.PermIn a b d1 d2:=by
     rw [hd2];split
     ·exact Go.Sort.reverseRange_holds d1 a b hab (by omega)
     ·exact Go.Sort.permIn_refl _ _ _
    have hs2:d2.size=d.size:=by rw [hp2'.1,hs1]
    have hB2:=hB1.perm (by omega) hp2';have hlm1:lim1≤1000000:=by rw [hlim1];split<;>omega
    have hp1:a≤pv:=by rw [hpv];split<;>omega
    have hp2:pv < b:=by rw [hpv];split<;>omega
    have cb:=fun(m:Mem) h=>stBreak m (K+1000) sv dk a b (by omega) (by omega) h (by omega);have cp:=fun(m:Mem) h=>stPick m (K+1000) sv d1 a b (by omega) (by omega) h (by omega);have cr:=fun(m:Mem) h=>stRev m (K+1000) sv d1 a b (by omega) (by omega) h (by omega);have cs:=fun(m:Mem) h=>stPins m (K+1000) sv d2 a b (by omega) (by omega) h (by omega);have hps:=(Go.Sort.partialInsertionSort_holds Zm5 d2 a b (by omega) (by omega) hB2).1;rw [←hc] at cp;clear hp1' hp2' hB hB1;(focus (refine wkvd (w_10 q0 q1 q2 q4 q3 q10 q11 cl h12' hl0') w_t w_t ?_;(repeat' first|exact w_t|apply w_l);all_goals intros))
    refine Zst (λe m=>(e 0=.own (K+1000) sv∧e 1=iv a∧e 2=iv b∧e 4=.fn 152 []∧e 10=.v (.bool wb)∧e 11=.v (.bool wp)∧e 12=iv l)∧e 3=iv lim1∧(∀k,k≠K→m (k+1000)=σ k)∧m (K+1000)=some (.row sv 49 4 ((d1).toList.map tqA) 0)) ?_ ?_
    ·cases wb with
     | true =>
       have hd1:d1=dk:=hd1;have hlim1:lim1=lim:=hlim1;subst hd1 hlim1;refine c_f ?_;(focus (refine wkad (w_7 q0 q1 q2 q4 q3 q10 q11) w_t w_t ?_;(repeat' first|exact w_t|apply w_l);all_goals intros));exact⟨rfl,⟨by exact gW q0,by exact gW q1,by exact gW q2,by exact gW q4,by exact gW q10,by exact gW q11,by exact gC⟩,by exact gW q3,λk hk=>by rw [←hm k hk];try simp (disch:=omega) [Zac,marks,mark,hk],by(simp (disch:=omega) only [go_sem,mK]<;>repeat' first|rfl|refine⟨?_,?_⟩)⟩
     | false =>
       have hd1:d1=Go.Sort.breakPatterns dk a b:=hd1;have hlim1:lim1=lim - 1:=hlim1;rw [←hd1] at cb;have cl1:(lim:Int) - 1=(lim1:Int):=by omega
       refine c_t ?_;(focus (refine wkad (w_7 q0 q1 q2 q4 q3 q10 q11) w_t w_t ?_;(repeat' first|exact w_t|apply w_l);all_goals intros));refine Zbj (cb _ (by(simp (disch:=omega) only [go_sem,mK]<;>repeat' first|rfl|refine⟨?_,?_⟩))) ?_;(focus (refine wkad (w_8 q0 q1 q2 q4 q3 q10 q11 cl1) w_t w_t ?_;(repeat' first|exact w_t|apply w_l);all_goals intros));exact⟨rfl,⟨by exact gW q0,by exact gW q1,by exact gW q2,by exact gW q4,by exact gW q10,by exact gW q11,by exact gC⟩,by exact gW cl1,λk hk=>by rw [←hm k hk];try simp (disch:=omega) [Zac,marks,mark,hk],by exact gC⟩
    ·clear mK q0 q1 q2 q4 q3 q10 q11 hm cb hd1 hlim1 hsz hc
     rintro e m ⟨⟨q0,q1,q2,q4,q10,q11,q12⟩,q3,hm,mK⟩
     (focus (refine wkvd (w_8 q0 q1 q2 q4 q10 q11 q12 q3) w_t w_t ?_;(repeat' first|exact w_t|apply w_l);all_goals intros));refine Zbj (cp _ (by(simp (disch:=omega) only [go_sem,mK]<;>repeat' first|rfl|refine⟨?_,?_⟩))) ?_;(focus (refine wkvd (w_8 q0 q1 q2 q4 q10 q11 q12 q3) w_t w_t ?_;(repeat' first|exact w_t|apply w_l);all_goals intros));refine Zst (λe m=>(e 0=.own (K+1000) sv∧e 1=iv a∧e 2=iv b∧e 4=.fn 152 []∧e 10=.v (.bool wb)∧e 11=.v (.bool wp)∧e 12=iv l)∧e 3=iv lim1∧e 13=iv pv∧e 14=iv (Zmd hint)∧(∀k,k≠K→m (k+1000)=σ k)∧m (K+1000)=some (.row sv 49 4 ((d2).toList.map tqA) 0)) ?_ ?_
     ·obtain⟨c1,c2⟩:=c;simp only at *;by_cases hdec:c2=.decreasing
      ·rw [if_pos hdec] at hd2 hpv hhi;subst hdec;rw [←hd2] at cr;rw [hhi];have x1:(b:Int) - 1=((b - 1:Nat):Int):=by omega
       have x2:(c1:Int) - (a:Int)=((c1 - a:Nat):Int):=by omega
       have x3:((b - 1:Nat):Int) - ((c1 - a:Nat):Int)=(pv:Int):=by omega
       generalize b - 1=y1 at *;generalize c1 - a=y2 at *;have hh:Zmd .decreasing=2:=rfl;have hh2:Zmd .increasing=1:=rfl;rw [hh2];(focus (refine wkad (w_9 q0 q1 q2 q4 q10 q11 q12 q3 hh) w_t w_t ?_;(repeat' first|exact w_t|apply w_l);all_goals intros));refine Zbj (cr _ (by(simp (disch:=omega) only [go_sem,mK]<;>repeat' first|rfl|refine⟨?_,?_⟩))) ?_;(focus (refine wkad (w_11 q0 q1 q2 q4 q10 q11 q12 q3 x1 x2 x3) w_t w_t ?_;(repeat' first|exact w_t|apply w_l);all_goals intros));exact⟨rfl,⟨by exact gW q0,by exact gW q1,by exact gW q2,by exact gW q4,by exact gW q10,by exact gW q11,by exact gW q12⟩,by exact gW q3,by exact gW x3,by exact gC,λk hk=>by rw [←hm k hk];try simp (disch:=omega) [Zac,marks,mark,hk],by exact gC⟩
      ·rw [if_neg hdec] at hd2 hpv hhi;subst hd2 hpv hhi;have hh:¬Zmd hint=2:=by cases hint<;>simp_all [Zmd]
       (focus (refine wkad (w_9 q0 q1 q2 q4 q10 q11 q12 q3 hh) w_t w_t ?_;(repeat' first|exact w_t|apply w_l);all_goals intros));exact⟨rfl,⟨by exact gW q0,by exact gW q1,by exact gW q2,by exact gW q4,by exact gW q10,by exact gW q11,by exact gW q12⟩,by exact gW q3,by exact gC,by exact gC,λk hk=>by rw [←hm k hk];try simp (disch:=omega) [Zac,marks,mark,hk],by(simp (disch:=omega) only [go_sem,mK]<;>repeat' first|rfl|refine⟨?_,?_⟩)⟩
     ·clear mK q0 q1 q2 q4 q3 q10 q11 q12 hm cp cr hd2 hpv hhi hs1
      rintro e m ⟨⟨q0,q1,q2,q4,q10,q11,q12⟩,q3,q13,q14,hm,mK⟩
      have hpm3:Go.Sort.PermIn a b d2 pi.1:=by
       rw [hpi];split
       ·exact hps
       ·exact Go.Sort.permIn_refl _ _ _
      clear hps;obtain⟨d3,pb⟩:=pi;simp only at hO hpm3;have hs3:d3.size=d.size:=by rw [hpm3.1,hs2]
      have hB3:=hB2.perm (by omega) hpm3;refine t_then ?_;refine r_seq ?_;refine r_fork (λe m=>pb=false∧(e 0=.own (K+1000) sv∧e 1=iv a∧e 2=iv b∧e 4=.fn 152 []∧e 10=.v (.bool wb)∧e 11=.v (.bool wp)∧e 12=iv l)∧e 3=iv lim1∧e 13=iv pv∧(∀k,k≠K→m (k+1000)=σ k)∧m (K+1000)=some (.row sv 49 4 ((d3).toList.map tqA) 0)) ?_ ?_
      ·clear mK q0 q1 q2 q4 q3 q10 q11 q12 q13 q14 hm cs hpi hpm3 hB2 hs2
       rintro e m ⟨hpb,⟨q0,q1,q2,q4,q10,q11,q12⟩,q3,q13,hm,mK⟩
       subst hpb;rw [if_neg (by simp)] at hO;have hml:=Zbm tqA d3;rw [hs3] at hml;by_cases ha0:0 < a
       ·obtain⟨a1,ha1⟩:∃x,x=a - 1:=⟨_,rfl⟩;have ca1:(a:Int) - 1=(a1:Int):=by omega
        have ha0':(0:Int) < (a:Int):=by omega
        have gv:(d3.toList.map tqA).getD a1 .u=tqA d3[a1]!:=Zay tqA (by omega) _;have ga:(d3.toList.map tqA).getD pv .u=tqA d3[pv]!:=Zay tqA (by omega) _;have cc:=Zg3 d3[a1]! d3[pv]!;have h1l:a1 < d.size:=by omega
        have hpl:pv < d.size:=by omega
        by_cases hp:ordT d3[a1]!.1 d3[pv]!.1 < 0
        ·rw [if_neg (by rw [←ha1,show stLt d3[a1]! d3[pv]! = true from Zfw hp];simp)] at hO;generalize hz3:ordT d3[a1]!.1 d3[pv]!.1=z at *;clear hz3;have cpt:=fun(m:Mem) h=>stPart m (K+1000) sv d3 a b pv (by omega) (by omega) hp1 hp2 h (by omega);have hrp:=fun(mid:Nat) (ap:Bool) (d4:Array TQ) hx=>Go.Sort.round_part Zm5 (Go.Sort.partition_holds _) (d4:=d4) (mid:=mid) (ap:=ap) hp1 hp2 (by omega) hB3 hx;generalize d3[a1]! = vx at *;generalize d3[pv]! = vy at *;generalize hM:d3.toList.map tqA=M at *;obtain⟨⟨vx1,vx2⟩,vx3⟩:=vx;obtain⟨⟨vy1,vy2⟩,vy3⟩:=vy
         try simp only [tqA] at *
         (focus (refine wkad (w_16 q0 q1 q2 q4 q10 q11 q12 q3 q13 mK gv ga hml ca1 ha0' hp) (w_1 cc) (w_1 (w_d 17 [(13,iv z)] [] [])) ?_;(repeat' first|exact w_t|apply w_l);all_goals intros));generalize hPE:Go.Sort.partition stLt d3 a b pv=PE at *;obtain⟨mid,ap,d4⟩:=PE;simp only at hO cpt;obtain⟨r1,r2,r3,r4,r5,r6,r7⟩:=hrp mid ap d4 rfl;rw [dif_pos ⟨r1,r2⟩] at hO;clear hrp hPE;refine Zbj (cpt _ (by(simp (disch:=omega) only [go_sem,mK]<;>repeat' first|rfl|refine⟨?_,?_⟩))) ?_;obtain⟨ll,hll⟩:∃x,x=mid - a:=⟨_,rfl⟩;obtain⟨rl,hrl⟩:∃x,x=b - mid:=⟨_,rfl⟩;obtain⟨bt,hbt⟩:∃x,x=l/8:=⟨_,rfl⟩;have cll:(mid:Int) - (a:Int)=(ll:Int):=by omega
         have crl:(b:Int) - (mid:Int)=(rl:Int):=by omega
         have cbt:((l:Nat):Int).tdiv 8=(bt:Int):=by rw [hbt];rfl
         have cm1:(mid:Int)+1=((mid+1:Nat):Int):=by omega
         rw [←hll,←hrl,show(b - a)/8=bt by rw [hbt,hl]] at hO;by_cases hlr:ll < rl
         ·rw [if_pos hlr] at hO;have hlr':(ll:Int) < (rl:Int):=by omega
          have cd:decide ((bt:Int)≤(ll:Int))=decide (ll ≥ bt):=by rw [decide_eq_decide];omega
          have crec:=fun(m:Mem) h=>ih (mid - a) (by omega) m (K+1000) sv d4 a mid lim1 (by omega) r1 (by omega) (by omega) (by omega) r4 h;obtain⟨hpm,hso⟩:=Go.Sort.pdq_sorts _ Zm5 d4 a mid lim1 true true r1 (by omega) r4;have hBn:=(r6 _ hpm hso).1;have hsn:=hpm.1;rw [r3,hs3] at hsn;clear r6 r7 hpm hso;generalize Go.Sort.pdq stLt d4 a mid lim1 true true=dL at *;generalize decide (ll ≥ bt)=wb' at *;(focus (refine wkad (w_14 q0 q1 q2 q4 q10 q11 q12 q3 q13 cll crl cbt hlr' cd) w_t w_t ?_;(repeat' first|exact w_t|apply w_l);all_goals intros));refine Zbj (crec _ (by exact gC)) ?_;(focus (refine wkad (w_10 q0 q1 q2 q4 q10 q11 q12 q3 q13 cm1) w_t w_t ?_;(repeat' first|exact w_t|apply w_l);all_goals intros))
          exact⟨((mid+1,b),((lim1,(wb',ap)),dL)),⟨⟨by show mid+1≤b;omega,by show b≤d.size;omega,by show b - (mid+1)≤n;omega,by show lim1≤1000000;omega,hsn,hBn,hO⟩,⟨by exact gW q0,by exact gC,by exact gW q2,by exact gW q4⟩,by exact gW q3,by exact gW q10,by exact gW q11,λk hk=>by rw [←hm k hk];try simp (disch:=omega) [Zac,marks,mark,hk],by exact gC⟩,by show b - (mid+1) < b - a;omega⟩
         ·rw [if_neg hlr] at hO;have hlr':¬(ll:Int) < (rl:Int):=by omega
          have cd:decide ((bt:Int)≤(rl:Int))=decide (rl ≥ bt):=by rw [decide_eq_decide];omega
          have crec:=fun(m:Mem) h=>ih (b - (mid+1)) (by omega) m (K+1000) sv d4 (mid+1) b lim1 (by omega) (by omega) (by omega) (by omega) (by omega) r5 h;obtain⟨hpm,hso⟩:=Go.Sort.pdq_sorts _ Zm5 d4 (mid+1) b lim1 true true (by omega) (by omega) r5;have hBn:=(r7 _ hpm hso).1;have hsn:=hpm.1;rw [r3,hs3] at hsn;clear r6 r7 hpm hso;generalize Go.Sort.pdq stLt d4 (mid+1) b lim1 true true=dL at *;generalize decide (rl ≥ bt)=wb' at *;(focus (refine wkad (w_15 q0 q1 q2 q4 q10 q11 q12 q3 q13 cll crl cbt hlr' cd cm1) w_t w_t ?_;(repeat' first|exact w_t|apply w_l);all_goals intros));refine Zbj (crec _ (by exact gC)) ?_
          (focus (refine wkad (w_9 q0 q1 q2 q4 q10 q11 q12 q3 q13) w_t w_t ?_;(repeat' first|exact w_t|apply w_l);all_goals intros));exact⟨((a,mid),((lim1,(wb',ap)),dL)),⟨⟨by show a≤mid;omega,by show mid≤d.size;omega,by show mid - (a)≤n;omega,by show lim1≤1000000;omega,hsn,hBn,hO⟩,⟨by exact gW q0,by exact gW q1,by exact gC,by exact gW q4⟩,by exact gW q3,by exact gW q10,by exact gW q11,λk hk=>by rw [←hm k hk];try simp (disch:=omega) [Zac,marks,mark,hk],by exact gC⟩,by show mid - (a) < b - a;omega⟩
        ·rw [if_pos (by rw [←ha1,show stLt d3[a1]! d3[pv]! = false from Ze4 hp];simp;exact ha0)] at hO;have hre:=fun(mid:Nat) (d4:Array TQ) hx=>Go.Sort.round_eq Zm5 (Go.Sort.partitionEqual_holds _) (d4:=d4) (mid:=mid) ha0 hp1 hp2 (by omega) hB3 (by rw [←ha1];exact Ze4 hp) hx;have cpe:=fun(m:Mem) h=>stPartEq m (K+1000) sv d3 a b pv (by omega) (by omega) hp1 hp2 h (by omega);generalize hz3:ordT d3[a1]!.1 d3[pv]!.1=z at *;clear hz3;generalize hPE:Go.Sort.partitionEqual stLt d3 a b pv=PE at *;obtain⟨mid,d4⟩:=PE;simp only at hO cpe;obtain⟨r1,r2,r3,r4,-⟩:=hre mid d4 rfl;rw [dif_pos ⟨r1,r2⟩] at hO
         clear hre hPE;generalize d3[a1]! = vx at *;generalize d3[pv]! = vy at *;generalize hM:d3.toList.map tqA=M at *;obtain⟨⟨vx1,vx2⟩,vx3⟩:=vx;obtain⟨⟨vy1,vy2⟩,vy3⟩:=vy
         try simp only [tqA] at *
         (focus (refine wkad (w_16 q0 q1 q2 q4 q10 q11 q12 q3 q13 mK gv ga hml ca1 ha0' hp) (w_1 cc) (w_1 (w_d 17 [(13,iv z)] [] [])) ?_;(repeat' first|exact w_t|apply w_l);all_goals intros));refine Zbj (cpe _ (by(simp (disch:=omega) only [go_sem,mK]<;>repeat' first|rfl|refine⟨?_,?_⟩))) ?_;(focus (refine wkad (w_9 q0 q1 q2 q4 q10 q11 q12 q3 q13) w_t w_t ?_;(repeat' first|exact w_t|apply w_l);all_goals intros));have hsn:d4.size=d.size:=by omega
         have hBn:=r4;exact⟨((mid,b),((lim1,(wb,wp)),d4)),⟨⟨by show mid≤b;omega,by show b≤d.size;omega,by show b - (mid)≤n;omega,by show lim1≤1000000;omega,hsn,hBn,hO⟩,⟨by exact gW q0,by exact gC,by exact gW q2,by exact gW q4⟩,by exact gW q3,by exact gW q10,by exact gW q11,λk hk=>by rw [←hm k hk];try simp (disch:=omega) [Zac,marks,mark,hk],by exact gC⟩,by show b - (mid) < b - a;omega⟩
       ·rw [if_neg (by simp only [Bool.and_eq_true,decide_eq_true_eq];exact λh=>ha0 h.1)] at hO;have ha0':¬(0:Int) < (a:Int):=by omega
        have cpt:=fun(m:Mem) h=>stPart m (K+1000) sv d3 a b pv (by omega) (by omega) hp1 hp2 h (by omega);have hrp:=fun(mid:Nat) (ap:Bool) (d4:Array TQ) hx=>Go.Sort.round_part Zm5 (Go.Sort.partition_holds _) (d4:=d4) (mid:=mid) (ap:=ap) hp1 hp2 (by omega) hB3 hx;generalize hM:d3.toList.map tqA=M at *;(focus (refine wkad (w_12 q0 q1 q2 q4 q10 q11 q12 q3 q13 mK hml ha0') w_t (w_1 (w_d 17 [] [] [])) ?_;(repeat' first|exact w_t|apply w_l);all_goals intros));generalize hPE:Go.Sort.partition stLt d3 a b pv=PE at *;obtain⟨mid,ap,d4⟩:=PE;simp only at hO cpt;obtain⟨r1,r2,r3,r4,r5,r6,r7⟩:=hrp mid ap d4 rfl
        rw [dif_pos ⟨r1,r2⟩] at hO;clear hrp hPE;refine Zbj (cpt _ (by(simp (disch:=omega) only [go_sem,mK]<;>repeat' first|rfl|refine⟨?_,?_⟩))) ?_;obtain⟨ll,hll⟩:∃x,x=mid - a:=⟨_,rfl⟩;obtain⟨rl,hrl⟩:∃x,x=b - mid:=⟨_,rfl⟩;obtain⟨bt,hbt⟩:∃x,x=l/8:=⟨_,rfl⟩;have cll:(mid:Int) - (a:Int)=(ll:Int):=by omega
        have crl:(b:Int) - (mid:Int)=(rl:Int):=by omega
        have cbt:((l:Nat):Int).tdiv 8=(bt:Int):=by rw [hbt];rfl
        have cm1:(mid:Int)+1=((mid+1:Nat):Int):=by omega
        rw [←hll,←hrl,show(b - a)/8=bt by rw [hbt,hl]] at hO;by_cases hlr:ll < rl
        ·rw [if_pos hlr] at hO;have hlr':(ll:Int) < (rl:Int):=by omega
         have cd:decide ((bt:Int)≤(ll:Int))=decide (ll ≥ bt):=by rw [decide_eq_decide];omega
         have crec:=fun(m:Mem) h=>ih (mid - a) (by omega) m (K+1000) sv d4 a mid lim1 (by omega) r1 (by omega) (by omega) (by omega) r4 h;obtain⟨hpm,hso⟩:=Go.Sort.pdq_sorts _ Zm5 d4 a mid lim1 true true r1 (by omega) r4;have hBn:=(r6 _ hpm hso).1;have hsn:=hpm.1;rw [r3,hs3] at hsn;clear r6 r7 hpm hso;generalize Go.Sort.pdq stLt d4 a mid lim1 true true=dL at *;generalize decide (ll ≥ bt)=wb' at *;(focus (refine wkad (w_14 q0 q1 q2 q4 q10 q11 q12 q3 q13 cll crl cbt hlr' cd) w_t w_t ?_;(repeat' first|exact w_t|apply w_l);all_goals intros));refine Zbj (crec _ (by exact gC)) ?_;(focus (refine wkad (w_10 q0 q1 q2 q4 q10 q11 q12 q3 q13 cm1) w_t w_t ?_;(repeat' first|exact w_t|apply w_l);all_goals intros))
         exact⟨((mid+1,b),((lim1,(wb',ap)),dL)),⟨⟨by show mid+1≤b;omega,by show b≤d.size;omega,by show b - (mid+1)≤n;omega,by show lim1≤1000000;omega,hsn,hBn,hO⟩,⟨by exact gW q0,by exact gC,by exact gW q2,by exact gW q4⟩,by exact gW q3,by exact gW q10,by exact gW q11,λk hk=>by rw [←hm k hk];try simp (disch:=omega) [Zac,marks,mark,hk],by exact gC⟩,by show b - (mid+1) < b - a;omega⟩
        ·rw [if_neg hlr] at hO;have hlr':¬(ll:Int) < (rl:Int):=by omega
         have cd:decide ((bt:Int)≤(rl:Int))=decide (rl ≥ bt):=by rw [decide_eq_decide];omega
         have crec:=fun(m:Mem) h=>ih (b - (mid+1)) (by omega) m (K+1000) sv d4 (mid+1) b lim1 (by omega) (by omega) (by omega) (by omega) (by omega) r5 h;obtain⟨hpm,hso⟩:=Go.Sort.pdq_sorts _ Zm5 d4 (mid+1) b lim1 true true (by omega) (by omega) r5;have hBn:=(r7 _ hpm hso).1;have hsn:=hpm.1;rw [r3,hs3] at hsn;clear r6 r7 hpm hso;generalize Go.Sort.pdq stLt d4 (mid+1) b lim1 true true=dL at *;generalize decide (rl ≥ bt)=wb' at *;(focus (refine wkad (w_15 q0 q1 q2 q4 q10 q11 q12 q3 q13 cll crl cbt hlr' cd cm1) w_t w_t ?_;(repeat' first|exact w_t|apply w_l);all_goals intros));refine Zbj (crec _ (by exact gC)) ?_
         (focus (refine wkad (w_9 q0 q1 q2 q4 q10 q11 q12 q3 q13) w_t w_t ?_;(repeat' first|exact w_t|apply w_l);all_goals intros));exact⟨((a,mid),((lim1,(wb',ap)),dL)),⟨⟨by show a≤mid;omega,by show mid≤d.size;omega,by show mid - (a)≤n;omega,by show lim1≤1000000;omega,hsn,hBn,hO⟩,⟨by exact gW q0,by exact gW q1,by exact gC,by exact gW q4⟩,by exact gW q3,by exact gW q10,by exact gW q11,λk hk=>by rw [←hm k hk];try simp (disch:=omega) [Zac,marks,mark,hk],by exact gC⟩,by show mid - (a) < b - a;omega⟩
      ·clear hB3 hs3 hpm3;by_cases hall:(wb && wp && decide (hint=.increasing))=true
       ·rw [if_pos hall] at hpi;rw [←hpi] at cs;have hw1:wb=true:=by simp only [Bool.and_eq_true] at hall;exact hall.1.1
        have hw2:wp=true:=by simp only [Bool.and_eq_true] at hall;exact hall.1.2
        have hw3:hint=.increasing:=by simp only [Bool.and_eq_true,decide_eq_true_eq] at hall;exact hall.2
        subst hw1 hw2 hw3;have hh2:Zmd .increasing=1:=rfl;rw [hh2] at q14;simp only at cs;(focus (refine wkvd (w_10 q0 q1 q2 q4 q10 q11 q12 q3 q13 q14) w_t w_t ?_;(repeat' first|exact w_t|apply w_l);all_goals intros));refine Zbj (cs _ (by(simp (disch:=omega) only [go_sem,mK]<;>repeat' first|rfl|refine⟨?_,?_⟩))) ?_
        cases pb with
        | true =>
          rw [if_pos rfl] at hO;rw [←hO];(focus (refine wkad (w_10 q0 q1 q2 q4 q10 q11 q12 q3 q13 q14) w_t w_t ?_;(repeat' first|exact w_t|apply w_l);all_goals intros));refine .inr ⟨rfl,?_⟩;(focus (refine wkad w_t w_t w_t ?_;(repeat' first|exact w_t|apply w_l);all_goals intros));simp (disch:=omega) only [go_sem];refine Zap (Sub.refl _) ⟨rfl,rfl⟩ λk hk=>?_;by_cases e:k=K
          ·subst e;simp only [Zac,if_pos]
          ·simp only [Zac,if_neg e,if_neg (show ¬k+1000=K+1000 by omega)];exact hm k e
        | false =>
          (focus (refine wkad (w_10 q0 q1 q2 q4 q10 q11 q12 q3 q13 q14) w_t w_t ?_;(repeat' first|exact w_t|apply w_l);all_goals intros));exact .inl ⟨rfl,rfl,⟨by exact gW q0,by exact gW q1,by exact gW q2,by exact gW q4,by exact gW q10,by exact gW q11,by exact gW q12⟩,by exact gW q3,by exact gW q13,λk hk=>by rw [←hm k hk];try simp (disch:=omega) [Zac,marks,mark,hk],by exact gC⟩
       ·rw [if_neg hall] at hpi;obtain⟨hpi1,hpi2⟩:=Prod.mk.inj hpi;rw [←hpi1] at mK
        cases wb with
        | false =>
          (focus (refine wkad (w_10 q0 q1 q2 q4 q10 q11 q12 q3 q13 q14) w_t w_t ?_;(repeat' first|exact w_t|apply w_l);all_goals intros));exact .inl ⟨rfl,hpi2,⟨by exact gW q0,by exact gW q1,by exact gW q2,by exact gW q4,by exact gW q10,by exact gW q11,by exact gW q12⟩,by exact gW q3,by exact gW q13,λk hk=>by rw [←hm k hk];try simp (disch:=omega) [Zac,marks,mark,hk],by(simp (disch:=omega) only [go_sem,mK]<;>repeat' first|rfl|refine⟨?_,?_⟩)⟩
        | true =>
          cases wp with
          | false =>
            (focus (refine wkad (w_10 q0 q1 q2 q4 q10 q11 q12 q3 q13 q14) w_t w_t ?_;(repeat' first|exact w_t|apply w_l);all_goals intros));exact .inl ⟨rfl,hpi2,⟨by exact gW q0,by exact gW q1,by exact gW q2,by exact gW q4,by exact gW q10,by exact gW q11,by exact gW q12⟩,by exact gW q3,by exact gW q13,λk hk=>by rw [←hm k hk];try simp (disch:=omega) [Zac,marks,mark,hk],by(simp (disch:=omega) only [go_sem,mK]<;>repeat' first|rfl|refine⟨?_,?_⟩)⟩
          | true =>
            have hh:¬Zmd hint=1:=by cases hint<;>simp_all [Zmd]
            (focus (refine wkad (w_11 q0 q1 q2 q4 q10 q11 q12 q3 q13 q14 hh) w_t w_t ?_;(repeat' first|exact w_t|apply w_l);all_goals intros));exact .inl ⟨rfl,hpi2,⟨by exact gW q0,by exact gW q1,by exact gW q2,by exact gW q4,by exact gW q10,by exact gW q11,by exact gW q12⟩,by exact gW q3,by exact gW q13,λk hk=>by rw [←hm k hk];try simp (disch:=omega) [Zac,marks,mark,hk],by(simp (disch:=omega) only [go_sem,mK]<;>repeat' first|rfl|refine⟨?_,?_⟩)⟩
 ·exact⟨⟨hab0,hbd0,by show b0 - a0≤n;omega,hlim0,rfl,hBel,hV⟩,⟨by exact gC,by exact gC,by exact gC,by exact gC⟩,by exact gC,by exact gC,by exact gC,λk hk=>by rw [←hL k];try simp (disch:=omega) [Zac,marks,mark],by(simp (disch:=omega) only [go_sem,m0K]<;>repeat' first|rfl|refine⟨?_,?_⟩)⟩
theorem stSortA (σ:Mem) (K:Nat) (sv:Value) (d:Array TQ) (hK:σ K=some (.row sv 49 4 ((d).toList.map tqA) 0)) (hz:d.size≤1000000000):ACall Tryz.prog 151 [.own K sv,.fn 152 []] σ λr σ'=>r=.tup []∧σ'=upd σ K (some (.row sv 49 4 ((Go.Sort.pdq stLt d 0 d.size (Go.Sort.bitsLen d.size) true true).toList.map tqA) 0)):=by
 refine Za9 (args':=[.own (K+1000) sv,.fn 152 []]) Tryz.func151 rfl Tryz.ntmps151 Tryz.results151 Tryz.call151 (by rfl) (by simp) (.cons (Sub.own _ _ _) (.cons (Sub.refl _) .nil)) ?_;have hL:∀k,lent σ (k+1000)=σ k:=λk=>by unfold lent;rw [if_neg (by omega),Nat.add_sub_cancel]
 generalize lent σ=m0 at *;have m0K:m0 (K+1000)=some (.row sv 49 4 ((d).toList.map tqA) 0):=by rw [hL,hK]
 have cb:=bLen d.size hz;have hb:=Zg0 hz;have ci:=fun(σ:Mem) h=>stPdq' d.size σ (K+1000) sv d 0 d.size (Go.Sort.bitsLen d.size) (Nat.sub_zero _) (Nat.zero_le _) (Nat.le_refl _) (by omega) hz (Or.inl rfl) h;generalize Go.Sort.pdq stLt d 0 d.size (Go.Sort.bitsLen d.size) true true=V at *;have hml:=Zbm tqA d;generalize Go.Sort.bitsLen d.size=lim at *;have ci:∀(σ:Mem),σ (K+1000)=some (.row sv 49 4 ((d).toList.map tqA) 0)→ACall Tryz.prog 231 [.own (K+1000) sv,iv 0,iv d.size,iv lim,.fn 152 []] σ _:=ci;(focus (refine wkad (w_2 m0K hml) (w_1 cb) w_t ?_;(repeat' first|exact w_t|apply w_l);all_goals intros))
 refine Zbj (ci _ (by(simp (disch:=omega) only [go_sem,m0K]<;>repeat' first|rfl|refine⟨?_,?_⟩))) ?_;(focus (refine wkad w_t w_t w_t ?_;(repeat' first|exact w_t|apply w_l);all_goals intros));simp (disch:=omega) only [go_sem];refine Zap (Sub.refl _) ⟨rfl,rfl⟩ λk hk=>?_;by_cases e:k=K
 ·subst e;rw [Zac,if_pos rfl,Zac,if_pos rfl]
 ·rw [Zac,if_neg (by omega),Zac,if_neg e,hL]
theorem stSortN (σ:Mem) (K:Nat) (sv:Value) (L:List (Rat × List Qt)) (hK:σ K=some (.row sv 49 4 (L.map qtA) 0)) (hl:L.length≤1000000000) (hq:∀t∈L,t.2.length≤1000000) (hd:Dst L):ACall Tryz.prog 151 [.own K sv,.fn 152 []] σ λr σ'=>r=.tup []∧σ'=upd σ K (some (.row sv 49 4 ((srtQ ordT L).map qtA) 0)):=by
 obtain⟨L',hL'⟩:∃L':List TQ,L=L'.map λs=>s.1:=⟨L.pmap Subtype.mk hq,by rw [List.map_pmap];simp⟩;have ha:∀M:List TQ,(M.map λs=>s.1).map qtA=M.map tqA:=λM=>by rw [List.map_map];rfl
 have hK2:σ K=some (.row sv 49 4 (L'.toArray.toList.map tqA) 0):=by rw [hK,hL',ha]
 have hll:L'.length=L.length:=by rw [hL',List.length_map]
 have h:=stSortA σ K sv L'.toArray hK2 (by simpa [hll] using hl);have e:=Zvh Zcc (λs:Rat × List Qt=>s.2) (λs:TQ=>s.1) L' (by rw [←hL'];exact dst_inj hd) (Go.Sort.bitsLen L'.length);rw [show L'.toArray.size=L'.length by simp,←ha] at h;rw [←hL'] at e;have e:(Go.Sort.pdq stLt L'.toArray 0 L'.length (Go.Sort.bitsLen L'.length) true true).toList.map (λs=>s.1)=srtQ ordT L:=e;rw [e] at h;exact h
def maxQ:Nat:=12
theorem Zl7:maxQ≤1000:=by unfold maxQ;omega
theorem Zp1:12≤maxQ:=by unfold maxQ;omega
end Go.Proofs.YtjekhacnoopdpaaGreatDoor
namespace Go.Proofs.YtjekhacnoopdpaaGreatDoor
open Go Go.RowKit Go.Pg
attribute [-bool_to_prop] Bool.and_eq_decide Bool.or_eq_decide Bool.decide_beq_decide decide_eq_decide
theorem zSum:Zav Tryz.prog 168=some (.agg #[.map none,.slice none 0 0]):=by kernel_rfl
theorem zMap:Zav Tryz.prog 166=some (.map none):=by kernel_rfl
end Go.Proofs.YtjekhacnoopdpaaGreatDoor
namespace Go.Pg
open Go Go.RowKit
section
variable {P:Program} {all rest:List Oper} {K:St→Prop} {e:Nat→AV} {m:Mem} {dst:Option Nat} {d t j:Nat} {op:Op} {ty:TypeId} {pos:String} {af:Array Edge} {r:Res} {rs:Nat→AV} {bar:List Nat} {fu k:Nat} {σs:Mem}
theorem gy5d (hb:bar.contains k=true) (hs:(bar.contains (k+1000) || bar.contains (k+3000))=false) (h2:bar.contains (k+2000)=true) (ho:all[k]?=some ⟨some d,op,ty,pos,af,none⟩) (h:Ev (Zah P ⟨e,m⟩ op=r)) (hkp:Ev (Zb9 Zai r)) (hk:aRes P d (some d) r (Zbr P 0 all rs bar Zai fu (k+1) K) ⟨e,m⟩):Zbr P 0 all rs bar σs (fu+1) k K ⟨e,m⟩:=by
 rw [Zcf];unfold Zdp;rw [ho];simp only [Bool.or_eq_false_iff] at hs;simp only [Zb3,hb,hs,h2,if_true,Bool.false_eq_true,if_false];have h:Zah P ⟨e,m⟩ op=r:=h;refine⟨?_,λ_=>⟨rfl,by rw [h];exact hkp,λh=>by cases h⟩⟩;unfold Zfo;rw [Zdm,h,Option.getD_some,Nat.zero_add];exact hk
end
end Go.Pg
namespace Go.Proofs.YtjekhacnoopdpaaGreatDoor
open Go Go.RowKit Go.Pg Go.Pol
attribute [-bool_to_prop] Bool.and_eq_decide Bool.or_eq_decide Bool.decide_beq_decide decide_eq_decide
attribute [local go_sem] Tryz.underlying3 Tryz.underlying4 Tryz.underlying169 Tryz.underlying41 Tryz.underlying43 Tryz.underlying45 Tryz.underlying25 Tryz.underlying47 Tryz.underlying49 Tryz.underlying22 Tryz.underlying23 sz3 by3 z3 szB zB Zbd zRat Zbf zInt Zbe zNat Zaj Zaw Zak Bool.and_self Zan Zbs zSlQ szQT byQT zQT Zby zSlT szQP zQP Tryz.underlying9 Tryz.underlying168 Tryz.underlying100 Tryz.underlying166 Zm3 Zin Zmx Zm4 Zcr zStr zSum zMap
def mpN:QTs→Nat→List (ByteArray × AV)
 | [],_=>[]
 | t :: l,n=>(keyS t.2,iv n) :: mpN l (n+1)
abbrev mpE (T:QTs):List (ByteArray × AV):=mpN T 0
def B8 (T:QTs):Prop:=∀t∈T,∀q∈t.2,q.b8
theorem Zv3 (l:QTs) (t:Rat × List Qt):∀n,mpN (l++[t]) n=mpN l n++[(keyS t.2,iv ((n+l.length:Nat)))]:=by
 induction l with
 | nil=>intro n;rfl
 | cons a l ih =>
   intro n;show(keyS a.2,iv n) :: mpN (l++[t]) (n+1)=_;rw [ih];show _=(keyS a.2,iv n) :: (mpN l (n+1)++_);rw [show n+1+l.length=n+(a :: l).length by simp only [List.length_cons];omega]
theorem Zrl {l m:QTs} (h:l.map (λt=>t.2)=m.map λt=>t.2):∀n,mpN l n=mpN m n:=by
 induction l generalizing m with
 | nil=>intro n;cases m with
   | nil=>rfl
   | cons b m=>simp at h
 | cons a l ih=>intro n;cases m with
   | nil=>simp at h
   | cons b m =>
     simp only [List.map_cons,List.cons.injEq] at h;show(keyS a.2,iv n) :: mpN l (n+1)=(keyS b.2,iv n) :: mpN m (n+1);rw [h.1,ih h.2]
theorem Zpv:∀{T:QTs} {p:List Qt} {i:Nat} (hi:i < T.length) (n:Nat),B8 T→(∀q∈p,q.b8)→T[i].2=p→(∀j (h:j < T.length),j < i→T[j].2≠p)→Zhf (keyS p) (mpN T n)=some (iv ((n+i:Nat)))
 | [],p,i,hi,_,_,_,_,_=>by simp at hi
 | t :: T,p,0,hi,n,hb,hp,he,_=>by
   show(if keyS t.2=keyS p then _ else _)=_;have he:t.2=p:=he;rw [if_pos (by rw [he])];rfl
 | t :: T,p,i+1,hi,n,hb,hp,he,hn=>by
   show(if keyS t.2=keyS p then _ else Zhf (keyS p) (mpN T (n+1)))=_;have h0:t.2≠p:=hn 0 (by simp) (by omega);rw [if_neg (λh=>h0 (Zrq (hb t (.head _)) hp h)),Zpv (by simpa using hi) (n+1) (λu hu=>hb u (.tail _ hu)) hp he (λj h hj=>hn (j+1) (by simpa using h) (by omega))];rw [show n+1+i=n+(i+1) by omega]
theorem Zjv:∀{T:QTs} {p:List Qt} (n:Nat),B8 T→(∀q∈p,q.b8)→(∀j (h:j < T.length),T[j].2≠p)→Zhf (keyS p) (mpN T n)=none∧∀x,Zhu (keyS p) x (mpN T n)=mpN T n++[(keyS p,x)]
 | [],p,_,_,_,_=>⟨rfl,λ_=>rfl⟩
 | t :: T,p,n,hb,hp,hn=>by
   have h0:t.2≠p:=hn 0 (by simp);have hk:¬keyS t.2=keyS p:=λh=>h0 (Zrq (hb t (.head _)) hp h);obtain⟨h1,h2⟩:=Zjv (n+1) (λu hu=>hb u (.tail _ hu)) hp (λj h=>hn (j+1) (by simpa using h));refine⟨?_,λx=>?_⟩
   ·show(if keyS t.2=keyS p then _ else Zhf (keyS p) (mpN T (n+1)))=_;rw [if_neg hk,h1]
   ·show(if keyS t.2=keyS p then _ else _ :: Zhu (keyS p) x (mpN T (n+1)))=_;rw [if_neg hk,h2];rfl
theorem Zxk:∀{T:QTs} {t:Rat × List Qt} {i:Nat} (hi:i < T.length),T[i].2=t.2→(∀j (h:j < T.length),j < i→T[j].2≠t.2)→addC T t=T.set i (T[i].1+t.1,T[i].2)
 | [],t,i,hi,_,_=>by simp at hi
 | s :: T,t,0,hi,he,_=>by
   have he:s.2=t.2:=he;show(if s.2=t.2 then _ else _)=_;rw [if_pos he];rfl
 | s :: T,t,i+1,hi,he,hn=>by
   show(if s.2=t.2 then _ else s :: addC T t)=_;have h0:s.2≠t.2:=hn 0 (by simp) (by omega);rw [if_neg h0,Zxk (i:=i) (by simpa using hi) he (λj h hj=>hn (j+1) (by simpa using h) (by omega))];rfl
theorem Zxl:∀{T:QTs} {t:Rat × List Qt},(∀j (h:j < T.length),T[j].2≠t.2)→addC T t=T++[t]
 | [],t,_=>rfl
 | s :: T,t,hn=>by
   show(if s.2=t.2 then _ else s :: addC T t)=_;have h0:s.2≠t.2:=hn 0 (by simp);rw [if_neg h0,Zxl (λj h=>hn (j+1) (by simpa using h))];rfl
theorem Zrx (T:QTs) (p:List Qt):(∃i,∃h:i < T.length,T[i].2=p∧∀j (h:j < T.length),j < i→T[j].2≠p)∨∀j (h:j < T.length),T[j].2≠p:=by
 induction T with
 | nil=>exact .inr λj h=>by simp at h
 | cons t T ih =>
   by_cases h:t.2=p
   ·exact .inl ⟨0,by simp,h,λj _ hj=>by omega⟩
   ·rcases ih with⟨i,hi,h1,h2⟩ | h2
    ·refine .inl ⟨i+1,by simpa using hi,h1,λj hj hji=>?_⟩
     cases j with
     | zero=>exact h
     | succ j=>exact h2 j (by simpa using hj) (by omega)
    ·refine .inr λj hj=>?_
     cases j with
     | zero=>exact h
     | succ j=>exact h2 j (by simpa using hj)
theorem exNew (σ:Mem) (KB KM:Nat) (hne:KM≠KB):ACall Tryz.prog 69 [] σ λr σ'=>∃g h,r=.pbox KB g 0∧σ'=upd (upd σ KM (some (.map h []))) KB (some (.box g 168 [.mp KM h,.v (.slice none 0 0)] false)):=by
 refine Zqf (args':=[]) Tryz.func69 rfl Tryz.ntmps69 Tryz.results69 Tryz.call69 (by rfl) (by simp) .nil ?_;have hL:∀k,lent σ (k+1000)=σ k:=λk=>by unfold lent;rw [if_neg (by omega),Nat.add_sub_cancel]
 generalize lent σ=m0 at *;(focus (refine wkad w_t w_t w_t ?_;(repeat' first|exact w_t|apply w_l);all_goals intros));simp (disch:=omega) only [go_sem];rename_i h g;refine⟨.pbox KB g 0,_,λk=>if k=KB then 3 else if k=KM then 1 else k+1000,Sub.pbox _ _ _ _,⟨g,h,rfl,rfl⟩,λk e hk=>?_,λk k' _ _ he=>?_⟩
 ·by_cases h1:k=KB
  ·subst h1;rw [Zac,if_pos rfl] at hk;injection hk with hk
   subst hk;refine⟨.box g 168 [.mp 1 h,.v (.slice none 0 0)] false,by simp (disch:=omega) only [go_sem,if_pos];rfl,EntSub.box rfl (λx hx=>?_) λj a b ha hb=>?_⟩
   ·simp only [List.mem_cons,List.not_mem_nil,or_false] at hx;rcases hx with rfl | rfl<;>rfl
   ·match j,ha,hb with
    | 0,ha,hb=>simp only [List.getElem?_cons_zero,Option.some.injEq] at ha hb;subst ha;subst hb;exact Sub.mp _ _ _
    | 1,ha,hb=>simp only [List.getElem?_cons_succ,List.getElem?_cons_zero,Option.some.injEq] at ha hb;subst ha;subst hb;exact Sub.refl _
    | j+2,ha,hb=>simp at ha
  ·rw [Zac,if_neg h1] at hk;simp only [if_neg h1];by_cases h2:k=KM
   ·subst h2;rw [Zac,if_pos rfl] at hk;injection hk with hk
    subst hk;simp only [if_true];exact⟨.map h [],by simp (disch:=omega) only [go_sem,if_pos,if_neg],EntSub.refl _⟩
   ·rw [Zac,if_neg h2] at hk;simp only [if_neg h2];exact⟨e,by rw [←hk,←hL k];simp (disch:=omega) only [go_sem,if_neg],EntSub.refl _⟩
 ·simp only at he;split at he<;>split at he<;>(try split at he)<;>(try split at he)<;>first|omega|(subst_vars;rfl)
theorem exAdd (σ:Mem) (KB KM KT g h:Nat) (sv:Value) (T:QTs) (a:Rat) (p:List Qt) {j k:Nat} (hB:σ KB=some (.box g 168 [.mp KM h,.own KT sv] false)) (hM:σ KM=some (.map h (mpE T))) (hT:σ KT=some (.row sv 49 4 (T.map qtA) 0))
 (n1:KB≠KM) (n2:KB≠KT) (n3:KM≠KT) (hl:T.length≤100000000) (hp:p.length≤1000) (b1:B8 T) (b2:∀q∈p,q.b8) (hs:∀t∈T,Sz t.1 j) (ha:Sz a k) (hj:j≤1000000) (hk:k≤1000000) :
 ACall Tryz.prog 74 [.pbox KB g 0,ratQ a,qsA p] σ λr σ'=>∃sv',r=.tup []∧σ'=upd (upd (upd σ KM (some (.map h (mpE (addC T (a,p)))))) KT (some (.row sv' 49 4 ((addC T (a,p)).map qtA) 0))) KB (some (.box g 168 [.mp KM h,.own KT sv'] false)):=by
 have mB:=Zck hB;have mM:=Zck hM;have mT:=Zck hT;simp only [Ent.sh,AV.shL,AV.sh] at mB mM mT;have ck:=exKey p hp;have hlT:(T.map qtA).length=T.length:=List.length_map ..;rcases Zrx T p with⟨i,hi,he,hf⟩ | hf
 ·have hget:Zhf (keyS p) (mpE T)=some (iv i):=by have:=Zpv hi 0 b1 b2 he hf;rwa [Nat.zero_add] at this
  have hadd:=Zxk (t:=(a,p)) hi he hf
  have hkeys:mpE (addC T (a,p))=mpE T:=by
   refine Zrl ?_ 0;rw [hadd,List.map_set];show(T.map _).set i T[i].2=_;rw [←List.getElem_map (f:=λt:Rat × List Qt=>t.2) (h:=by rw [List.length_map];exact hi)];exact List.set_getElem_self _
  have hgi:(T.map qtA).getD i .u=qtA T[i]:=Za0 qtA hi;have hst:(T.map qtA).set i (qtA (T[i].1+a,T[i].2))=(addC T (a,p)).map qtA:=by rw [hadd,List.map_set]
  have ca:=Zni T[i].1 a (hs _ (List.getElem_mem hi)) ha (by omega) (by omega);rw [hkeys];clear hs ha b1 b2 hf hadd hkeys;generalize T[i]=t at *;obtain⟨t1,t2⟩:=t;simp only at *;refine Zdl Tryz.func74 rfl Tryz.ntmps74 Tryz.results74 Tryz.call74 (by rfl) (by simp) ?_;generalize hRR:(addC T (a,p)).map qtA=R at *;generalize T.map qtA=TA at *;generalize mpE T=es at *;(focus (refine wkad (w_8 mB mM mT @Zcj @Zca hget hgi hlT) (w_2 ck ca) (w_1 (w_d 4 [(14,ratQ (t1+a))] [17] [])) ?_;(repeat' first|exact w_t|apply w_l);all_goals intros));simp (disch:=omega) only [go_sem];have e1:upd σ KM (some (.map h es))=σ:=Zf0 hM
  have e2:upd (upd σ KT (some (.row sv 49 4 R 0))) KB (some (.box g 168 [.mp KM h,.own KT sv] false))=upd σ KT (some (.row sv 49 4 R 0)):=Zf0 (by rw [Zac,if_neg n2];exact hB);refine Ztk (Sub.refl _) ⟨sv,rfl,rfl⟩ ?_;rw [e1,e2];exact((Agr.start σ).own (by omega)).put rfl (by rw [←hst];rfl)
 ·have hget:Zhf (keyS p) (mpE T)=none:=(Zjv 0 b1 b2 hf).1;have hput:∀x,Zhu (keyS p) x (mpE T)=mpE T++[(keyS p,x)]:=(Zjv 0 b1 b2 hf).2;have hadd:=Zxl (t:=(a,p)) hf;have hmp:mpE (addC T (a,p))=mpE T++[(keyS p,iv T.length)]:=by rw [hadd];show mpN _ 0=_;rw [Zv3,Nat.zero_add]
  have hrow:(addC T (a,p)).map qtA=T.map qtA++[.agg [.v (.bool (decide (a.num < 0))),lim (toL a.num.natAbs),lim (toL a.den),.sl 4 (p.map Qt.av)]]:=by rw [hadd,List.map_append];rfl
  rw [hmp,hrow];clear hs ha b1 b2 hf hadd hmp hrow;refine Zdl Tryz.func74 rfl Tryz.ntmps74 Tryz.results74 Tryz.call74 (by rfl) (by simp) ?_;generalize T.map qtA=TA at *;generalize mpE T=es at *
  (repeat' (first|((with_reducible apply gy5d);iterate 4 focus rfl)|(with_reducible first|refine stp ?_|apply gx1|apply gx2|apply gx3|apply gx4|apply gx5|apply gx6|apply gx7|apply gy8|apply gz2|apply gz3|refine gw0 (ck) ?_ ?_|refine gw3 (ck) ?_ ?_ ?_)|(with_reducible refine Zao ?_;intro _)|((with_reducible refine gE ?_);(try simp (disch:=omega) only [go_sem,mB,mM,mT,Zcj,Zca,hget,hput,hlT,decide_eq_true,decide_eq_false,if_pos,if_neg,Int.reduceAdd,Int.reduceSub,Int.reduceToNat,Int.zero_add])<;>first|rfl|omega)|with_reducible refine Zab (by decide) ?_|((with_reducible apply gy1);iterate 3 focus rfl)|((with_reducible apply gy2);iterate 3 focus rfl)|((with_reducible apply gy3);iterate 2 focus rfl)|((with_reducible apply gy4);iterate 1 focus rfl)|((with_reducible apply gy5);iterate 4 focus rfl)|((with_reducible apply gy5c);iterate 4 focus rfl)|((with_reducible apply gy6);iterate 4 focus rfl)|((with_reducible apply Za7);iterate 3 focus rfl)|((with_reducible apply Za6);iterate 1 focus rfl)|((with_reducible apply gy7);iterate 1 focus rfl)|((with_reducible apply gy9);(focus ((with_reducible refine gE ?_);(try simp (disch:=omega) only [go_sem,mB,mM,mT,Zcj,Zca,hget,hput,hlT,decide_eq_true,decide_eq_false,if_pos,if_neg,Int.reduceAdd,Int.reduceSub,Int.reduceToNat,Int.zero_add])<;>rfl)))|((with_reducible apply gz1);(focus first|rfl|(simp (disch:=omega) only [go_sem,mB,mM,mT,Zcj,Zca,hget,hput,hlT,decide_eq_true,decide_eq_false,if_pos,if_neg,Int.reduceAdd,Int.reduceSub,Int.reduceToNat,Int.zero_add];done)))|((with_reducible apply Zae (id:=5) (Zau []) [10] []);(focus kernel_rfl);(focus rfl);(focus kernel_rfl);(focus (simp only [List.length_cons,List.length_nil,Nat.reduceAdd];rfl)))|((with_reducible apply Zae (id:=6) (Zau []) [9,2009,12] []);(focus kernel_rfl);(focus rfl);(focus kernel_rfl);(focus (simp only [List.length_cons,List.length_nil,Nat.reduceAdd];rfl)))|((with_reducible first|apply Za1|apply Za3|apply Za2);all_goals (intro hc;(try simp only [bool_to_prop] at hc);try (exfalso;omega)))))
  simp (disch:=omega) only [go_sem];rename_i x1 x2 x3;refine Ztk (Sub.refl _) ⟨x3,rfl,rfl⟩ ?_;refine Agr.put ?_ rfl rfl;refine Agr.put ?_ rfl rfl;refine Agr.own ?_ (by omega);refine Agr.put ?_ rfl rfl;refine Agr.own ?_ (by omega);exact Agr.start σ
def nzT (T:QTs):QTs:=T.filter λt=>decide (t.1≠0)
theorem nzT_y {T:QTs} {i:Nat} (h:i < T.length) (h0:T[i].1≠0):nzT (T.take (i+1))=nzT (T.take i)++[T[i]]:=by
 unfold nzT;rw [List.take_add_one,List.getElem?_eq_getElem h,List.filter_append];show _++List.filter _ [T[i]]=_;rw [List.filter_cons,if_pos (decide_eq_true h0)];rfl
theorem nzT_n {T:QTs} {i:Nat} (h:i < T.length) (h0:T[i].1=0):nzT (T.take (i+1))=nzT (T.take i):=by
 unfold nzT;rw [List.take_add_one,List.getElem?_eq_getElem h,List.filter_append];show _++List.filter _ [T[i]]=_;rw [List.filter_cons,if_neg (by simp [h0])];simp
theorem nzT_len (T:QTs):(nzT T).length≤T.length:=List.length_filter_le _ _
theorem exExpr (σ:Mem) (KB KM KT KP g h:Nat) (sv:Value) (T:QTs) {j n:Nat} (hB:σ KB=some (.box g 168 [.mp KM h,.own KT sv] false)) (hT:σ KT=some (.row sv 49 4 (T.map qtA) 0))
 (hl:T.length≤100000000) (hd:Dst T) (hs:QK T j n) (hj:j≤1000000) (hn:n≤1000000) :
 ACall Tryz.prog 75 [.pbox KB g 0] σ λr σ'=>∃sv',r=.own KP sv'∧σ'=upd σ KP (some (.row sv' 49 4 ((srtQ ordT (nzT T)).map qtA) 0)):=by
 have mB:=Zck hB;have mT:=Zck hT;simp only [Ent.sh,AV.shL,AV.sh] at mB mT;have hlT:(T.map qtA).length=T.length:=List.length_map ..;have hg:∀i (h:i < T.length),(T.map qtA).getD i .u=qtA T[i]:=λi h=>Za0 qtA h;refine Zgk Tryz.func75 rfl Tryz.ntmps75 Tryz.results75 Tryz.call75 (by rfl) (by simp) ?_;have hL:∀k,Zds σ (k+1000)=(σ k).map Ent.sh:=Agr.start σ;have h0:∀k,k < 1000→Zds σ k=none:=λk hk=>Zcj hk;generalize Zds σ=m0 at *;generalize T.map qtA=A at *;(focus (refine wkad (w_3 mB mT hlT) w_t w_t ?_;(repeat' first|exact w_t|apply w_l);all_goals intros));refine Zej (Frz.nilOwn (d:=3) 22 4 49 (by exact gC)) ?_
 refine Zad (ι:=Nat) (λi e m=>i≤T.length∧e 9=.own (KT+1000) sv∧e 10=iv T.length∧e 11=iv i∧m (KT+1000)=some (.row sv 49 4 A 0)∧(∀k,m (k+1000)=m0 (k+1000))∧∃sv,e 3=.own 22 sv∧m 22=some (.row sv 49 4 ((nzT (T.take i)).map qtA) 0)) (λi=>T.length - i) 0 (by rfl) ?_ ?_
 ·rintro i e m ⟨hi,e9,e10,e11,mT,hm,sv',e3,m22⟩
  have hol:((nzT (T.take i)).map qtA).length≤100000000:=by rw [List.length_map];have:=nzT_len (T.take i);rw [List.length_take] at this;omega
  by_cases hlt:i < T.length
  ·have hgi:=hg i hlt;have ms:=hs _ (List.getElem_mem hlt);have hy:=nzT_y hlt;have hnn:=nzT_n hlt;clear hg hs;generalize T[i]=t at *;have cz:=Zed t.1 ms.1 (by omega);by_cases hz:t.1=0
   ·have hnz:=hnn hz;clear hnn;have hz2:t.1.num.sign=0:=by rw [Zdq];exact hz
    rw [hz2] at cz;clear hy ms hz2;obtain⟨t1,t2⟩:=t;simp only at *;generalize hO:(nzT (T.take i)).map qtA=O at *;generalize t2.map Qt.av=S2 at *;generalize toL t1.num.natAbs=a at *;generalize toL t1.den=b at *;(focus (refine wkad (w_8 e9 e10 e11 mT e3 m22 hlT hgi) (w_1 cz) w_t ?_;(repeat' first|exact w_t|apply w_l);all_goals intros));exact⟨i+1,⟨by omega,by exact gW e9,by exact gW e10,by exact gS,by(simp (disch:=omega) only [go_sem,mT]<;>repeat' first|rfl|refine⟨?_,?_⟩),λk=>by rw [←hm k];try simp (disch:=omega) [Zac,marks,mark],_,by exact gW e3,by rw [hnz,hO];exact gW m22⟩,by omega⟩
   ·have hy:=hy hz;have hz2:¬t.1.num.sign=0:=by rw [Zdq];exact hz
    have hmp:(nzT (T.take (i+1))).map qtA=(nzT (T.take i)).map qtA++[qtA t]:=by rw [hy,List.map_append];rfl
    clear hnn ms hy;obtain⟨t1,t2⟩:=t;simp only at *;generalize t1.num.sign=z at *;generalize (nzT (T.take i)).map qtA=O at *;have hmp:(nzT (T.take (i+1))).map qtA=O++[.agg [.v (.bool (decide (t1.num < 0))),lim (toL t1.num.natAbs),lim (toL t1.den),.sl 4 (t2.map Qt.av)]]:=hmp;have hgi:A.getD i .u=.agg [.v (.bool (decide (t1.num < 0))),lim (toL t1.num.natAbs),lim (toL t1.den),.sl 4 (t2.map Qt.av)]:=hgi;have cz:Pure Tryz.prog 40 [.agg [.v (.bool (decide (t1.num < 0))),lim (toL t1.num.natAbs),lim (toL t1.den)]] (iv z):=cz;generalize t2.map Qt.av=S2 at *;generalize toL t1.num.natAbs=a at *;generalize toL t1.den=b at *
    (focus (refine wkad (w_9 e9 e10 e11 mT e3 m22 hlT hgi hz2) (w_1 cz) w_t ?_;(repeat' first|exact w_t|apply w_l);all_goals intros));exact⟨i+1,⟨by omega,by exact gW e9,by exact gW e10,by exact gS,by(simp (disch:=omega) only [go_sem,mT]<;>repeat' first|rfl|refine⟨?_,?_⟩),λk=>by rw [←hm k];try simp (disch:=omega) [Zac,marks,mark],_,by exact gC,by rw [hmp];exact gC⟩,by omega⟩
  ·have hil:i=T.length:=by omega
   subst hil;rw [List.take_length] at m22 hol;rw [List.length_map] at hol;have hmem:∀t,t∈nzT T→t∈T:=λt ht=>(List.mem_filter.1 ht).1;have ci:=fun(m:Mem) h=>stSortN m 22 sv' (nzT T) h (by omega) (λt ht=>by have:=(hs t (hmem t ht)).2;omega) (hd.sublist List.filter_sublist);clear hg hs;(focus (refine wkad (w_7 e9 e10 e11 mT e3 m22 hlT) w_t w_t ?_;(repeat' first|exact w_t|apply w_l);all_goals intros));refine Zbj (ci _ (by exact gW m22)) ?_;(focus (refine wkad (w_1 e3) w_t w_t ?_;(repeat' first|exact w_t|apply w_l);all_goals intros));simp (disch:=omega) only [go_sem];refine Zh2 (σ:=σ) (r:=.own KP sv') 22 KP (by omega) (Sub.own _ _ _) ⟨sv',rfl,rfl⟩ ?_ ?_
   ·simp only [Zac,if_pos]
   ·intro k hk _;rw [Zac,if_neg (by omega),hm k,hL k,Zac,if_neg hk]
 ·exact⟨Nat.zero_le _,by exact gC,by exact gC,by exact gC,by(simp (disch:=omega) only [go_sem,mT]<;>repeat' first|rfl|refine⟨?_,?_⟩),λk=>by try simp (disch:=omega) [Zac,marks,mark],_,by exact gC,by exact gC⟩
attribute [local go_sem] Tryz.underlying253
theorem exGrow (σ:Mem) (KP n:Nat) (h0:0 < n) (hn:n≤2000000) :
 ACall Tryz.prog 238 [.v (.slice none 0 0),iv n] σ λr σ'=>∃sv L,r=.view KP sv 4 0 0∧σ'=upd σ KP (some (.row sv 25 4 L 0)):=by
 refine Zgk Tryz.func238 rfl Tryz.ntmps238 Tryz.results238 Tryz.call238 (by rfl) (by simp) ?_;have h1:¬((n:Nat):Int) < 0:=by omega
 have h2:(0:Int) < ((n:Nat):Int):=by omega
 have hm:∀k,Zds σ (k+1000)=(σ k).map Ent.sh:=λk=>by unfold Zds;rw [if_neg (by omega)];rfl
 generalize Zds σ=m0 at *;(focus (refine wkad (w_2 h1 h2) w_t w_t ?_;(repeat' first|exact w_t|apply w_l);all_goals intros));simp (disch:=omega) only [go_sem];rename_i sv;refine Zh2 (σ:=σ) (σ':=upd σ KP (some (.row sv 25 4 (List.replicate ((n:Int) - 0).toNat (.agg [iv 0,iv 0,iv 0,iv 0])) 0))) 22 KP (by omega) (Sub.view _ _ _ _ _ _) ⟨_,_,rfl,rfl⟩ ?_ ?_
 ·simp only [Zac,if_pos]
 ·intro k hk _;rw [Zac,if_neg (by omega),hm k,Zac,if_neg hk]
theorem exGrow0:Pure Tryz.prog 238 [.v (.slice none 0 0),iv 0] (.v (.slice none 0 0)):=by
 refine Zaa (tok:=0) Tryz.func238 rfl Tryz.ntmps238 Tryz.results238 Tryz.call238 (by rfl) (by simp) ?_;(focus (refine wkad w_t w_t w_t ?_;(repeat' first|exact w_t|apply w_l);all_goals intros));all_goals exact gL
theorem exConcat (σ:Mem) (KC KP:Nat) (svc:Value) (A B:List AV) (hC:σ KC=some (.row svc 47 1 [.sl 4 A,.sl 4 B] 0)) (hk:KC≠KP) (ha:A.length≤1000000) (hb:B.length≤1000000) :
 ACall Tryz.prog 163 [.own KC svc] σ λr σ'=>∃sv,r=.own KP sv∧σ'=upd σ KP (some (.row sv 25 4 (A++B) 0)):=by
 have mC:=Zck hC;simp only [Ent.sh,AV.shL,AV.sh] at mC;have hm:∀k,Zds σ (k+1000)=(σ k).map Ent.sh:=λk=>by unfold Zds;rw [if_neg (by omega)];rfl
 refine Zgk Tryz.func163 rfl Tryz.ntmps163 Tryz.results163 Tryz.call163 (by rfl) (by simp) ?_;generalize Zds σ=m0 at *;have h1:¬((A.length:Nat):Int) < 0:=by omega
 have h2:¬((A.length:Nat):Int)+(B.length:Int) < 0:=by omega
 have e1:(0:Int)+((A.length:Nat):Int)=(A.length:Int):=by omega
 have e2:((A.length:Nat):Int)+(B.length:Int)=((A.length+B.length:Nat):Int):=by omega
 by_cases hn:0 < A.length+B.length
 ·have cg:=fun(m:Mem)=>exGrow m 40 (A.length+B.length) hn (by omega);(focus (refine wkax (w_5 mC h1 h2 e1 e2) w_t w_t w_t w_t w_t (w_r 3) ?_;(repeat' first|exact w_t|apply w_l);all_goals intros));refine Zda (cg _) ?_
  rintro _ _ ⟨sv,L,rfl,rfl⟩
  have hz:(L.take 0++A)=A:=rfl;(focus (refine wkax (w_2 mC hz) w_t w_t w_t w_t w_t (w_r 3) ?_;(repeat' first|exact w_t|apply w_l);all_goals intros));simp (disch:=omega) only [go_sem];rename_i sv1 sv2;refine Zh2 (σ:=σ) (σ':=upd σ KP (some (.row sv2 25 4 (A++B) 0))) 40 KP (by omega) (Sub.own _ _ _) ⟨_,rfl,rfl⟩ ?_ ?_
  ·simp (disch:=omega) only [go_sem,if_pos]
  ·intro k hk _;rw [show upd σ KP (some (.row sv2 25 4 (A++B) 0)) k=σ k from by rw [Zac,if_neg hk],←hm k];simp (disch:=omega) only [go_sem]
 ·have hA:A=[]:=List.length_eq_zero_iff.1 (by omega);have hB:B=[]:=List.length_eq_zero_iff.1 (by omega);subst hA hB;have cg:=exGrow0;have e4:((0:Nat):Int)+((0:Nat):Int)=0:=rfl;have e5:(0:Int)+((0:Nat):Int)=((0:Nat):Int):=rfl;(focus (refine wkax (w_3 mC e4 e5) w_t w_t w_t w_t w_t (w_r 3) ?_;(repeat' first|exact w_t|apply w_l);all_goals intros));refine o_c cg rfl ?_;(focus (refine wkad (w_1 mC) w_t w_t ?_;(repeat' first|exact w_t|apply w_l);all_goals intros));refine Zej (Frz.nilOwn (d:=6) 40 4 25 (by exact gC)) ?_;(focus (refine wkax (w_1 mC) w_t w_t w_t w_t w_t (w_r 3) ?_;(repeat' first|exact w_t|apply w_l);all_goals intros))
  simp (disch:=omega) only [go_sem];rename_i sv1 sv2;refine Zh2 (σ:=σ) (σ':=upd σ KP (some (.row sv2 25 4 [] 0))) 40 KP (by omega) (Sub.own _ _ _) ⟨_,rfl,rfl⟩ ?_ ?_
  ·simp (disch:=omega) only [go_sem,if_pos]
  ·intro k hk _;rw [show upd σ KP (some (.row sv2 25 4 [] 0)) k=σ k from by rw [Zac,if_neg hk],←hm k];simp (disch:=omega) only [go_sem]
abbrev muQ (a b:List Qt):List Qt:=srtQ Qt.cmp (a++b)
theorem exTimes (a b:List Qt) (hm:a.length+b.length≤maxQ):Pure Tryz.prog 86 [qsA a,qsA b] (qsA (muQ a b)):=by
 have hM:=Zl7;have cs:=fun(m:Mem) (sv:Value) h=>qSort m 300 sv (a++b) h (by rw [List.length_append];exact hm);have cc:=fun(m:Mem) (svc:Value) h=>exConcat m 8 300 svc (a.map Qt.av) (b.map Qt.av) h (by omega) (by rw [List.length_map];omega) (by rw [List.length_map];omega);rw [←List.map_append] at cc;show Pure _ _ [.sl 4 (a.map Qt.av),.sl 4 (b.map Qt.av)] (.sl 4 ((muQ a b).map Qt.av));generalize (muQ a b).map Qt.av=R at *;generalize (a++b).map Qt.av=AB at *;generalize a.map Qt.av=A at *;generalize b.map Qt.av=B at *;refine Zaa (tok:=0) Tryz.func86 rfl Tryz.ntmps86 Tryz.results86 Tryz.call86 (by rfl) (by simp) ?_
 (focus (refine wkad w_t w_t w_t ?_;(repeat' first|exact w_t|apply w_l);all_goals intros));refine Zda (cc _ _ (by exact gC)) ?_
 rintro _ _ ⟨sv,rfl,rfl⟩
 (focus (refine wkad w_t w_t w_t ?_;(repeat' first|exact w_t|apply w_l);all_goals intros));refine Zbj (cs _ _ (by exact gC)) ?_;(focus (refine wkad w_t w_t w_t ?_;(repeat' first|exact w_t|apply w_l);all_goals intros));all_goals exact gL
end Go.Proofs.YtjekhacnoopdpaaGreatDoor
namespace Go.Proofs.YtjekhacnoopdpaaGreatDoor
attribute [-bool_to_prop] Bool.and_eq_decide Bool.or_eq_decide Bool.decide_beq_decide decide_eq_decide
section
open Go Go.RowKit Go.Pg
end
end Go.Proofs.YtjekhacnoopdpaaGreatDoor
namespace Go.Proofs.YtjekhacnoopdpaaGreatDoor
open Go Go.RowKit Go.Pg
attribute [-bool_to_prop] Bool.and_eq_decide Bool.or_eq_decide Bool.decide_beq_decide decide_eq_decide
theorem Zu4 {P:Program} {n:Nat} {Q:AE→St→Prop} {id:Nat} {ops:Array Oper} {st st':St} (h:Frz n st st') (k:Za4 P 0 n (.region id ops true) Q st'):Za4 P 0 n (.region id ops true) Q st:=λc a w imm hr=>by
 obtain⟨i,h1⟩:=h c a w imm hr;exact k c a w i h1
end Go.Proofs.YtjekhacnoopdpaaGreatDoor
namespace Go.Proofs.YtjekhacnoopdpaaGreatDoor
open Go Go.RowKit Go.Pg Go.Pol
attribute [-bool_to_prop] Bool.and_eq_decide Bool.or_eq_decide Bool.decide_beq_decide decide_eq_decide
attribute [local go_sem] Tryz.underlying3 Tryz.underlying4 Tryz.underlying169 Tryz.underlying41 Tryz.underlying43 Tryz.underlying45 Tryz.underlying25 Tryz.underlying47 Tryz.underlying49 Tryz.underlying22 Tryz.underlying23 sz3 by3 z3 szB zB Zbd zRat Zbf zInt Zbe zNat Zaj Zaw Zak Bool.and_self Zan Zbs zSlQ szQT byQT zQT Zby zSlT szQP zQP Tryz.underlying9 Tryz.underlying168 Tryz.underlying100 Tryz.underlying166 Zm3 Zin Zmx Zm4 Zcr zStr zSum zMap
theorem exAddO (σ:Mem) (KB KM KT KP g h:Nat) (sv svP:Value) (T:QTs) (a:Rat) (p:List Qt) {j k:Nat} (hB:σ KB=some (.box g 168 [.mp KM h,.own KT sv] false)) (hM:σ KM=some (.map h (mpE T))) (hT:σ KT=some (.row sv 49 4 (T.map qtA) 0)) (hP:σ KP=some (.row svP 25 4 (p.map Qt.av) 0)) (n4:KP≠KB) (n5:KP≠KM) (n6:KP≠KT)
 (n1:KB≠KM) (n2:KB≠KT) (n3:KM≠KT) (hl:T.length≤100000000) (hp:p.length≤1000) (b1:B8 T) (b2:∀q∈p,q.b8) (hs:∀t∈T,Sz t.1 j) (ha:Sz a k) (hj:j≤1000000) (hk:k≤1000000) :
 ACall Tryz.prog 74 [.pbox KB g 0,ratQ a,.own KP svP] σ λr σ'=>∃sv' eP,r=.tup []∧σ'=upd (upd (upd (upd σ KP eP) KM (some (.map h (mpE (addC T (a,p)))))) KT (some (.row sv' 49 4 ((addC T (a,p)).map qtA) 0))) KB (some (.box g 168 [.mp KM h,.own KT sv'] false)):=by
 have mB:=Zck hB;have mM:=Zck hM;have mT:=Zck hT;have mP:=Zck hP;simp only [Ent.sh,AV.shL,AV.sh] at mB mM mT mP;have ck:=exKey p hp;have ck:Pure Tryz.prog 150 [.sl 4 (p.map Qt.av)] (strA (keyS p)):=ck;have hlT:(T.map qtA).length=T.length:=List.length_map ..;rcases Zrx T p with⟨i,hi,he,hf⟩ | hf
 ·have hget:Zhf (keyS p) (mpE T)=some (iv i):=by have:=Zpv hi 0 b1 b2 he hf;rwa [Nat.zero_add] at this
  have hadd:=Zxk (t:=(a,p)) hi he hf
  have hkeys:mpE (addC T (a,p))=mpE T:=by
   refine Zrl ?_ 0;rw [hadd,List.map_set];show(T.map _).set i T[i].2=_;rw [←List.getElem_map (f:=λt:Rat × List Qt=>t.2) (h:=by rw [List.length_map];exact hi)];exact List.set_getElem_self _
  have hgi:(T.map qtA).getD i .u=qtA T[i]:=Za0 qtA hi;have hst:(T.map qtA).set i (qtA (T[i].1+a,T[i].2))=(addC T (a,p)).map qtA:=by rw [hadd,List.map_set]
  have ca:=Zni T[i].1 a (hs _ (List.getElem_mem hi)) ha (by omega) (by omega);rw [hkeys];clear hs ha b1 b2 hf hadd hkeys;generalize T[i]=t at *;obtain⟨t1,t2⟩:=t;simp only at *;refine Zdl Tryz.func74 rfl Tryz.ntmps74 Tryz.results74 Tryz.call74 (by rfl) (by simp) ?_;generalize hRR:(addC T (a,p)).map qtA=R at *;generalize T.map qtA=TA at *;generalize mpE T=es at *;generalize hPA:p.map Qt.av=PA at *
  (repeat' (first|(with_reducible first|refine stp ?_|apply gx1|apply gx2|apply gx3|apply gx4|apply gx5|apply gx6|apply gx7|apply gy8|apply gz2|apply gz3|apply gw2 (ck)|refine gw0 (ca) ?_ ?_|refine gw3 (ca) ?_ ?_ ?_)|(with_reducible refine Zao ?_;intro _)|((with_reducible refine gE ?_);(try simp (disch:=omega) only [go_sem,mB,mM,mT,mP,Zcj,Zca,hget,hgi,hlT,decide_eq_true,decide_eq_false,if_pos,if_neg,Int.reduceAdd,Int.reduceSub,Int.reduceToNat,Int.zero_add])<;>first|rfl|omega)|with_reducible refine Zab (by decide) ?_|((with_reducible apply gy1);iterate 3 focus rfl)|((with_reducible apply gy2);iterate 3 focus rfl)|((with_reducible apply gy3);iterate 2 focus rfl)|((with_reducible apply gy4);iterate 1 focus rfl)|((with_reducible apply gy5);iterate 4 focus rfl)|((with_reducible apply gy5c);iterate 4 focus rfl)|((with_reducible apply gy6);iterate 4 focus rfl)|((with_reducible apply Za7);iterate 3 focus rfl)|((with_reducible apply Za6);iterate 1 focus rfl)|((with_reducible apply gy7);iterate 1 focus rfl)|((with_reducible apply gy9);(focus ((with_reducible refine gE ?_);(try simp (disch:=omega) only [go_sem,mB,mM,mT,mP,Zcj,Zca,hget,hgi,hlT,decide_eq_true,decide_eq_false,if_pos,if_neg,Int.reduceAdd,Int.reduceSub,Int.reduceToNat,Int.zero_add])<;>rfl)))|((with_reducible apply gz1);(focus first|rfl|(simp (disch:=omega) only [go_sem,mB,mM,mT,mP,Zcj,Zca,hget,hgi,hlT,decide_eq_true,decide_eq_false,if_pos,if_neg,Int.reduceAdd,Int.reduceSub,Int.reduceToNat,Int.zero_add];done)))|((with_reducible apply Zae (id:=4) (Zau [(14,ratQ (t1+a))]) [17] []);(focus kernel_rfl);(focus rfl);(focus kernel_rfl);(focus (simp only [List.length_cons,List.length_nil,Nat.reduceAdd];rfl)))|((with_reducible first|apply Za1|apply Za3|apply Za2);all_goals (intro hc;(try simp only [bool_to_prop] at hc);try (exfalso;omega)))))
  simp (disch:=omega) only [go_sem];have e1:upd σ KM (some (.map h es))=σ:=Zf0 hM;have e2:upd (upd σ KT (some (.row sv 49 4 R 0))) KB (some (.box g 168 [.mp KM h,.own KT sv] false))=upd σ KT (some (.row sv 49 4 R 0)):=Zf0 (by rw [Zac,if_neg n2];exact hB);refine Ztk (Sub.refl _) ⟨sv,some (.row svP 25 4 PA 0),rfl,rfl⟩ ?_;have e0:upd σ KP (some (.row svP 25 4 PA 0))=σ:=Zf0 hP;rw [e0,e1,e2];exact((Agr.start σ).own (by omega)).put rfl (by rw [←hst];rfl)
 ·have hget:Zhf (keyS p) (mpE T)=none:=(Zjv 0 b1 b2 hf).1;have hput:∀x,Zhu (keyS p) x (mpE T)=mpE T++[(keyS p,x)]:=(Zjv 0 b1 b2 hf).2;have hadd:=Zxl (t:=(a,p)) hf;have hmp:mpE (addC T (a,p))=mpE T++[(keyS p,iv T.length)]:=by rw [hadd];show mpN _ 0=_;rw [Zv3,Nat.zero_add]
  have hrow:(addC T (a,p)).map qtA=T.map qtA++[.agg [.v (.bool (decide (a.num < 0))),lim (toL a.num.natAbs),lim (toL a.den),.sl 4 (p.map Qt.av)]]:=by rw [hadd,List.map_append];rfl
  rw [hmp,hrow];clear hs ha b1 b2 hf hadd hmp hrow;refine Zdl Tryz.func74 rfl Tryz.ntmps74 Tryz.results74 Tryz.call74 (by rfl) (by simp) ?_;generalize T.map qtA=TA at *;generalize mpE T=es at *;generalize hPA:p.map Qt.av=PA at *
  (repeat' (first|(with_reducible first|refine stp ?_|apply gx1|apply gx2|apply gx3|apply gx4|apply gx5|apply gx6|apply gx7|apply gy8|apply gz2|apply gz3|apply gw2 (ck))|(with_reducible refine Zao ?_;intro _)|((with_reducible refine gE ?_);(try simp (disch:=omega) only [go_sem,mB,mM,mT,mP,Zcj,Zca,hget,hput,hlT,decide_eq_true,decide_eq_false,if_pos,if_neg,Int.reduceAdd,Int.reduceSub,Int.reduceToNat,Int.zero_add])<;>first|rfl|omega)|with_reducible refine Zab (by decide) ?_|((with_reducible apply gy1);iterate 3 focus rfl)|((with_reducible apply gy2);iterate 3 focus rfl)|((with_reducible apply gy3);iterate 2 focus rfl)|((with_reducible apply gy4);iterate 1 focus rfl)|((with_reducible apply gy5);iterate 4 focus rfl)|((with_reducible apply gy5c);iterate 4 focus rfl)|((with_reducible apply gy6);iterate 4 focus rfl)|((with_reducible apply Za7);iterate 3 focus rfl)|((with_reducible apply Za6);iterate 1 focus rfl)|((with_reducible apply gy7);iterate 1 focus rfl)|((with_reducible apply gy9);(focus ((with_reducible refine gE ?_);(try simp (disch:=omega) only [go_sem,mB,mM,mT,mP,Zcj,Zca,hget,hput,hlT,decide_eq_true,decide_eq_false,if_pos,if_neg,Int.reduceAdd,Int.reduceSub,Int.reduceToNat,Int.zero_add])<;>rfl)))|((with_reducible apply gz1);(focus first|rfl|(simp (disch:=omega) only [go_sem,mB,mM,mT,mP,Zcj,Zca,hget,hput,hlT,decide_eq_true,decide_eq_false,if_pos,if_neg,Int.reduceAdd,Int.reduceSub,Int.reduceToNat,Int.zero_add];done)))|((with_reducible apply Zae (id:=4) (Zau []) [] []);(focus kernel_rfl);(focus rfl);(focus kernel_rfl);(focus (simp only [List.length_cons,List.length_nil,Nat.reduceAdd];rfl)))|((with_reducible first|apply Za1|apply Za3|apply Za2);all_goals (intro hc;(try simp only [bool_to_prop] at hc);try (exfalso;omega)))))
  refine Zu4 (Frz.own (d:=2) (k:=KP+1000) (sv:=svP) (ty:=25) (mm:=4) (es:=PA) (pub:=0) (by exact gC) (by(simp (disch:=omega) only [go_sem,mP]<;>repeat' first|rfl|refine⟨?_,?_⟩))) ?_
  (repeat' (first|((with_reducible apply gy5d);iterate 4 focus rfl)|(with_reducible first|refine stp ?_|apply gx1|apply gx2|apply gx3|apply gx4|apply gx5|apply gx6|apply gx7|apply gy8|apply gz2|apply gz3)|(with_reducible refine Zao ?_;intro _)|((with_reducible refine gE ?_);(try simp (disch:=omega) only [go_sem,mB,mM,mT,mP,Zcj,Zca,hget,hput,hlT,decide_eq_true,decide_eq_false,if_pos,if_neg,Int.reduceAdd,Int.reduceSub,Int.reduceToNat,Int.zero_add])<;>first|rfl|omega)|with_reducible refine Zab (by decide) ?_|((with_reducible apply gy1);iterate 3 focus rfl)|((with_reducible apply gy2);iterate 3 focus rfl)|((with_reducible apply gy3);iterate 2 focus rfl)|((with_reducible apply gy4);iterate 1 focus rfl)|((with_reducible apply gy5);iterate 4 focus rfl)|((with_reducible apply gy5c);iterate 4 focus rfl)|((with_reducible apply gy6);iterate 4 focus rfl)|((with_reducible apply Za7);iterate 3 focus rfl)|((with_reducible apply Za6);iterate 1 focus rfl)|((with_reducible apply gy7);iterate 1 focus rfl)|((with_reducible apply gy9);(focus ((with_reducible refine gE ?_);(try simp (disch:=omega) only [go_sem,mB,mM,mT,mP,Zcj,Zca,hget,hput,hlT,decide_eq_true,decide_eq_false,if_pos,if_neg,Int.reduceAdd,Int.reduceSub,Int.reduceToNat,Int.zero_add])<;>rfl)))|((with_reducible apply gz1);(focus first|rfl|(simp (disch:=omega) only [go_sem,mB,mM,mT,mP,Zcj,Zca,hget,hput,hlT,decide_eq_true,decide_eq_false,if_pos,if_neg,Int.reduceAdd,Int.reduceSub,Int.reduceToNat,Int.zero_add];done)))|((with_reducible apply Zae (id:=5) (Zau []) [10] []);(focus kernel_rfl);(focus rfl);(focus kernel_rfl);(focus (simp only [List.length_cons,List.length_nil,Nat.reduceAdd];rfl)))|((with_reducible apply Zae (id:=6) (Zau []) [9,2009,12] []);(focus kernel_rfl);(focus rfl);(focus kernel_rfl);(focus (simp only [List.length_cons,List.length_nil,Nat.reduceAdd];rfl)))|((with_reducible first|apply Za1|apply Za3|apply Za2);all_goals (intro hc;(try simp only [bool_to_prop] at hc);try (exfalso;omega)))))
  simp (disch:=omega) only [go_sem];rename_i x1 x2 x3;refine Ztk (Sub.refl _) ⟨x3,some (.row svP 25 4 PA PA.length),rfl,rfl⟩ ?_;refine Agr.put ?_ rfl rfl;refine Agr.put ?_ rfl rfl;refine Agr.own ?_ (by omega);refine Agr.put ?_ rfl rfl;rw [mP];refine Agr.put ?_ rfl rfl;refine Agr.own ?_ (by omega);exact Agr.start σ
def nsP (l:List Qt):List Qt:=l.map λq=>q.norm.1
abbrev accS (L:QTs):QTs:=L.foldl addC []
theorem sgP_ne {l:List Qt} (h:sgP l≠0):∀q∈l,q.norm.2≠0:=by
 have key:∀(l:List Qt) (s:Int),l.foldl (λs q=>s*q.norm.2) s≠0→s≠0∧∀q∈l,q.norm.2≠0:=by
  intro l
  induction l with
  | nil=>intro s h;exact⟨h,λq hq=>by cases hq⟩
  | cons a l ih =>
    intro s h;obtain⟨h1,h2⟩:=ih _ h;have ha:a.norm.2≠0:=λe=>h1 (by show s*a.norm.2=0;rw [e,Int.mul_zero]);have hs:s≠0:=λe=>h1 (by show s*a.norm.2=0;rw [e,Int.zero_mul]);exact⟨hs,λq hq=>by rcases List.mem_cons.1 hq with rfl | hq;exact ha;exact h2 q hq⟩
 exact(key l 1 h).2
theorem Zub {l:List Qt} (h:sgP l≠0):srtQ Qt.cmp (nsP l)=putP l:=by
 unfold putP;rw [Zof qtO];congr 1;unfold nzP nsP;rw [List.filter_eq_self.2 λq hq=>decide_eq_true (sgP_ne h q hq)]
theorem norm_b8 {q:Qt} (h:q.ok=true):q.norm.1.b8:=by
 have hb:=ok_b8 h;unfold Qt.b8 at hb;unfold Qt.norm Zju Zjt;rw [if_pos h]
 repeat' split
 all_goals (unfold Qt.b8;simp only;omega)
theorem Zvd {l:List Qt} (h:l.all Qt.ok=true):∀q∈putP l,q.b8:=by
 intro q hq;unfold putP at hq;have:=(Zex (cmp:=Qt.cmp) (nzP l) []).mem_iff.1 hq;rw [List.append_nil] at this;unfold nzP at this;obtain⟨x,hx,rfl⟩:=List.mem_map.1 this;exact norm_b8 (List.all_eq_true.1 h x (List.mem_filter.1 hx).1)
theorem Zou (L:QTs) (t:Rat × List Qt):accS (L++[t])=addC (accS L) t:=by unfold accS;rw [List.foldl_append];rfl
theorem Zsg (l:QTs) (t:Rat × List Qt):(addC l t).length≤l.length+1:=by
 induction l with
 | nil=>exact Nat.le_refl _
 | cons s l ih=>unfold addC;split<;>simp only [List.length_cons]<;>omega
theorem Zmu {l:QTs} {t u:Rat × List Qt} (h:u∈addC l t):u∈l∨u=t∨∃s∈l,u=(s.1+t.1,s.2):=by
 induction l with
 | nil=>exact .inr (.inl (List.mem_singleton.1 h))
 | cons s l ih =>
   unfold addC at h;split at h
   ·rcases List.mem_cons.1 h with rfl | h
    ·exact .inr (.inr ⟨s,.head _,rfl⟩)
    ·exact .inl (.tail _ h)
   ·rcases List.mem_cons.1 h with rfl | h
    ·exact .inl (.head _)
    ·rcases ih h with h | h | ⟨v,hv,e⟩
     ·exact .inl (.tail _ h)
     ·exact .inr (.inl h)
     ·exact .inr (.inr ⟨v,.tail _ hv,e⟩)
structure AccOk (S:QTs) (i j n:Nat):Prop where
 len:S.length≤i
 b8:B8 S
 qk:QK S (i*(j+2)) n
theorem AccOk.nil (j n:Nat):AccOk [] 0 j n:=⟨Nat.le_refl _,λt ht=>by(cases ht),λt ht=>by(cases ht)⟩
theorem AccOk.mono {S:QTs} {i k j n:Nat} (h:AccOk S i j n) (hk:i≤k):AccOk S k j n:=⟨Nat.le_trans h.len hk,h.b8,h.qk.mono (Nat.mul_le_mul_right _ hk) (Nat.le_refl _)⟩
theorem AccOk.add {S:QTs} {i j n:Nat} (h:AccOk S i j n) {t:Rat × List Qt} (h1:Sz t.1 j) (h2:t.2.length≤n) (h3:∀q∈t.2,q.b8):AccOk (addC S t) (i+1) j n:=by
 have e:(i+1)*(j+2)=i*(j+2)+(j+2):=Nat.succ_mul _ _;refine⟨Nat.le_trans (Zsg S t) (by have:=h.len;omega),λu hu=>?_,λu hu=>?_⟩
 ·rcases Zmu hu with hu | rfl | ⟨s,hs,rfl⟩
  ·exact h.b8 u hu
  ·exact h3
  ·exact h.b8 s hs
 ·rcases Zmu hu with hu | rfl | ⟨s,hs,rfl⟩
  ·exact⟨(h.qk u hu).1.mono (by omega),(h.qk u hu).2⟩
  ·exact⟨h1.mono (by omega),h2⟩
  ·exact⟨((h.qk s hs).1.add h1).mono (by omega),(h.qk s hs).2⟩
theorem acc_fin (L:QTs):srtQ ordT (nzT (accS (nzT L)))=gatM L:=by
 have h1:srtQ ordT (nzT (accS (nzT L)))=Go.Pol.sumC ordQ (nzT L):=rfl;rw [h1,Zlf Zcc];refine Zh6 Zcc.ko (Zld Zcc _) (Zld Zcc _) λx=>?_;rw [Zle Zcc,Zle Zcc];exact Zk5 L x
theorem Zu0 {z:Int} (h:z=-1∨z=0∨z=1):Pure Tryz.prog 57 [iv z] (ratQ (z:Rat)):=by
 rcases h with rfl | rfl | rfl
 ·exact ratOfM
 ·exact Znh 0 (by omega)
 ·exact Znh 1 (by omega)
theorem Zk4 (l:List RE) {J:Nat} (hl:l.length≤12) (hr:∀t∈l,t.r.lm J) (hq:∀t∈l,t.q.length≤12) (hJ:J≤1000):Pure Tryz.prog 22 [.sl 4 (l.map RE.av)] (nrmR l):=by
 have hlm:(l.map RE.av).length=l.length:=List.length_map ..;have hg:∀i (h:i < l.length),(l.map RE.av).getD i .u=RE.av l[i]:=λi h=>Za0 RE.av h;generalize l.map RE.av=A at *;refine Zaa (tok:=0) Tryz.func22 rfl Tryz.ntmps22 Tryz.results22 Tryz.call22 (by rfl) (by simp) ?_;(focus (refine wkad w_t w_t w_t ?_;(repeat' first|exact w_t|apply w_l);all_goals intros));refine Zda (exNew _ 200 201 (by omega)) ?_
 rintro _ _ ⟨g,h,rfl,rfl⟩
 (focus (refine wkad (w_1 hlm) w_t w_t ?_;(repeat' first|exact w_t|apply w_l);all_goals intros));refine Zej (Frz.nilBox (k:=200) 1 202 4 49 (by exact gC) rfl (by omega)) ?_;refine Zad (ι:=Nat) (λi e m=>i≤l.length∧(l.take i).all RE.ok=true∧AccOk (accS (nzT ((l.take i).map RE.t))) i (J+1) 12∧e 3=.pbox 200 g 0∧m 201=some (.map h (mpE (accS (nzT ((l.take i).map RE.t)))))∧(∃sv,m 200=some (.box g 168 [.mp 201 h,.own 202 sv] false)∧m 202=some (.row sv 49 4 ((accS (nzT ((l.take i).map RE.t))).map qtA) 0))∧e 13=.sl 4 A∧e 14=iv l.length∧e 15=iv i) (λi=>l.length - i) 0 (by rfl) ?_ ?_
 ·rintro i e m ⟨hi,ha,hacc,e3,m201,⟨sv,m200,m202⟩,e13,e14,e15⟩
  by_cases hlt:i < l.length
  ·have hgi:=hg i hlt;have hri:=hr _ (List.getElem_mem hlt);have hqi:=hq _ (List.getElem_mem hlt);have hta:(l.take (i+1)).map RE.t=(l.take i).map RE.t++[l[i].t]:=by rw [List.take_add_one,List.getElem?_eq_getElem hlt,List.map_append];rfl
   have hok:=Zgj (p:=RE.ok) hlt ha;have hbr:RE.ok l[i]=false→nrmR l=.v (.slice none 0 0):=λh=>by unfold nrmR;rw [Zja (p:=RE.ok) hlt h];rfl
   have hny:(l[i].t).1≠0→accS (nzT ((l.take (i+1)).map RE.t))=addC (accS (nzT ((l.take i).map RE.t))) l[i].t:=λh=>by
    rw [hta];unfold nzT;rw [List.filter_append];rw [show List.filter (λt:Rat × List Qt=>decide (t.1≠0)) [l[i].t]=[l[i].t] from by rw [List.filter_cons,if_pos (decide_eq_true h)];rfl];exact Zou _ _
   have hnn:(l[i].t).1=0→accS (nzT ((l.take (i+1)).map RE.t))=accS (nzT ((l.take i).map RE.t)):=λh=>by
    rw [hta];unfold nzT;rw [List.filter_append];rw [show List.filter (λt:Rat × List Qt=>decide (t.1≠0)) [l[i].t]=[] from by rw [List.filter_cons,if_neg (by simp [h])];rfl,List.append_nil]
   clear hg hr hq ha hta;generalize l[i]=t at *;generalize hNR:nrmR l=NR at *;generalize accS (nzT ((l.take i).map RE.t))=S at *;obtain⟨r,q⟩:=t;simp only at hri hqi;have hgi:A.getD i .u=.agg [.v (.bool r.s),lim r.l,lim r.d,.sl 4 (q.map Qt.av)]:=hgi;have crq:=rtRight r ⟨hri.1,hri.2.1,by have:=hri.2.2.1;omega,by have:=hri.2.2.2;omega⟩;have crq:Pure Tryz.prog 70 [.agg [.v (.bool r.s),lim r.l,lim r.d]] (.v (.bool r.ok)):=crq
   cases hro:r.ok with
   | false =>
     rw [hro] at crq;rw [hbr (by unfold RE.ok;rw [hro];rfl)];clear hbr hok hny hnn hacc;obtain⟨s,x,d⟩:=r;simp only at *;generalize q.map Qt.av=Q at *;(focus (refine wkad (w_9 e3 m200 m201 m202 e13 e14 e15 hlm hgi) (w_1 crq) w_t ?_;(repeat' first|exact w_t|apply w_l);all_goals intros));all_goals exact gL
   | true =>
     rw [hro] at crq;have hz:=(RQ.ok_av hri hro).2;have hre:=RQ.ok_eq hri hro;have hqm:(q.map Qt.av).length=q.length:=List.length_map ..;have hgq:∀k (h:k < q.length),(q.map Qt.av).getD k .u=Qt.av q[k]:=λk h=>Za0 Qt.av h;have hbq:∀k (h:k < q.length),Qt.ok q[k]=false→NR=.v (.slice none 0 0):=λk h h2=>hbr (by unfold RE.ok;rw [Zja (p:=Qt.ok) h h2,Bool.and_false]);have hqk:q.all Qt.ok=true→RE.ok ⟨r,q⟩=true:=λh=>by unfold RE.ok;rw [hro,h];rfl
     have het1:(RE.t ⟨r,q⟩).1=r.q*(sgP q:Rat):=rfl;have het:RE.t ⟨r,q⟩=(r.q*(sgP q:Rat),putP q):=rfl;rw [het] at hny;rw [het1] at hnn;clear het het1 hbr;generalize hx:r.q=x at *;subst hre;clear hro;simp only at *;generalize hQ:q.map Qt.av=Q at *;(focus (refine wkad (w_10 e3 m200 m201 m202 e13 e14 e15 hlm hgi hqm) (w_1 crq) w_t ?_;(repeat' first|exact w_t|apply w_l);all_goals intros));rename_i g5 g6 s28;clear crq;have hw0:x*((sgP (q.take 0):Int):Rat)=x:=by show x*((1:Int):Rat)=x;exact Rat.mul_one x
     refine Zad (ι:=Nat) (λk e m=>k≤q.length∧(q.take k).all Qt.ok=true∧(e 3=.pbox 200 g 0∧m 201=some (.map h (mpE S))∧m 200=some (.box g 168 [.mp 201 h,.own 202 sv] false)∧m 202=some (.row sv 49 4 (S.map qtA) 0))∧(e 13=.sl 4 A∧e 14=iv l.length∧e 15=iv i)∧(e 30=.sl 4 Q∧e 31=iv q.length∧e 32=iv k)∧(e 6=.pbox 6 g6 0∧m 6=some (.box g6 45 [.v (.bool (decide ((x*((sgP (q.take k):Int):Rat)).num < 0))),lim (toL (x*((sgP (q.take k):Int):Rat)).num.natAbs),lim (toL (x*((sgP (q.take k):Int):Rat)).den)] false))∧∃sv,e 7=.own 28 sv∧m 28=some (.row sv 25 4 ((nsP (q.take k)).map Qt.av) 0)) (λk=>q.length - k) 0 (by rfl) ?_ ?_
     ·rintro k e m ⟨hk,hak,⟨e3,m201,m200,m202⟩,⟨e13,e14,e15⟩,⟨e30,e31,e32⟩,⟨e6,m6⟩,s7,e7,m28⟩
      have hwz:Sz (x*((sgP (q.take k):Int):Rat)) (J+1):=hz.mul (Zm9 (Zna _));have hnl:((nsP (q.take k)).map Qt.av).length=k:=by unfold nsP;rw [List.length_map,List.length_map,List.length_take];omega
      by_cases hkt:k < q.length
      ·have hgk:=hgq k hkt;have hok2:=Zgj (p:=Qt.ok) hkt hak;have hbk:=hbq k hkt;have htk:q.take (k+1)=q.take k++[q[k]]:=by rw [List.take_add_one,List.getElem?_eq_getElem hkt];rfl
       have s1:x*((sgP (q.take (k+1)):Int):Rat)=x*((sgP (q.take k):Int):Rat)*(q[k].norm.2:Rat):=by rw [htk,Zqt,Rat.intCast_mul,Rat.mul_assoc]
       have s2:(nsP (q.take (k+1))).map Qt.av=(nsP (q.take k)).map Qt.av++[Qt.av q[k].norm.1]:=by rw [htk];unfold nsP;rw [List.map_append,List.map_append];rfl
       have hns:=Zia q[k];have c1:=Zpl q[k].k q[k].a q[k].b q[k].c;have c2:=Zu7 q[k].k q[k].a q[k].b q[k].c;have c3:=Zu0 hns;have c4:=Zip _ _ hwz (Zm9 hns) (by omega) (by omega);have c4:Pure Tryz.prog 38 [.agg [.v (.bool (decide ((x*((sgP (q.take k):Int):Rat)).num < 0))),lim (toL (x*((sgP (q.take k):Int):Rat)).num.natAbs),lim (toL (x*((sgP (q.take k):Int):Rat)).den)],ratQ (q[k].norm.2:Rat)] (ratQ (x*((sgP (q.take k):Int):Rat)*(q[k].norm.2:Rat))):=c4;rw [←s1] at c4;clear hgq hbq hqk hny hnn hok htk hak s1 hwz;generalize q[k]=y at *;generalize hW1:x*((sgP (q.take (k+1)):Int):Rat)=w1 at *
       generalize x*((sgP (q.take k):Int):Rat)=w0 at *;generalize (nsP (q.take k)).map Qt.av=PR at *;generalize toL w0.num.natAbs=wn at *;generalize toL w0.den=wd at *;generalize decide (w0.num < 0)=ws at *;generalize S.map qtA=SA at *;generalize mpE S=SM at *;generalize hn1:y.norm.1=nn at *;generalize hn2:y.norm.2=ns at *;obtain⟨y1,y2,y3,y4⟩:=y;simp only at *
       cases hyo:Qt.ok ⟨y1,y2,y3,y4⟩with
       | false =>
         rw [hyo] at c1;rw [hbk hyo];clear s2 c2 c3 c4 hok2 hbk;(focus (refine wkad (w_16 e3 m200 m201 m202 e13 e14 e15 e30 e31 e32 e6 m6 e7 m28 hqm hgk) (w_1 c1) w_t ?_;(repeat' first|exact w_t|apply w_l);all_goals intros));all_goals exact gL
       | true =>
         rw [hyo] at c1;have hok3:=hok2 hyo;clear hbk hok2;obtain⟨n1,n2,n3,n4⟩:=nn;(focus (refine wkad (w_17 e3 m200 m201 m202 e13 e14 e15 e30 e31 e32 e6 m6 e7 m28 hqm hgk hnl) (w_4 c1 c2 c3 c4) (w_1 (w_d 15 [(2,ratQ (ns:Rat)),(3,ratQ w1)] [4] [])) ?_;(repeat' first|exact w_t|apply w_l);all_goals intros));exact⟨k+1,⟨by omega,hok3,⟨by exact gW e3,by exact gW m201,by exact gW m200,by exact gW m202⟩,⟨by exact gW e13,by exact gW e14,by exact gW e15⟩,⟨by exact gW e30,by exact gW e31,by exact gS⟩,⟨by exact gW e6,by rw [hW1];exact gC⟩,_,by exact gC,by rw [s2];exact gC⟩,by omega⟩
      ·have hkl:k=q.length:=by omega
       subst hkl;rw [List.take_length] at hak m6 m28 hwz;have hok3:=hok (hqk hak);clear hgq hbq hqk hok;have cz:=Zed _ hwz (by omega);generalize hW:x*((sgP q:Int):Rat)=w at *;have cz:Pure Tryz.prog 40 [.agg [.v (.bool (decide (w.num < 0))),lim (toL w.num.natAbs),lim (toL w.den)]] (iv w.num.sign):=cz;by_cases hw:w=0
       ·have hnn:=hnn hw;have hz2:w.num.sign=0:=by rw [Zdq];exact hw
        rw [hz2] at cz;clear hny hz2;rw [←hnn] at hacc m201 m202;generalize toL w.num.natAbs=wn at *;generalize toL w.den=wd at *;generalize decide (w.num < 0)=ws at *;(focus (refine wkad (w_15 e3 m200 m201 m202 e13 e14 e15 e30 e31 e32 e6 m6 e7 m28 hqm) (w_1 cz) w_t ?_;(repeat' first|exact w_t|apply w_l);all_goals intros));exact⟨i+1,⟨by omega,hok3,hacc.mono (by omega),by exact gW e3,by exact gW m201,⟨sv,by exact gW m200,by exact gW m202⟩,by exact gW e13,by exact gW e14,by exact gS⟩,by omega⟩
       ·have hny:=hny hw;have hz2:¬w.num.sign=0:=by rw [Zdq];exact hw
        have hsg:sgP q≠0:=λe=>hw (by rw [←hW,e];exact Rat.mul_zero x);have hsr:=Zub hsg;have hpl:=Zlw q;have hacc2:=hacc.add (t:=(w,putP q)) hwz (by show(putP q).length≤12;omega) (Zvd hak);have hbb:=Zvd hak;have hSl:=hacc.len;have hSq:=λt ht=>(hacc.qk t ht).1;have hSb:=hacc.b8;have hJJ:i*(J+1+2)≤12*(J+1+2):=Nat.mul_le_mul_right _ (by omega);have ci:=fun(m:Mem) h=>qSort m 28 s7 (nsP q) h (by unfold nsP;rw [List.length_map];have:=Zp1;omega);rw [hsr] at ci;rw [←hny] at hacc2;clear hnn hsg hak hacc;have cad:=fun(m:Mem) a b c d=>exAddO m 200 201 202 28 g h sv s7 S w (putP q) a b c d (by omega) (by omega) (by omega) (by omega) (by omega) (by omega) (by omega) (by omega) hSb hbb hSq hwz (by omega) (by omega)
        rw [←hny] at cad;have cad:∀(m:Mem),m 200=some (.box g 168 [.mp 201 h,.own 202 sv] false)→m 201=some (.map h (mpE S))→m 202=some (.row sv 49 4 (S.map qtA) 0)→m 28=some (.row s7 25 4 ((putP q).map Qt.av) 0)→ACall Tryz.prog 74 [.pbox 200 g 0,.agg [.v (.bool (decide (w.num < 0))),lim (toL w.num.natAbs),lim (toL w.den)],.own 28 s7] m _:=cad;generalize w.num.sign=z at *;generalize toL w.num.natAbs=wn at *;generalize toL w.den=wd at *;generalize decide (w.num < 0)=ws at *;(focus (refine wkad (w_16 e3 m200 m201 m202 e13 e14 e15 e30 e31 e32 e6 m6 e7 m28 hqm hz2) (w_1 cz) w_t ?_;(repeat' first|exact w_t|apply w_l);all_goals intros))
        refine Zbj (ci _ (by exact gW m28)) ?_;(focus (refine wkad (w_11 e3 m200 m201 m202 e13 e14 e15 e6 m6 e7 hqm) w_t w_t ?_;(repeat' first|exact w_t|apply w_l);all_goals intros));refine Zda (cad _ (by exact gW m200) (by exact gW m201) (by exact gW m202) (by exact gC)) ?_
        rintro _ _ ⟨sv2,eP,rfl,rfl⟩
        (focus (refine wkad (w_4 e3 e13 e14 e15) w_t w_t ?_;(repeat' first|exact w_t|apply w_l);all_goals intros));exact⟨i+1,⟨by omega,hok3,hacc2,by exact gW e3,by exact gC,⟨sv2,by exact gC,by exact gC⟩,by exact gW e13,by exact gW e14,by exact gS⟩,by omega⟩
     ·exact⟨Nat.zero_le _,rfl,⟨by exact gW e3,by exact gW m201,by exact gW m200,by exact gW m202⟩,⟨by exact gW e13,by exact gW e14,by exact gW e15⟩,⟨by exact gC,by exact gW hqm,by exact gC⟩,⟨by exact gC,by rw [hw0];exact gC⟩,_,by exact gC,by exact gC⟩
  ·have hil:i=l.length:=by omega
   subst hil;rw [List.take_length] at ha hacc m201 m202;have hfin:nrmR l=.sl 4 ((srtQ ordT (nzT (accS (nzT (l.map RE.t))))).map qtA):=by unfold nrmR;rw [if_pos ha,acc_fin]
   have hlen:=hacc.len;have hJJ:l.length*(J+1+2)≤12*(J+1+2):=Nat.mul_le_mul_right _ hl;have ce:=fun(m:Mem) a b=>exExpr m 200 201 202 300 g h sv (accS (nzT (l.map RE.t))) a b (by omega) (Zey _ [] .nil) hacc.qk (by omega) (by omega);rw [hfin];clear hg hr hq ha hacc hfin;generalize accS (nzT (l.map RE.t))=S at *;generalize (srtQ ordT (nzT S)).map qtA=R at *;(focus (refine wkad (w_8 e3 m200 m201 m202 e13 e14 e15 hlm) w_t w_t ?_;(repeat' first|exact w_t|apply w_l);all_goals intros));refine Zvv (ce _ (by exact gW m200) (by exact gW m202)) ?_;intro sv3;(focus (refine wkad w_t w_t w_t ?_;(repeat' first|exact w_t|apply w_l);all_goals intros))
   all_goals exact gL
 ·refine⟨Nat.zero_le _,rfl,AccOk.nil _ _,by exact gC,by exact gC,⟨_,by exact gC,by exact gC⟩,by exact gC,by exact gW hlm,by exact gC⟩
end Go.Proofs.YtjekhacnoopdpaaGreatDoor
namespace Go.Proofs.YtjekhacnoopdpaaGreatDoor
open Go Go.RowKit Go.Pg
attribute [-bool_to_prop] Bool.and_eq_decide Bool.or_eq_decide Bool.decide_beq_decide decide_eq_decide
theorem szOpn:szOf Tryz.prog 113=some 1:=by kernel_rfl
theorem zOpn:Zav Tryz.prog 113=some (.agg #[.nilFunc]):=by kernel_rfl
theorem szFnR:szOf Tryz.prog 63=some 1:=by kernel_rfl
theorem zFnR:Zav Tryz.prog 63=some (.nilFunc):=by kernel_rfl
theorem undFnR:Tryz.prog.underlying 63=some (.func #[45,45] #[45] false):=by kernel_rfl
end Go.Proofs.YtjekhacnoopdpaaGreatDoor
namespace Go.Proofs.YtjekhacnoopdpaaGreatDoor
open Go Go.RowKit Go.Pg Go.Pol
attribute [-bool_to_prop] Bool.and_eq_decide Bool.or_eq_decide Bool.decide_beq_decide decide_eq_decide
attribute [local go_sem] Tryz.underlying3 Tryz.underlying4 Tryz.underlying169 Tryz.underlying41 Tryz.underlying43 Tryz.underlying45 Tryz.underlying25 Tryz.underlying47 Tryz.underlying49 Tryz.underlying22 Tryz.underlying23 sz3 by3 z3 szB zB Zbd zRat Zbf zInt Zbe zNat Zaj Zaw Zak Bool.and_self Zan Zbs zSlQ szQT byQT zQT Zby zSlT szQP zQP Tryz.underlying113 szOpn zOpn szFnR zFnR undFnR
abbrev subT (p q:QTs):QTs:=Zb4 p (q.map λt=>(-t.1,t.2))
structure OpF (f:Nat) (s:Rat):Prop where
 pm:s=1∨s=-1
 ct:∀(a b:Rat) {j k:Nat},Sz a j→Sz b k→j≤1000000→k≤1000000→Pure Tryz.prog f [ratQ a,ratQ b] (ratQ (a+s*b))
theorem opAdd:OpF 37 1:=⟨.inl rfl,λa b _ _ ha hb hj hk=>by rw [Rat.one_mul];exact Zni a b ha hb (by omega) (by omega)⟩
theorem opSub:OpF 102 (-1):=⟨.inr rfl,λa b _ _ ha hb hj hk=>by
 have:a+-1*b=a - b:=by grind
 rw [this];exact Zq5 a b ha hb (by omega) (by omega)⟩
def sclT (s:Rat) (q:QTs):QTs:=q.map λt=>(s*t.1,t.2)
theorem Zc5 (s:Rat) (q:QTs):(sclT s q).length=q.length:=List.length_map ..
theorem Zuh (s:Rat) (q:QTs) {i:Nat} (h:i < q.length):(sclT s q)[i]'(by rw [Zc5];exact h)=(s*q[i].1,q[i].2):=List.getElem_map ..
theorem Zwl (f:Nat) (s:Rat) (op:OpF f s) (p q:QTs) {j k n:Nat} (hp:QK p j n) (hq:QK q k n) (np:∀t∈p,t.1≠0) (nq:∀t∈q,t.1≠0) (lp:p.length≤100000000) (lq:q.length≤100000000) (hj:j≤900000) (hk:k≤900000) (hn:n≤1000000) :
 Pure Tryz.prog 85 [.agg [.fn f []],qpA p,qpA q] (qpA (Zb4 p (sclT s q))):=by
 have hz0:ratQ ((0:Nat):Rat)=.agg [.v (.bool false),lim [],lim (toL 1)]:=by
  show AV.agg [.v (.bool (decide ((0:Rat).num < 0))),lim (toL (0:Rat).num.natAbs),lim (toL (0:Rat).den)]=_;rw [show(0:Rat).num=0 from rfl,show(0:Rat).den=1 from rfl,show(0:Int).natAbs=0 from rfl,Zax];rfl
 have hz1:ratQ (0:Rat)=.agg [.v (.bool false),lim [],lim (toL 1)]:=hz0;have c0:Pure Tryz.prog 57 [iv 0] (.agg [.v (.bool false),lim [],lim (toL 1)]):=by rw [←hz0];exact Znh 0 (by omega)
 have sz0:Sz (0:Rat) 1:=Zm9 (.inr (.inl rfl));have hsn:s≠0:=by rcases op.pm with h | h<;>rw [h]<;>decide
 show Pure _ _ [.agg [.fn f []],.sl 4 (p.map qtA),.sl 4 (q.map qtA)] _;refine Zaa (tok:=0) Tryz.func85 rfl Tryz.ntmps85 Tryz.results85 Tryz.call85 (by rfl) (by simp) ?_;(focus (refine wkad w_t (w_1 c0) w_t ?_;(repeat' first|exact w_t|apply w_l);all_goals intros));rename_i g3 g8;generalize toL 1=one at *;refine Zej (Frz.nilOwn (d:=7) 79 4 49 (by exact gC)) ?_;refine Zad (ι:=Nat × Nat) (λx e m=>x.1≤p.length∧x.2≤q.length∧e 1=.sl 4 ((p.drop x.1).map qtA)∧e 2=.sl 4 ((q.drop x.2).map qtA)∧e 3=.pbox 3 g3 0∧m 3=some (.box g3 113 [.fn f []] false)∧e 8=.pbox 8 g8 0∧m 8=some (.box g8 45 [.v (.bool false),lim [],lim one] false)∧∃sv out,e 7=.own 79 sv∧m 79=some (.row sv 49 4 (out.map qtA) 0)∧out.length≤x.1+x.2∧Zb4 p (sclT s q)=out++Zb4 (p.drop x.1) ((sclT s q).drop x.2)) (λx=>p.length+q.length - (x.1+x.2)) (0,0) (by rfl) ?_ ?_
 ·rintro ⟨i,l⟩ e m ⟨hi,hl,e1,e2,e3,m3,e8,m8,sv,out,e7,m79,ho,hs⟩
  simp only at hi hl e1 e2 ho hs;have hlen:(out.map qtA).length=out.length:=List.length_map ..;by_cases hi2:i < p.length
  ·have hd:(p.drop i).map qtA=qtA p[i] :: (p.drop (i+1)).map qtA:=by rw [List.drop_eq_getElem_cons hi2];rfl
   have hdl:((p.drop (i+1)).map qtA).length=p.length - (i+1):=by rw [List.length_map,List.length_drop]
   have ms:=hp _ (List.getElem_mem hi2);have ns:=np _ (List.getElem_mem hi2);rw [hd] at e1;have hdp:=hd;clear hd;by_cases hl2:l < q.length
   ·have hd:(q.drop l).map qtA=qtA q[l] :: (q.drop (l+1)).map qtA:=by rw [List.drop_eq_getElem_cons hl2];rfl
    have hel:((q.drop (l+1)).map qtA).length=q.length - (l+1):=by rw [List.length_map,List.length_drop]
    have mt:=hq _ (List.getElem_mem hl2);have nt:=nq _ (List.getElem_mem hl2);have st:=Zoc (p:=p) (q:=sclT s q) hi2 (show l < (sclT s q).length by rw [Zc5];exact hl2);rw [Zuh s q hl2] at st;rw [hd] at e2;have hdq:=hd;clear hd hp hq np nq;generalize p[i]=u at *;generalize q[l]=v at *;have cl:=exCmpP u.2 v.2 (by have:=ms.2;omega) (by have:=mt.2;omega);have h3:=Znr u.2 v.2;have hou:∀x:Rat × List Qt,(out++[x]).map qtA=out.map qtA++[.agg [.v (.bool (decide (x.1.num < 0))),lim (toL x.1.num.natAbs),lim (toL x.1.den),.sl 4 (x.2.map Qt.av)]]:=λx=>by rw [List.map_append];rfl
    rw [st] at hs;clear st;have ca1:=op.ct u.1 0 ms.1 sz0 (by omega) (by omega);have ca2:=op.ct 0 v.1 sz0 mt.1 (by omega) (by omega);have ca3:=op.ct u.1 v.1 ms.1 mt.1 (by omega) (by omega);rw [show u.1+s*0=u.1 by rw [Rat.mul_zero,Rat.add_zero],hz1] at ca1;rw [show 0+s*v.1=s*v.1 by rw [Rat.zero_add],hz1] at ca2;have hpm:=op.pm;have zs1:=Zed u.1 ms.1 (by omega)
    have hsz:Sz (s*v.1) (k+1):=by
     rcases hpm with h | h
     ·rw [h,Rat.one_mul];exact mt.1.mono (by omega)
     ·rw [h,show -1*v.1=- v.1 by grind];exact mt.1.neg.mono (by omega)
    have zs2:=Zed (s*v.1) hsz (by omega);have zs3:=Zed (u.1+s*v.1) (ms.1.add hsz) (by omega);have nz1:¬u.1.num.sign=0:=by rw [Zdq];exact ns
    have nz2:¬(s*v.1).num.sign=0:=by rw [Zdq];exact λh=>by rcases Rat.mul_eq_zero.1 h with h | h;exact hsn h;exact nt h
    have hou1:=hou u;have hou2:=hou (s*v.1,v.2);have hou3:=hou (u.1+s*v.1,v.2);clear hou ms mt hsz hpm;obtain⟨u1,u2⟩:=u;obtain⟨v1,v2⟩:=v;simp only at *;have cl:Pure Tryz.prog 80 [.sl 4 (u2.map Qt.av),.sl 4 (v2.map Qt.av)] (iv (ordQ u2 v2)):=cl;have e1:e 1=.sl 4 (.agg [.v (.bool (decide (u1.num < 0))),lim (toL u1.num.natAbs),lim (toL u1.den),.sl 4 (u2.map Qt.av)] :: (p.drop (i+1)).map qtA):=e1;have hdp:(p.drop i).map qtA=.agg [.v (.bool (decide (u1.num < 0))),lim (toL u1.num.natAbs),lim (toL u1.den),.sl 4 (u2.map Qt.av)] :: (p.drop (i+1)).map qtA:=hdp;have e2:e 2=.sl 4 (.agg [.v (.bool (decide (v1.num < 0))),lim (toL v1.num.natAbs),lim (toL v1.den),.sl 4 (v2.map Qt.av)] :: (q.drop (l+1)).map qtA):=e2
    have hdq:(q.drop l).map qtA=.agg [.v (.bool (decide (v1.num < 0))),lim (toL v1.num.natAbs),lim (toL v1.den),.sl 4 (v2.map Qt.av)] :: (q.drop (l+1)).map qtA:=hdq;have ca1:Pure Tryz.prog f [.agg [.v (.bool (decide (u1.num < 0))),lim (toL u1.num.natAbs),lim (toL u1.den)],.agg [.v (.bool false),lim [],lim one]] (.agg [.v (.bool (decide (u1.num < 0))),lim (toL u1.num.natAbs),lim (toL u1.den)]):=ca1;have ca2:Pure Tryz.prog f [.agg [.v (.bool false),lim [],lim one],.agg [.v (.bool (decide (v1.num < 0))),lim (toL v1.num.natAbs),lim (toL v1.den)]] (ratQ (s*v1)):=ca2;have ca3:Pure Tryz.prog f [.agg [.v (.bool (decide (u1.num < 0))),lim (toL u1.num.natAbs),lim (toL u1.den)],.agg [.v (.bool (decide (v1.num < 0))),lim (toL v1.num.natAbs),lim (toL v1.den)]] (ratQ (u1+s*v1)):=ca3
    have zs1:Pure Tryz.prog 40 [.agg [.v (.bool (decide (u1.num < 0))),lim (toL u1.num.natAbs),lim (toL u1.den)]] (iv u1.num.sign):=zs1;rcases h3 with⟨h1,h2⟩ | ⟨h1,h2,h4⟩ | ⟨h1,h2,h4⟩
    ·rw [if_pos h2] at hs;rw [h1] at cl;clear ca2 ca3 zs2 zs3 nz2 hou2 hou3 h1 h2;generalize u1.num.sign=z at *;generalize hO:out.map qtA=O at *;generalize hPd:(p.drop (i+1)).map qtA=PD at *;have htp:PD.take (p.length - (i+1))=PD:=List.take_of_length_le (by omega);generalize hQd:(q.drop (l+1)).map qtA=QD at *;have htq:QD.take (q.length - (l+1))=QD:=List.take_of_length_le (by omega);generalize u2.map Qt.av=U2 at *;generalize v2.map Qt.av=V2 at *;(focus (refine wkax (w_14 e1 e2 e3 m3 e8 m8 e7 m79 hlen hdl hel htp htq nz1) (w_3 cl ca1 zs1) (w_3 (w_d 8 [(8,iv (-1))] [] []) (w_d 9 [] [] [10,11]) (w_d 12 [] [] [10])) w_t w_t w_t (w_r 0) ?_;(repeat' first|exact w_t|apply w_l);all_goals intros))
     refine⟨(i+1,l),⟨by simp only;omega,by simp only;omega,by rw [hPd];exact gC,by rw [hdq];exact gW e2,by exact gW e3,by exact gW m3,by exact gW e8,by exact gW m8,_,out++[(u1,u2)],by exact gC,by rw [hou1];exact gC,by simp only [List.length_append,List.length_cons,List.length_nil];omega,by rw [hs,List.append_assoc];rfl⟩,by simp only;omega⟩
    ·rw [if_neg h2,if_neg h4] at hs;have huv:u2=v2:=Zcc.eqz _ _ h1;rw [h1] at cl;clear ca1 ca2 zs1 zs2 nz1 nz2 hou1 hou2 h2 h4;by_cases hz:u1+s*v1=0
     ·rw [if_pos hz] at hs;have hz2:(u1+s*v1).num.sign=0:=by rw [Zdq];exact hz
      rw [hz2] at zs3;clear hou3 h1 huv hz hz2;generalize u1+s*v1=w at *;generalize hO:out.map qtA=O at *;generalize hPd:(p.drop (i+1)).map qtA=PD at *;have htp:PD.take (p.length - (i+1))=PD:=List.take_of_length_le (by omega);generalize hQd:(q.drop (l+1)).map qtA=QD at *;have htq:QD.take (q.length - (l+1))=QD:=List.take_of_length_le (by omega);generalize u2.map Qt.av=U2 at *;generalize v2.map Qt.av=V2 at *
      (repeat' (first|(with_reducible first|refine stp ?_|apply gx1|apply gx2|apply gx3|apply gx4|apply gx5|apply gx6|apply gx7|apply gy8|apply gz2|apply gz3|refine gw0 (cl) ?_ ?_|refine gw3 (cl) ?_ ?_ ?_|refine gw0 (ca3) ?_ ?_|refine gw3 (ca3) ?_ ?_ ?_|refine gw0 (zs3) ?_ ?_|refine gw3 (zs3) ?_ ?_ ?_)|(with_reducible refine Zao ?_;intro _)|((with_reducible refine gE ?_);(try simp (disch:=omega) only [go_sem,e1,e2,e3,m3,e8,m8,e7,m79,hlen,hdl,hel,htp,htq,decide_eq_true,decide_eq_false,if_pos,if_neg,Int.reduceAdd,Int.reduceSub,Int.reduceToNat,Int.zero_add])<;>first|rfl|omega)|with_reducible refine Zab (by decide) ?_|((with_reducible apply gy1);iterate 3 focus rfl)|((with_reducible apply gy2);iterate 3 focus rfl)|((with_reducible apply gy3);iterate 2 focus rfl)|((with_reducible apply gy4);iterate 1 focus rfl)|((with_reducible apply gy5);iterate 4 focus rfl)|((with_reducible apply gy5c);iterate 4 focus rfl)|((with_reducible apply gy6);iterate 4 focus rfl)|((with_reducible apply Za7);iterate 3 focus rfl)|((with_reducible apply Za6);iterate 1 focus rfl)|((with_reducible apply gy7);iterate 1 focus rfl)|((with_reducible apply gy9);(focus ((with_reducible refine gE ?_);(try simp (disch:=omega) only [go_sem,e1,e2,e3,m3,e8,m8,e7,m79,hlen,hdl,hel,htp,htq,decide_eq_true,decide_eq_false,if_pos,if_neg,Int.reduceAdd,Int.reduceSub,Int.reduceToNat,Int.zero_add])<;>rfl)))|((with_reducible apply gz1);(focus first|rfl|(simp (disch:=omega) only [go_sem,e1,e2,e3,m3,e8,m8,e7,m79,hlen,hdl,hel,htp,htq,decide_eq_true,decide_eq_false,if_pos,if_neg,Int.reduceAdd,Int.reduceSub,Int.reduceToNat,Int.zero_add];done)))|((with_reducible apply Zae (id:=8) (Zau [(8,iv 0)]) [] []);(focus kernel_rfl);(focus rfl);(focus kernel_rfl);(focus (simp only [List.length_cons,List.length_nil,Nat.reduceAdd];rfl)))|((with_reducible apply Zae (id:=9) (Zau []) [] [10,11]);(focus kernel_rfl);(focus rfl);(focus kernel_rfl);(focus (simp only [List.length_cons,List.length_nil,Nat.reduceAdd];rfl)))|((with_reducible apply Zae (id:=12) (Zau []) [] [10]);(focus kernel_rfl);(focus rfl);(focus kernel_rfl);(focus (simp only [List.length_cons,List.length_nil,Nat.reduceAdd];rfl)))|((with_reducible apply Zae (id:=14) (Zau []) [] [11]);(focus kernel_rfl);(focus rfl);(focus kernel_rfl);(focus (simp only [List.length_cons,List.length_nil,Nat.reduceAdd];rfl)))|((with_reducible first|apply Za1|apply Za3|apply Za2);all_goals (intro hc;(try simp only [bool_to_prop] at hc);try (exfalso;omega)))))
      refine⟨(i+1,l+1),⟨by simp only;omega,by simp only;omega,by rw [hPd];exact gC,by rw [hQd];exact gC,by exact gW e3,by exact gW m3,by exact gW e8,by exact gW m8,_,out,by exact gW e7,by rw [hO];exact gW m79,by simp only;omega,hs⟩,by simp only;omega⟩
     ·rw [if_neg hz] at hs;have hz2:¬(u1+s*v1).num.sign=0:=by rw [Zdq];exact hz
      have hs:Zb4 p (sclT s q)=out++(u1+s*v1,v2) :: Zb4 (p.drop (i+1)) ((sclT s q).drop (l+1)):=by rw [←huv];exact hs
      clear h1 huv hz;generalize (u1+s*v1).num.sign=z at *;generalize u1+s*v1=w at *;generalize hO:out.map qtA=O at *;generalize hPd:(p.drop (i+1)).map qtA=PD at *;have htp:PD.take (p.length - (i+1))=PD:=List.take_of_length_le (by omega);generalize hQd:(q.drop (l+1)).map qtA=QD at *;have htq:QD.take (q.length - (l+1))=QD:=List.take_of_length_le (by omega);generalize u2.map Qt.av=U2 at *;generalize v2.map Qt.av=V2 at *
      (repeat' (first|(with_reducible first|refine stp ?_|apply gx1|apply gx2|apply gx3|apply gx4|apply gx5|apply gx6|apply gx7|apply gy8|apply gz2|apply gz3|refine gw0 (cl) ?_ ?_|refine gw3 (cl) ?_ ?_ ?_|refine gw0 (ca3) ?_ ?_|refine gw3 (ca3) ?_ ?_ ?_|refine gw0 (zs3) ?_ ?_|refine gw3 (zs3) ?_ ?_ ?_)|(with_reducible refine Zao ?_;intro _)|((with_reducible refine gE ?_);(try simp (disch:=omega) only [go_sem,e1,e2,e3,m3,e8,m8,e7,m79,hlen,hdl,hel,htp,htq,hz2,decide_eq_true,decide_eq_false,if_pos,if_neg,Int.reduceAdd,Int.reduceSub,Int.reduceToNat,Int.zero_add])<;>first|rfl|omega)|with_reducible refine Zab (by decide) ?_|((with_reducible apply gy1);iterate 3 focus rfl)|((with_reducible apply gy2);iterate 3 focus rfl)|((with_reducible apply gy3);iterate 2 focus rfl)|((with_reducible apply gy4);iterate 1 focus rfl)|((with_reducible apply gy5);iterate 4 focus rfl)|((with_reducible apply gy5c);iterate 4 focus rfl)|((with_reducible apply gy6);iterate 4 focus rfl)|((with_reducible apply Za7);iterate 3 focus rfl)|((with_reducible apply Za6);iterate 1 focus rfl)|((with_reducible apply gy7);iterate 1 focus rfl)|((with_reducible apply gy9);(focus ((with_reducible refine gE ?_);(try simp (disch:=omega) only [go_sem,e1,e2,e3,m3,e8,m8,e7,m79,hlen,hdl,hel,htp,htq,hz2,decide_eq_true,decide_eq_false,if_pos,if_neg,Int.reduceAdd,Int.reduceSub,Int.reduceToNat,Int.zero_add])<;>rfl)))|((with_reducible apply gz1);(focus first|rfl|(simp (disch:=omega) only [go_sem,e1,e2,e3,m3,e8,m8,e7,m79,hlen,hdl,hel,htp,htq,hz2,decide_eq_true,decide_eq_false,if_pos,if_neg,Int.reduceAdd,Int.reduceSub,Int.reduceToNat,Int.zero_add];done)))|((with_reducible apply Zae (id:=8) (Zau [(8,iv 0)]) [] []);(focus kernel_rfl);(focus rfl);(focus kernel_rfl);(focus (simp only [List.length_cons,List.length_nil,Nat.reduceAdd];rfl)))|((with_reducible apply Zae (id:=9) (Zau []) [] [10,11]);(focus kernel_rfl);(focus rfl);(focus kernel_rfl);(focus (simp only [List.length_cons,List.length_nil,Nat.reduceAdd];rfl)))|((with_reducible apply Zae (id:=12) (Zau []) [] [10]);(focus kernel_rfl);(focus rfl);(focus kernel_rfl);(focus (simp only [List.length_cons,List.length_nil,Nat.reduceAdd];rfl)))|((with_reducible apply Zae (id:=14) (Zau []) [] [11]);(focus kernel_rfl);(focus rfl);(focus kernel_rfl);(focus (simp only [List.length_cons,List.length_nil,Nat.reduceAdd];rfl)))|((with_reducible first|apply Za1|apply Za3|apply Za2);all_goals (intro hc;(try simp only [bool_to_prop] at hc);try (exfalso;omega)))))
      refine⟨(i+1,l+1),⟨by simp only;omega,by simp only;omega,by rw [hPd];exact gC,by rw [hQd];exact gC,by exact gW e3,by exact gW m3,by exact gW e8,by exact gW m8,_,out++[(w,v2)],by exact gC,by rw [hou3];exact gC,by simp only [List.length_append,List.length_cons,List.length_nil];omega,by rw [hs,List.append_assoc];rfl⟩,by simp only;omega⟩
    ·rw [if_neg h2,if_pos h4] at hs;rw [h1] at cl;clear ca1 ca3 zs1 zs3 nz1 hou1 hou3 h1 h2 h4;generalize (s*v1).num.sign=z at *;generalize s*v1=w at *;generalize hO:out.map qtA=O at *;generalize hPd:(p.drop (i+1)).map qtA=PD at *;have htp:PD.take (p.length - (i+1))=PD:=List.take_of_length_le (by omega);generalize hQd:(q.drop (l+1)).map qtA=QD at *;have htq:QD.take (q.length - (l+1))=QD:=List.take_of_length_le (by omega);generalize u2.map Qt.av=U2 at *;generalize v2.map Qt.av=V2 at *;(focus (refine wkax (w_14 e1 e2 e3 m3 e8 m8 e7 m79 hlen hdl hel htp htq nz2) (w_3 cl ca2 zs2) (w_3 (w_d 8 [(8,iv 1)] [] []) (w_d 9 [] [] [10,11]) (w_d 14 [] [] [11])) w_t w_t w_t (w_r 0) ?_;(repeat' first|exact w_t|apply w_l);all_goals intros))
     refine⟨(i,l+1),⟨by simp only;omega,by simp only;omega,by rw [hdp];exact gW e1,by rw [hQd];exact gC,by exact gW e3,by exact gW m3,by exact gW e8,by exact gW m8,_,out++[(w,v2)],by exact gC,by rw [hou2];exact gC,by simp only [List.length_append,List.length_cons,List.length_nil];omega,by rw [hs,List.append_assoc];rfl⟩,by simp only;omega⟩
   ·have hl3:l=q.length:=by omega
    subst hl3;rw [Zer (.inr (by rw [Zc5];exact Nat.le_refl _)),List.drop_of_length_le (l:=sclT s q) (by rw [Zc5];exact Nat.le_refl _),List.append_nil,List.drop_eq_getElem_cons hi2] at hs
    have hs:Zb4 p (sclT s q)=(out++[p[i]])++Zb4 (p.drop (i+1)) ((sclT s q).drop q.length):=by
     rw [Zer (.inr (by rw [Zc5];exact Nat.le_refl _)),hs,List.drop_of_length_le (l:=sclT s q) (by rw [Zc5];exact Nat.le_refl _)];simp
    rw [show q.drop q.length=[] from List.drop_of_length_le (Nat.le_refl _)] at e2;have e2:e 2=.sl 4 []:=e2;have hq0:(q.drop q.length).map qtA=[]:=by rw [List.drop_of_length_le (Nat.le_refl _)];rfl
    clear hp hq np nq;generalize p[i]=u at *;have hou1:(out++[u]).map qtA=out.map qtA++[.agg [.v (.bool (decide (u.1.num < 0))),lim (toL u.1.num.natAbs),lim (toL u.1.den),.sl 4 (u.2.map Qt.av)]]:=by rw [List.map_append];rfl
    have ca1:=op.ct u.1 0 ms.1 sz0 (by omega) (by omega);rw [show u.1+s*0=u.1 by rw [Rat.mul_zero,Rat.add_zero],hz1] at ca1;have zs1:=Zed u.1 ms.1 (by omega);have nz1:¬u.1.num.sign=0:=by rw [Zdq];exact ns
    obtain⟨u1,u2⟩:=u;simp only at *;have e1:e 1=.sl 4 (.agg [.v (.bool (decide (u1.num < 0))),lim (toL u1.num.natAbs),lim (toL u1.den),.sl 4 (u2.map Qt.av)] :: (p.drop (i+1)).map qtA):=e1;have hdp:(p.drop i).map qtA=.agg [.v (.bool (decide (u1.num < 0))),lim (toL u1.num.natAbs),lim (toL u1.den),.sl 4 (u2.map Qt.av)] :: (p.drop (i+1)).map qtA:=hdp;have ca1:Pure Tryz.prog f [.agg [.v (.bool (decide (u1.num < 0))),lim (toL u1.num.natAbs),lim (toL u1.den)],.agg [.v (.bool false),lim [],lim one]] (.agg [.v (.bool (decide (u1.num < 0))),lim (toL u1.num.natAbs),lim (toL u1.den)]):=ca1;have zs1:Pure Tryz.prog 40 [.agg [.v (.bool (decide (u1.num < 0))),lim (toL u1.num.natAbs),lim (toL u1.den)]] (iv u1.num.sign):=zs1
    generalize u1.num.sign=z at *;generalize hO:out.map qtA=O at *;generalize hPd:(p.drop (i+1)).map qtA=PD at *;have htp:PD.take (p.length - (i+1))=PD:=List.take_of_length_le (by omega);generalize u2.map Qt.av=U2 at *;(focus (refine wkad (w_12 e1 e2 e3 m3 e8 m8 e7 m79 hlen hdl htp nz1) (w_2 ca1 zs1) (w_2 (w_d 9 [] [] [10,11]) (w_d 12 [] [] [10])) ?_;(repeat' first|exact w_t|apply w_l);all_goals intros));refine⟨(i+1,q.length),⟨by simp only;omega,by simp only;omega,by rw [hPd];exact gC,by rw [hq0];exact gW e2,by exact gW e3,by exact gW m3,by exact gW e8,by exact gW m8,_,out++[(u1,u2)],by exact gC,by rw [hou1];exact gC,by simp only [List.length_append,List.length_cons,List.length_nil];omega,hs⟩,by simp only;omega⟩
  ·have hi3:i=p.length:=by omega
   subst hi3;rw [show p.drop p.length=[] from List.drop_of_length_le (Nat.le_refl _)] at e1;have e1:e 1=.sl 4 []:=e1;have hp0:(p.drop p.length).map qtA=[]:=by rw [List.drop_of_length_le (Nat.le_refl _)];rfl
   by_cases hl2:l < q.length
   ·have hd:(q.drop l).map qtA=qtA q[l] :: (q.drop (l+1)).map qtA:=by rw [List.drop_eq_getElem_cons hl2];rfl
    have hel:((q.drop (l+1)).map qtA).length=q.length - (l+1):=by rw [List.length_map,List.length_drop]
    have mt:=hq _ (List.getElem_mem hl2);have nt:=nq _ (List.getElem_mem hl2);rw [hd] at e2;have hdq:=hd;have hsl:(sclT s q).drop l=(s*q[l].1,q[l].2) :: (sclT s q).drop (l+1):=by rw [List.drop_eq_getElem_cons (by rw [Zc5];exact hl2),Zuh s q hl2]
    rw [Zer (.inl (Nat.le_refl _)),List.drop_of_length_le (Nat.le_refl _),List.nil_append,hsl] at hs
    have hs:Zb4 p (sclT s q)=(out++[(s*q[l].1,q[l].2)])++Zb4 (p.drop p.length) ((sclT s q).drop (l+1)):=by
     rw [Zer (.inl (Nat.le_refl _)),hs,List.drop_of_length_le (l:=p) (Nat.le_refl _)];simp
    clear hd hsl hp hq np nq;generalize q[l]=v at *;have ca2:=op.ct 0 v.1 sz0 mt.1 (by omega) (by omega);rw [show 0+s*v.1=s*v.1 by rw [Rat.zero_add],hz1] at ca2;have hpm:=op.pm
    have hsz:Sz (s*v.1) (k+1):=by
     rcases hpm with h | h
     ·rw [h,Rat.one_mul];exact mt.1.mono (by omega)
     ·rw [h,show -1*v.1=- v.1 by grind];exact mt.1.neg.mono (by omega)
    have zs2:=Zed (s*v.1) hsz (by omega);have nz2:¬(s*v.1).num.sign=0:=by rw [Zdq];exact λh=>by rcases Rat.mul_eq_zero.1 h with h | h;exact hsn h;exact nt h
    have hou2:(out++[(s*v.1,v.2)]).map qtA=out.map qtA++[.agg [.v (.bool (decide ((s*v.1).num < 0))),lim (toL (s*v.1).num.natAbs),lim (toL (s*v.1).den),.sl 4 (v.2.map Qt.av)]]:=by rw [List.map_append];rfl
    clear mt nt hsz hpm;obtain⟨v1,v2⟩:=v;simp only at *;have e2:e 2=.sl 4 (.agg [.v (.bool (decide (v1.num < 0))),lim (toL v1.num.natAbs),lim (toL v1.den),.sl 4 (v2.map Qt.av)] :: (q.drop (l+1)).map qtA):=e2;have hdq:(q.drop l).map qtA=.agg [.v (.bool (decide (v1.num < 0))),lim (toL v1.num.natAbs),lim (toL v1.den),.sl 4 (v2.map Qt.av)] :: (q.drop (l+1)).map qtA:=hdq;have ca2:Pure Tryz.prog f [.agg [.v (.bool false),lim [],lim one],.agg [.v (.bool (decide (v1.num < 0))),lim (toL v1.num.natAbs),lim (toL v1.den)]] (ratQ (s*v1)):=ca2;generalize (s*v1).num.sign=z at *;generalize s*v1=w at *;generalize hO:out.map qtA=O at *
    generalize hQd:(q.drop (l+1)).map qtA=QD at *;have htq:QD.take (q.length - (l+1))=QD:=List.take_of_length_le (by omega);generalize v2.map Qt.av=V2 at *;(focus (refine wkad (w_12 e1 e2 e3 m3 e8 m8 e7 m79 hlen hel htq nz2) (w_2 ca2 zs2) (w_2 (w_d 9 [] [] [10,11]) (w_d 14 [] [] [11])) ?_;(repeat' first|exact w_t|apply w_l);all_goals intros));refine⟨(p.length,l+1),⟨by simp only;omega,by simp only;omega,by rw [hp0];exact gW e1,by rw [hQd];exact gC,by exact gW e3,by exact gW m3,by exact gW e8,by exact gW m8,_,out++[(w,v2)],by exact gC,by rw [hou2];exact gC,by simp only [List.length_append,List.length_cons,List.length_nil];omega,hs⟩,by simp only;omega⟩
   ·have hl3:l=q.length:=by omega
    subst hl3;rw [show q.drop q.length=[] from List.drop_of_length_le (Nat.le_refl _)] at e2;have e2:e 2=.sl 4 []:=e2;rw [Zer (.inl (Nat.le_refl _)),List.drop_of_length_le (Nat.le_refl _),List.drop_of_length_le (l:=sclT s q) (by rw [Zc5];exact Nat.le_refl _),List.append_nil,List.append_nil] at hs;rw [hs];clear hp hq np nq hs;generalize hO:out.map qtA=O at *;rw [show qpA out=.sl 4 O from congrArg _ hO];(focus (refine wkad (w_9 e1 e2 e3 m3 e8 m8 e7 m79 hlen) w_t w_t ?_;(repeat' first|exact w_t|apply w_l);all_goals intros));all_goals (all_goals (try simp (disch:=omega) only [go_sem,m79,decide_eq_true,decide_eq_false,if_pos,if_neg,Int.reduceAdd,Int.reduceSub,Int.reduceToNat,Int.zero_add]));(all_goals first|done|rfl|(congr 2;first|done|omega|(rw [Bool.eq_iff_iff];simp only [bool_to_prop,Bool.false_eq_true,iff_true,true_iff,iff_false,false_iff];omega))|skip)
 ·exact⟨Nat.zero_le _,Nat.zero_le _,by exact gC,by exact gC,by exact gC,by exact gC,by exact gC,by exact gC,_,[],by exact gC,by exact gC,Nat.zero_le _,by simp⟩
attribute [local go_sem] Tryz.underlying9 Tryz.underlying168 Tryz.underlying100 Tryz.underlying166 Zm3 Zin Zmx Zm4 Zcr zStr zSum zMap
def okQ (l:List Qt):Prop:=Asc Qt.cmp l∧∀q∈l,q.norm=(q,1)
theorem Zvy {q:Qt} (h:q.norm=(q,1)):q.ok=true:=by
 cases e:q.ok with
 | true=>rfl
 | false =>
   unfold Qt.norm at h;rw [e,if_neg (by simp)] at h;have:=congrArg Prod.snd h;simp at this
theorem okQ.b8 {l:List Qt} (h:okQ l):∀q∈l,q.b8:=λq hq=>ok_b8 (Zvy (h.2 q hq))
theorem rgQ:Go.Pol.RG okQ ordQ muQ [] where
 o:=Zcc
 comm a b:=Zhh qtO (Zc3 qtO.cp _) (Zc3 qtO.cp _) ((Zbt _).trans (List.perm_append_comm.trans (Zbt _).symm))
 assoc a b c:=Zhh qtO (Zc3 qtO.cp _) (Zc3 qtO.cp _) ((Zbt _).trans ((((Zbt _).append_right c).trans (by rw [List.append_assoc])).trans (((Zbt (b++c)).symm.append_left a).trans (Zbt _).symm)))
 one a ha:=Zhh qtO (Zc3 qtO.cp _) ha.1 (by show(srtQ Qt.cmp (a++[])).Perm a;rw [List.append_nil];exact Zbt _)
 cl a b ha hb:=⟨Zc3 qtO.cp _,λq hq=>by
  rcases List.mem_append.1 ((Zbt _).mem_iff.1 hq) with h | h
  ·exact ha.2 q h
  ·exact hb.2 q h⟩
 de:=⟨.nil,λq hq=>by cases hq⟩
abbrev EX (p:QTs):Prop:=SQ okQ ordQ p
abbrev mulX (p q:QTs):QTs:=mlG ordQ muQ p q
def XB (p:QTs) (k n:Nat):Prop:=EX p∧(∀t∈p,t.2.length≤n)∧∃D B,D≠0∧D < 65536 ^ k∧B < 65536 ^ k∧NB D B p
theorem XB.mono {p:QTs} {k n j m:Nat} (h:XB p k n) (hk:k≤j) (hn:n≤m):XB p j m:=by
 obtain⟨a,b,D,B,c,d,e,f⟩:=h;have hp:65536 ^ k≤65536 ^ j:=Nat.pow_le_pow_right (by omega) hk;exact⟨a,λt ht=>Nat.le_trans (b t ht) hn,D,B,c,by omega,by omega,f⟩
theorem XB.qk {p:QTs} {k n:Nat} (h:XB p k n):QK p (k+k) n:=by
 obtain⟨a,b,D,B,c,d,e,f⟩:=h;exact nb_qk f c d e b
theorem XB.nz {p:QTs} {k n:Nat} (h:XB p k n):∀t∈p,t.1≠0:=λt ht=>(h.1.1 t ht).1
theorem mu_len (a b:List Qt):(muQ a b).length=a.length+b.length:=by rw [srtQ_len,List.length_append]
theorem Zjp {p q:QTs} {m n:Nat} (hp:∀t∈p,t.2.length≤m) (hq:∀t∈q,t.2.length≤n):∀t∈prodL muQ p q,t.2.length≤m+n:=λu hu=>by
 obtain⟨s,hs,t,ht,rfl⟩:=Zhq hu;show(muQ s.2 t.2).length≤_;rw [mu_len];have:=hp s hs;have:=hq t ht;omega
theorem XB.mul {p q:QTs} {j k m n:Nat} (hp:XB p j m) (hq:XB q k n):XB (mulX p q) (j+k) (m+n):=by
 obtain⟨a,b,D,B,c,d,e,f⟩:=hp;obtain⟨a',b',D',B',c',d',e',f'⟩:=hq;refine⟨Zbl rgQ a a',Zmf (Zjp b b'),D*D',B*B',Nat.mul_ne_zero c c',?_,?_,(f.prodL f').sumG⟩
 ·rw [Nat.pow_add];exact Nat.mul_lt_mul_of_lt_of_lt d d'
 ·rw [Nat.pow_add];exact Nat.mul_lt_mul_of_lt_of_lt e e'
theorem XB.add {p q:QTs} {j k m n:Nat} (hp:XB p j m) (hq:XB q k n):XB (Zb4 p q) (j+k+1) (max m n):=by
 obtain⟨a,b,D,B,c,d,e,f⟩:=hp;obtain⟨a',b',D',B',c',d',e',f'⟩:=hq;have h1:65536 ^ j≤65536 ^ (j+k):=Nat.pow_le_pow_right (by omega) (by omega);have h2:65536 ^ k≤65536 ^ (j+k):=Nat.pow_le_pow_right (by omega) (by omega);have h3:65536 ^ (j+k+1)=65536 ^ (j+k)*65536:=Nat.pow_succ ..;have h4:D*D' < 65536 ^ (j+k):=by rw [Nat.pow_add];exact Nat.mul_lt_mul_of_lt_of_lt d d'
 refine⟨Zig Zcc a a',λt ht=>?_,D*D',B+B',Nat.mul_ne_zero c c',by omega,by omega,(f.mono (Nat.dvd_mul_right ..) (Nat.le_refl _)).addP (f'.mono (Nat.dvd_mul_left ..) (Nat.le_refl _))⟩;rcases Zhv ht with h | h | ⟨s,hs,u,hu,rfl⟩
 ·exact Nat.le_trans (b t h) (Nat.le_max_left ..)
 ·exact Nat.le_trans (b' t h) (Nat.le_max_right ..)
 ·exact Nat.le_trans (b s hs) (Nat.le_max_left ..)
theorem Zfm (p q:QTs):(mulX p q).length≤p.length*q.length:=by
 have:∀l:QTs,(gatM l).length≤l.length:=λl=>by
  obtain⟨j,hj⟩:∃j,QK l j ((l.map λt=>t.2.length).sum):=by
   induction l with
   | nil=>exact⟨0,λt ht=>by cases ht⟩
   | cons a l ih =>
     obtain⟨j,hj⟩:=ih;refine⟨max j (max (toL a.1.num.natAbs).length (toL a.1.den).length),λt ht=>?_⟩;rw [List.map_cons,List.sum_cons];rcases List.mem_cons.1 ht with rfl | ht
     ·exact⟨⟨by omega,by omega⟩,by omega⟩
     ·exact⟨(hj t ht).1.mono (by omega),by have:=(hj t ht).2;omega⟩
  exact(Zk2 _ l rfl hj).2
 have h:=this (prodL muQ p q)
 rwa [Zhr] at h
theorem Zlz {mu:List Qt→List Qt→List Qt} {q:QTs}:∀{p:QTs} {i j:Nat} (hi:i < p.length) (hj:j < q.length),(prodL mu p q)[i*q.length+j]?=some (p[i].1*q[j].1,mu p[i].2 q[j].2)
 | a :: p,0,j,_,hj=>by
   rw [Ze3,List.getElem?_append_left (by rw [List.length_map];omega),Nat.zero_mul,Nat.zero_add,List.getElem?_map,List.getElem?_eq_getElem hj];rfl
 | a :: p,i+1,j,hi,hj=>by
   rw [Ze3,List.getElem?_append_right (by rw [List.length_map,Nat.succ_mul];omega),List.length_map,show(i+1)*q.length+j - q.length=i*q.length+j by rw [Nat.succ_mul];omega];exact Zlz (by simpa using hi) hj
theorem Zjc {α:Type} {l:List α} {c:Nat} {x:α} (h:l[c]?=some x):l.take (c+1)=l.take c++[x]:=by
 rw [List.take_add_one,h];rfl
theorem acc_nb {D:Nat} (L:QTs):∀{B C:Nat} (acc:QTs),NB D B acc→NB D C L→NB D (B+C) (L.foldl addC acc):=by
 induction L with
 | nil=>intro B C acc h _;exact h.mono (Nat.dvd_refl _) (Nat.le_add_right _ _)
 | cons t L ih =>
   intro B C acc h k;have h1:=h.addC (C:=cl t.1) (k.1 t (.head _)) (Nat.le_refl _);have h2:NB D (C - cl t.1) L:=⟨λu hu=>k.1 u (.tail _ hu),by have:=k.2;rw [Zbk] at this;omega⟩;have h3:cl t.1≤C:=by have:=k.2;rw [Zbk] at this;omega
   exact(ih _ h1 h2).mono (Nat.dvd_refl _) (by omega)
theorem Zxn {P:List Qt→Prop} (L:QTs):∀(acc:QTs),(∀t∈acc,P t.2)→(∀t∈L,P t.2)→∀t∈L.foldl addC acc,P t.2:=by
 induction L with
 | nil=>intro acc h _;exact h
 | cons s L ih =>
   intro acc h k;refine ih _ (λt ht=>?_) λt ht=>k t (.tail _ ht);rcases Zmu ht with h1 | rfl | ⟨v,hv,rfl⟩
   ·exact h t h1
   ·exact k _ (.head _)
   ·exact h v hv
theorem acc_len (L:QTs):∀(acc:QTs),(L.foldl addC acc).length≤acc.length+L.length:=by
 induction L with
 | nil=>intro acc;exact Nat.le_refl _
 | cons s L ih =>
   intro acc;refine Nat.le_trans (ih _) ?_;have:=Zsg acc s;rw [List.length_cons];omega
theorem mul_fin (L:QTs):srtQ ordT (nzT (accS L))=gatM L:=Zlf Zcc L
theorem Zwk (p q:QTs) {j k m n:Nat} (hp:XB p j m) (hq:XB q k n) (hmn:m+n≤maxQ) (hl:p.length*q.length≤100000000) (hpl:p.length≤100000000) (hql:q.length≤100000000) (hj:j≤100000) (hk:k≤100000):Pure Tryz.prog 35 [qpA p,qpA q] (qpA (mulX p q)):=by
 have hM:=Zl7;have hpm:(p.map qtA).length=p.length:=List.length_map ..;have hqm:(q.map qtA).length=q.length:=List.length_map ..;have gp:∀i (h:i < p.length),(p.map qtA).getD i .u=qtA p[i]:=λi h=>Za0 qtA h;have gq:∀i (h:i < q.length),(q.map qtA).getD i .u=qtA q[i]:=λi h=>Za0 qtA h;have kp:=hp.qk;have kq:=hq.qk;have hop:∀t∈p,okQ t.2:=hp.1.dom;have hoq:∀t∈q,okQ t.2:=hq.1.dom
 have hacc:∀c,c≤p.length*q.length→QK (accS ((prodL muQ p q).take c)) (j+k+(j+k)) (m+n)∧B8 (accS ((prodL muQ p q).take c))∧(accS ((prodL muQ p q).take c)).length≤100000000:=by
  intro c hc;obtain⟨a,b,D,B,c1,d,e,f⟩:=hp;obtain⟨a',b',D',B',c',d',e',f'⟩:=hq;have hn:=acc_nb ((prodL muQ p q).take c) [] (NB.nil _ 0) ((f.prodL f').take c);rw [Nat.zero_add] at hn;have hmem:∀t∈(prodL muQ p q).take c,t.2.length≤m+n∧okQ t.2:=λt ht=>by
   have ht:=List.mem_of_mem_take ht;refine⟨Zjp b b' t ht,?_⟩;obtain⟨s,hs,u,hu,rfl⟩:=Zhq ht;exact rgQ.cl _ _ (hop s hs) (hoq u hu)
  refine⟨nb_qk hn (Nat.mul_ne_zero c1 c') (by rw [Nat.pow_add];exact Nat.mul_lt_mul_of_lt_of_lt d d') (by rw [Nat.pow_add];exact Nat.mul_lt_mul_of_lt_of_lt e e') ?_,?_,?_⟩
  ·exact Zxn (P:=λx=>x.length≤m+n) _ [] (λt ht=>by cases ht) λt ht=>(hmem t ht).1
  ·exact Zxn (P:=λx=>∀q∈x,q.b8) _ [] (λt ht=>by cases ht) λt ht=>(hmem t ht).2.b8
  ·refine Nat.le_trans (acc_len _ _) ?_;rw [List.length_nil,List.length_take,Zhr];omega
 have hstep:∀i l (h1:i < p.length) (h2:l < q.length),accS ((prodL muQ p q).take (i*q.length+l+1))=addC (accS ((prodL muQ p q).take (i*q.length+l))) (p[i].1*q[l].1,muQ p[i].2 q[l].2):=λi l h1 h2=>by
  rw [Zjc (Zlz h1 h2)];exact Zou _ _
 have hfin:mulX p q=srtQ ordT (nzT (accS ((prodL muQ p q).take (p.length*q.length)))):=by
  rw [mul_fin,List.take_of_length_le (by rw [Zhr];exact Nat.le_refl _)];rfl
 have hdst:Dst (accS ((prodL muQ p q).take (p.length*q.length))):=Zey _ [] .nil;have hac0:accS ((prodL muQ p q).take 0)=[]:=by rw [List.take_zero];rfl
 have hq0:∀t∈q,t.2.length≤n:=λt ht=>(kq t ht).2;rw [hfin];clear hfin hp hq;generalize hPR:(λc=>accS ((prodL muQ p q).take c))=PR at *;have hPR:∀c,accS ((prodL muQ p q).take c)=PR c:=λc=>by rw [←hPR]
 simp only [hPR] at hacc hstep hdst hac0 ⊢;clear hPR;show Pure _ _ [.sl 4 (p.map qtA),.sl 4 (q.map qtA)] (.sl 4 ((srtQ ordT (nzT (PR (p.length*q.length)))).map qtA));generalize p.map qtA=A at *;generalize q.map qtA=B at *;refine Zaa (tok:=0) Tryz.func35 rfl Tryz.ntmps35 Tryz.results35 Tryz.call35 (by rfl) (by simp) ?_;(focus (refine wkad w_t w_t w_t ?_;(repeat' first|exact w_t|apply w_l);all_goals intros));refine Zda (exNew _ 200 201 (by omega)) ?_
 rintro _ _ ⟨g,h,rfl,rfl⟩
 (focus (refine wkad (w_1 hpm) w_t w_t ?_;(repeat' first|exact w_t|apply w_l);all_goals intros));refine Zej (Frz.nilBox (k:=200) 1 202 4 49 (by exact gC) rfl (by omega)) ?_;refine Zad (ι:=Nat) (λi e M=>i≤p.length∧e 1=.sl 4 B∧e 5=.pbox 200 g 0∧M 201=some (.map h (mpE (PR (i*q.length))))∧(∃sv,M 200=some (.box g 168 [.mp 201 h,.own 202 sv] false)∧M 202=some (.row sv 49 4 ((PR (i*q.length)).map qtA) 0))∧e 11=.sl 4 A∧e 12=iv p.length∧e 13=iv i) (λi=>p.length - i) 0 (by rfl) ?_ ?_
 ·rintro i e M ⟨hi,e1,e5,m201,⟨sv,m200,m202⟩,e11,e12,e13⟩
  by_cases hlt:i < p.length
  ·have gpi:=gp i hlt;have kpi:=kp _ (List.getElem_mem hlt);have hsti:=λl h2=>hstep i l hlt h2;have hopi:=hop _ (List.getElem_mem hlt);have hci:∀l,l≤q.length→i*q.length+l≤p.length*q.length:=λl h=>by
    have:=Nat.mul_le_mul_right q.length (show i+1≤p.length from hlt);rw [Nat.succ_mul] at this;omega
   have hsucc:(i+1)*q.length=i*q.length+q.length:=Nat.succ_mul ..;clear gp kp hstep hop;generalize p[i]=u at *;generalize i*q.length=ci at *;obtain⟨u1,u2⟩:=u;simp only at kpi hsti hopi;have gpi:A.getD i .u=.agg [.v (.bool (decide (u1.num < 0))),lim (toL u1.num.natAbs),lim (toL u1.den),.sl 4 (u2.map Qt.av)]:=gpi;have cm0:=fun(v:Rat) (hv:Sz v (k+k))=>Zip u1 v kpi.1 hv (by omega) (by omega);have cm0:∀v:Rat,Sz v (k+k)→Pure Tryz.prog 38 [.agg [.v (.bool (decide (u1.num < 0))),lim (toL u1.num.natAbs),lim (toL u1.den)],ratQ v] (ratQ (u1*v)):=cm0;have ct0:=fun(v:List Qt) (hv:v.length≤n)=>exTimes u2 v (by have:=kpi.2;omega)
   have ct0:∀v:List Qt,v.length≤n→Pure Tryz.prog 86 [.sl 4 (u2.map Qt.av),qsA v] (qsA (muQ u2 v)):=ct0;have hmq:∀v:List Qt,v.length≤n→(muQ u2 v).length≤1000:=λv hv=>by rw [mu_len];have:=kpi.2;omega
   have hmo:∀v:List Qt,okQ v→∀q∈muQ u2 v,q.b8:=λv hv=>(rgQ.cl _ _ hopi hv).b8;have hsu:∀v:Rat,Sz v (k+k)→Sz (u1*v) (j+j+(k+k)):=λv hv=>kpi.1.mul hv;clear kpi hopi;generalize toL u1.num.natAbs=un at *;generalize toL u1.den=ud at *;generalize decide (u1.num < 0)=us at *;generalize u2.map Qt.av=UQ at *;(focus (refine wkad (w_11 e1 e5 m200 m201 m202 e11 e12 e13 hpm hqm gpi) w_t w_t ?_;(repeat' first|exact w_t|apply w_l);all_goals intros));rename_i g7;refine Zad (ι:=Nat) (λl e M=>l≤q.length∧(e 1=.sl 4 B∧e 5=.pbox 200 g 0∧e 11=.sl 4 A∧e 12=iv p.length∧e 13=iv i)∧(M 201=some (.map h (mpE (PR (ci+l))))∧∃sv,M 200=some (.box g 168 [.mp 201 h,.own 202 sv] false)∧M 202=some (.row sv 49 4 ((PR (ci+l)).map qtA) 0))∧(e 7=.pbox 7 g7 0∧M 7=some (.box g7 49 [.v (.bool us),lim un,lim ud,.sl 4 UQ] false))∧e 17=.sl 4 B∧e 18=iv q.length∧e 19=iv l) (λl=>q.length - l) 0 (by rfl) ?_ ?_
   ·rintro l e M ⟨hl2,⟨e1,e5,e11,e12,e13⟩,⟨m201,sv,m200,m202⟩,⟨e7,m7⟩,e17,e18,e19⟩
    by_cases hlq:l < q.length
    ·have gql:=gq l hlq;have kql:=kq _ (List.getElem_mem hlq);have hst:=hsti l hlq;have hoql:=hoq _ (List.getElem_mem hlq);obtain⟨a1,a2,a3⟩:=hacc (ci+l) (by have:=hci (l+1) (by omega);omega);clear gq kq hsti hoq hacc hac0 hdst;generalize q[l]=v at *;obtain⟨v1,v2⟩:=v;simp only at kql hst hoql;have gql:B.getD l .u=.agg [.v (.bool (decide (v1.num < 0))),lim (toL v1.num.natAbs),lim (toL v1.den),.sl 4 (v2.map Qt.av)]:=gql;have cm:=cm0 v1 kql.1;have ct:=ct0 v2 kql.2;have hb:=hmo v2 hoql;have hsz:=hsu v1 kql.1;have hml:=hmq v2 kql.2;have cad:=fun(m:Mem) a b c=>exAdd m 200 201 202 g h sv (PR (ci+l)) (u1*v1) (muQ u2 v2) a b c (by omega) (by omega) (by omega) a3 hml a2 hb (λt ht=>(a1 t ht).1) hsz (by omega) (by omega)
     rw [←hst] at cad;have cm:Pure Tryz.prog 38 [.agg [.v (.bool us),lim un,lim ud],.agg [.v (.bool (decide (v1.num < 0))),lim (toL v1.num.natAbs),lim (toL v1.den)]] (ratQ (u1*v1)):=cm;have ct:Pure Tryz.prog 86 [.sl 4 UQ,.sl 4 (v2.map Qt.av)] (.sl 4 ((muQ u2 v2).map Qt.av)):=ct;have cad:∀m:Mem,m 200=some (.box g 168 [.mp 201 h,.own 202 sv] false)→m 201=some (.map h (mpE (PR (ci+l))))→m 202=some (.row sv 49 4 ((PR (ci+l)).map qtA) 0)→ACall Tryz.prog 74 [.pbox 200 g 0,ratQ (u1*v1),.sl 4 ((muQ u2 v2).map Qt.av)] m _:=cad;clear cm0 ct0 hmo hmq hsu a1 a2 a3 hst hb hml hsz kql;generalize u1*v1=w at *
     generalize (muQ u2 v2).map Qt.av=MQ at *;generalize toL v1.num.natAbs=vn at *;generalize toL v1.den=vd at *;generalize decide (v1.num < 0)=vs at *;generalize v2.map Qt.av=VQ at *;(focus (refine wkad (w_15 e1 e5 m200 m201 m202 e11 e12 e13 e7 m7 e17 e18 e19 hqm gql) (w_2 cm ct) (w_1 (w_d 8 [(5,ratQ w),(10,.sl 4 MQ)] [11] [])) ?_;(repeat' first|exact w_t|apply w_l);all_goals intros));refine Zda (cad _ (by exact gW m200) (by exact gW m201) (by exact gW m202)) ?_
     rintro _ _ ⟨sv2,rfl,rfl⟩
     (focus (refine wkad (w_9 e1 e5 e11 e12 e13 e7 e17 e18 e19) w_t w_t ?_;(repeat' first|exact w_t|apply w_l);all_goals intros));exact⟨l+1,⟨by omega,⟨by exact gW e1,by exact gW e5,by exact gW e11,by exact gW e12,by exact gW e13⟩,⟨by exact gC,sv2,by exact gC,by exact gC⟩,⟨by exact gW e7,by exact gW m7⟩,by exact gW e17,by exact gW e18,by exact gS⟩,by omega⟩
    ·have hle:l=q.length:=by omega
     subst hle;rw [←hsucc] at m201 m202;(focus (refine wkad (w_14 e1 e5 m200 m201 m202 e11 e12 e13 e7 m7 e17 e18 e19 hqm) w_t w_t ?_;(repeat' first|exact w_t|apply w_l);all_goals intros));exact⟨i+1,⟨by omega,by exact gW e1,by exact gW e5,by exact gW m201,⟨sv,by exact gW m200,by exact gW m202⟩,by exact gW e11,by exact gW e12,by exact gS⟩,by omega⟩
   ·exact⟨Nat.zero_le _,⟨by exact gW e1,by exact gW e5,by exact gW e11,by exact gW e12,by exact gW e13⟩,⟨by exact gW m201,sv,by exact gW m200,by exact gW m202⟩,⟨by exact gC,by exact gC⟩,by exact gC,by exact gW hqm,by exact gC⟩
  ·have hil:i=p.length:=by omega
   subst hil;obtain⟨a1,a2,a3⟩:=hacc (p.length*q.length) (Nat.le_refl _);have ce:=fun(m:Mem) a b=>exExpr m 200 201 202 300 g h sv (PR (p.length*q.length)) a b a3 hdst a1 (by omega) (by omega);clear hacc hstep gp gq kp kq hop hoq;generalize PR (p.length*q.length)=S at *;generalize (srtQ ordT (nzT S)).map qtA=R at *;(focus (refine wkad (w_9 e1 e5 m200 m201 m202 e11 e12 e13 hpm) w_t w_t ?_;(repeat' first|exact w_t|apply w_l);all_goals intros));refine Zvv (ce _ (by exact gW m200) (by exact gW m202)) ?_;intro sv3;(focus (refine wkad w_t w_t w_t ?_;(repeat' first|exact w_t|apply w_l);all_goals intros))
   all_goals exact gL
 ·exact⟨Nat.zero_le _,by exact gC,by exact gC,by rw [Nat.zero_mul,hac0];exact gC,⟨_,by exact gC,by rw [Nat.zero_mul,hac0];exact gC⟩,by exact gC,by exact gW hpm,by exact gC⟩
end Go.Proofs.YtjekhacnoopdpaaGreatDoor
namespace Go.Proofs.YtjekhacnoopdpaaGreatDoor
open Go Go.RowKit Go.Pg
attribute [-bool_to_prop] Bool.and_eq_decide Bool.or_eq_decide Bool.decide_beq_decide decide_eq_decide
theorem szFr:szOf Tryz.prog 27=some 2:=by kernel_rfl
theorem byFr:Zez Tryz.prog 27=some 48:=by kernel_rfl
theorem zFr:Zav Tryz.prog 27=some (.agg #[.slice none 0 0,.slice none 0 0]):=by kernel_rfl
theorem Zfu:szOf Tryz.prog 92=some 1:=by kernel_rfl
theorem Zfx:Zez Tryz.prog 23=some 24:=by kernel_rfl
theorem zSQP:Zav Tryz.prog 92=some (.slice none 0 0):=by kernel_rfl
end Go.Proofs.YtjekhacnoopdpaaGreatDoor
namespace Go.Proofs.YtjekhacnoopdpaaGreatDoor
open Go Go.RowKit Go.Pg Go.Pol
attribute [-bool_to_prop] Bool.and_eq_decide Bool.or_eq_decide Bool.decide_beq_decide decide_eq_decide
attribute [local go_sem] Tryz.underlying3 Tryz.underlying4 Tryz.underlying169 Tryz.underlying41 Tryz.underlying43 Tryz.underlying45 Tryz.underlying25 Tryz.underlying47 Tryz.underlying49 Tryz.underlying22 Tryz.underlying23 sz3 by3 z3 szB zB Zbd zRat Zbf zInt Zbe zNat Zaj Zaw Zak Bool.and_self Zan Zbs zSlQ szQT byQT zQT Zby zSlT szQP zQP Tryz.underlying92 Tryz.underlying27 szFr byFr zFr Zfu Zfx zSQP
theorem awSplit:Pure Tryz.prog 58 [.sl 4 [.agg [.v (.bool false),lim [1],lim [1],.sl 4 [.agg [iv 3,iv 1,iv 0,iv 0]]],.agg [.v (.bool false),lim [1],lim [1],.sl 4 [.agg [iv 3,iv 0,iv 0,iv 0],.agg [iv 3,iv 0,iv 0,iv 0]]]],.agg [iv 3,iv 0,iv 0,iv 0]] (.sl 1 [.sl 4 [.agg [.v (.bool false),lim [1],lim [1],.sl 4 [.agg [iv 3,iv 1,iv 0,iv 0]]]],.v (.slice none 0 0),.sl 4 [.agg [.v (.bool false),lim [1],lim [1],.v (.slice none 0 0)]]]):=by
 refine Zaa (tok:=0) Tryz.func58 rfl Tryz.ntmps58 Tryz.results58 Tryz.call58 (by rfl) (by simp) ?_;have f1:((1:Nat):Int) - ((1:Nat):Int)=0:=rfl;have f2:((2:Nat):Int) - 0=2:=rfl;have f3:((2:Nat):Int) - ((0:Nat):Int)=2:=rfl
 (repeat' (first|(fail)|(with_reducible first|refine stp ?_|apply gx1|apply gx2|apply gx3|apply gx4|apply gx5|apply gx6|apply gx7|apply gy8|apply gz2|apply gz3)|(with_reducible refine Zao ?_;intro _)|((with_reducible refine gE ?_);(try simp (disch:=omega) only [go_sem,f1,f2,f3,decide_eq_true,decide_eq_false,if_pos,if_neg,Int.reduceAdd,Int.reduceSub,Int.reduceToNat,Int.zero_add])<;>first|rfl|omega)|with_reducible refine Zab (by decide) ?_|((with_reducible apply gy1);iterate 3 focus rfl)|((with_reducible apply gy2);iterate 3 focus rfl)|((with_reducible apply gy3);iterate 2 focus rfl)|((with_reducible apply gy4);iterate 1 focus rfl)|((with_reducible apply gy5);iterate 4 focus rfl)|((with_reducible apply gy5c);iterate 4 focus rfl)|((with_reducible apply gy6);iterate 4 focus rfl)|((with_reducible apply Za7);iterate 3 focus rfl)|((with_reducible apply Za6);iterate 1 focus rfl)|((with_reducible apply gy7);iterate 1 focus rfl)|((with_reducible apply gy9);(focus ((with_reducible refine gE ?_);(try simp (disch:=omega) only [go_sem,f1,f2,f3,decide_eq_true,decide_eq_false,if_pos,if_neg,Int.reduceAdd,Int.reduceSub,Int.reduceToNat,Int.zero_add])<;>rfl)))|((with_reducible apply gz1);(focus first|rfl|(simp (disch:=omega) only [go_sem,f1,f2,f3,decide_eq_true,decide_eq_false,if_pos,if_neg,Int.reduceAdd,Int.reduceSub,Int.reduceToNat,Int.zero_add];done)))|((with_reducible apply Zae (id:=99) (Zau []) [] []);(focus kernel_rfl);(focus rfl);(focus kernel_rfl);(focus (simp only [List.length_cons,List.length_nil,Nat.reduceAdd];rfl)))|((with_reducible first|apply Za1|apply Za3|apply Za2);all_goals (intro hc;(try simp only [bool_to_prop] at hc);try (exfalso;omega)))|((with_reducible apply Zd1 4);(focus rfl))))
 rename_i s32;refine Zu4 (Frz.own (d:=8) (k:=32) (sv:=s32) (ty:=25) (mm:=4) (es:=[.agg [iv 3,iv 1,iv 0,iv 0]]) (pub:=0) (by exact gC) (by exact gC)) ?_;refine Zq6 λR hR=>?_;(focus (refine wkad (w_1 f1) w_t (w_1 (w_d 15 [(10,.sl 4 [.agg [.v (.bool false),lim [1],lim [1],.sl 4 [.agg [iv 3,iv 1,iv 0,iv 0]]]]),(11,.sl 4 [.agg [.v (.bool false),lim [1],lim [1],.sl 4 [.agg [iv 3,iv 1,iv 0,iv 0]]]])] [13] [57,58])) ?_;(repeat' first|exact w_t|apply w_l);all_goals intros));refine hR _ _ ?_
 (repeat' (first|(fail)|(with_reducible first|refine stp ?_|apply gx1|apply gx2|apply gx3|apply gx4|apply gx5|apply gx6|apply gx7|apply gy8|apply gz2|apply gz3)|(with_reducible refine Zao ?_;intro _)|((with_reducible refine gE ?_);(try simp (disch:=omega) only [go_sem,f1,f2,f3,decide_eq_true,decide_eq_false,if_pos,if_neg,Int.reduceAdd,Int.reduceSub,Int.reduceToNat,Int.zero_add])<;>first|rfl|omega)|with_reducible refine Zab (by decide) ?_|((with_reducible apply gy1);iterate 3 focus rfl)|((with_reducible apply gy2);iterate 3 focus rfl)|((with_reducible apply gy3);iterate 2 focus rfl)|((with_reducible apply gy4);iterate 1 focus rfl)|((with_reducible apply gy5);iterate 4 focus rfl)|((with_reducible apply gy5c);iterate 4 focus rfl)|((with_reducible apply gy6);iterate 4 focus rfl)|((with_reducible apply Za7);iterate 3 focus rfl)|((with_reducible apply Za6);iterate 1 focus rfl)|((with_reducible apply gy7);iterate 1 focus rfl)|((with_reducible apply gy9);(focus ((with_reducible refine gE ?_);(try simp (disch:=omega) only [go_sem,f1,f2,f3,decide_eq_true,decide_eq_false,if_pos,if_neg,Int.reduceAdd,Int.reduceSub,Int.reduceToNat,Int.zero_add])<;>rfl)))|((with_reducible apply gz1);(focus first|rfl|(simp (disch:=omega) only [go_sem,f1,f2,f3,decide_eq_true,decide_eq_false,if_pos,if_neg,Int.reduceAdd,Int.reduceSub,Int.reduceToNat,Int.zero_add];done)))|((with_reducible apply Zae (id:=15) (Zau [(10,.sl 4 [.agg [.v (.bool false),lim [1],lim [1],.v (.slice none 0 0)]]),(11,.sl 4 [.agg [.v (.bool false),lim [1],lim [1],.v (.slice none 0 0)]])]) [13] [57,58]);(focus kernel_rfl);(focus rfl);(focus kernel_rfl);(focus (simp only [List.length_cons,List.length_nil,Nat.reduceAdd];rfl)))|((with_reducible first|apply Za1|apply Za3|apply Za2);all_goals (intro hc;(try simp only [bool_to_prop] at hc);try (exfalso;omega)))|((with_reducible apply Zd1 4);(focus rfl))))
 all_goals exact gL
attribute [local go_sem] Tryz.underlying113 szOpn zOpn szFnR zFnR undFnR
def rawQ (a:Rat):RQ:=⟨decide (a.num < 0),toL a.num.natAbs,toL a.den⟩
theorem Zhe {a:Rat} {k:Nat} (h:Sz a k):(rawQ a).lm k:=⟨Zam _,Zam _,h.1,h.2⟩
theorem Zh8 (a:Rat):(rawQ a).ok=true:=by
 unfold rawQ RQ.ok RQ.zok;simp only [Bool.and_eq_true,decide_eq_true_eq,Bool.not_eq_true',beq_iff_eq,Zal];refine⟨⟨⟨⟨(Zhj (Zam _)).2 (by rw [Zal]),?_⟩,(Zhj (Zam _)).2 (by rw [Zal])⟩,a.reduced⟩,Zbb.2 (Nat.pos_of_ne_zero a.den_nz)⟩;by_cases h:a.num < 0
 ·have:(toL a.num.natAbs).length≠0:=by have:=Zbb.2 (show 0 < a.num.natAbs by omega);omega
  simp [h,this]
 ·simp [h]
theorem Zq4 (a:Rat):(rawQ a).q=a:=by
 unfold rawQ RQ.q;simp only [Zal];rw [show zI (decide (a.num < 0)) a.num.natAbs=a.num from by unfold zI;by_cases h:a.num < 0<;>simp [h]<;>omega];exact Rat.mkRat_self a
def cstE (a:Rat):List RE:=[⟨rawQ a,[]⟩]
def ofE (q:Qt):List RE:=[⟨rawQ 1,[q]⟩]
theorem Zvx (l:List RE):(∃G,nrmR l=.sl 4 G)∨nrmR l=.v (.slice none 0 0):=by
 unfold nrmR;split
 ·exact .inl ⟨_,rfl⟩
 ·exact .inr rfl
theorem Zre {f:Nat} {s:Bool} {x d:List Nat} {NR:AV} (c:Pure Tryz.prog f [.sl 4 [RE.av ⟨⟨s,x,d⟩,[]⟩]] NR):Pure Tryz.prog f [.sl 4 [.agg [.v (.bool s),lim x,lim d,.v (.slice none 0 0)]]] NR:=by
 refine Zfi c (.cons (Vk.slL rfl (λe he=>by rw [List.mem_singleton.1 he];rfl) (λe he=>by rw [List.mem_singleton.1 he];rfl) ?_) .nil);exact .cons (.refl _) (.cons (.refl _) (.cons (.refl _) (.cons (.nil 4) .nil)))
theorem Zwn (a:Rat) {J:Nat} (ha:Sz a J) (hJ:J≤1000):Pure Tryz.prog 28 [ratQ a] (nrmR (cstE a)):=by
 have c:=Zre (Zk4 (cstE a) (J:=J) (by simp [cstE]) (λt ht=>by rw [List.mem_singleton.1 ht];exact Zhe ha) (λt ht=>by rw [List.mem_singleton.1 ht];simp) hJ);show Pure _ _ [.agg [.v (.bool (decide (a.num < 0))),lim (toL a.num.natAbs),lim (toL a.den)]] _;rcases Zvx (cstE a) with⟨G,h⟩ | h
 all_goals
  rw [h] at c ⊢;clear h ha;generalize toL a.num.natAbs=x at *;generalize toL a.den=d at *;refine Zaa (tok:=0) Tryz.func28 rfl Tryz.ntmps28 Tryz.results28 Tryz.call28 (by rfl) (by simp) ?_;(focus (refine wkax w_t w_t w_t (w_1 c) w_t w_t (w_r 0) ?_;(repeat' first|exact w_t|apply w_l);all_goals intros));all_goals exact gL
theorem rxConst (a:Rat) {J:Nat} (ha:Sz a J) (hJ:J≤800):Pure Tryz.prog 29 [ratQ a] (nrmR (cstE a)):=by
 have c:=Zre (rxNorm (cstE a) (J:=J) (by simp [cstE]) (λt ht=>by rw [List.mem_singleton.1 ht];exact Zhe ha) (λt ht=>by rw [List.mem_singleton.1 ht];simp) hJ);show Pure _ _ [.agg [.v (.bool (decide (a.num < 0))),lim (toL a.num.natAbs),lim (toL a.den)]] _;rcases Zvx (cstE a) with⟨G,h⟩ | h
 all_goals
  rw [h] at c ⊢;clear h ha;generalize toL a.num.natAbs=x at *;generalize toL a.den=d at *;refine Zaa (tok:=0) Tryz.func29 rfl Tryz.ntmps29 Tryz.results29 Tryz.call29 (by rfl) (by simp) ?_;(focus (refine wkax w_t w_t w_t (w_1 c) w_t w_t (w_r 0) ?_;(repeat' first|exact w_t|apply w_l);all_goals intros));all_goals exact gL
theorem exOf (q:Qt):Pure Tryz.prog 26 [q.av] (nrmR (ofE q)):=by
 have c:Pure Tryz.prog 22 [.sl 4 [.agg [.v (.bool (decide ((1:Rat).num < 0))),lim (toL (1:Rat).num.natAbs),lim (toL (1:Rat).den),.sl 4 [.agg [iv q.k,iv q.a,iv q.b,iv q.c]]]]] (nrmR (ofE q)):=Zk4 (ofE q) (J:=1) (by simp [ofE]) (λt ht=>by rw [List.mem_singleton.1 ht];exact Zhe (Zm9 (.inr (.inr rfl)))) (λt ht=>by rw [List.mem_singleton.1 ht];simp) (by omega);have c1:Pure Tryz.prog 57 [iv 1] (.agg [.v (.bool (decide ((1:Rat).num < 0))),lim (toL (1:Rat).num.natAbs),lim (toL (1:Rat).den)]):=Znh 1 (by omega);generalize decide ((1:Rat).num < 0)=s1 at *;generalize toL (1:Rat).num.natAbs=x1 at *
 generalize toL (1:Rat).den=d1 at *;obtain⟨k,a,b,cc⟩:=q;simp only at *;rcases Zvx (ofE ⟨k,a,b,cc⟩) with⟨G,h⟩ | h
 ·rw [h] at c ⊢;clear h;refine Zaa (tok:=0) Tryz.func26 rfl Tryz.ntmps26 Tryz.results26 Tryz.call26 (by rfl) (by simp) ?_;(focus (refine wkad w_t (w_2 c1 c) (w_1 (w_d 1 [(0,.agg [.v (.bool s1),lim x1,lim d1]),(2,.sl 4 [.agg [iv k,iv a,iv b,iv cc]]),(4,.sl 4 [.agg [.v (.bool s1),lim x1,lim d1,.sl 4 [.agg [iv k,iv a,iv b,iv cc]]]]),(5,.sl 4 G)] [] [])) ?_;(repeat' first|exact w_t|apply w_l);all_goals intros));all_goals exact gL
 ·rw [h] at c ⊢;clear h;refine Zaa (tok:=0) Tryz.func26 rfl Tryz.ntmps26 Tryz.results26 Tryz.call26 (by rfl) (by simp) ?_;(focus (refine wkad w_t (w_2 c1 c) (w_1 (w_d 1 [(0,.agg [.v (.bool s1),lim x1,lim d1]),(2,.sl 4 [.agg [iv k,iv a,iv b,iv cc]]),(4,.sl 4 [.agg [.v (.bool s1),lim x1,lim d1,.sl 4 [.agg [iv k,iv a,iv b,iv cc]]]]),(5,.v (.slice none 0 0))] [] [])) ?_;(repeat' first|exact w_t|apply w_l);all_goals intros));all_goals exact gL
theorem Zqu (q:QTs):sclT 1 q=q:=by
 unfold sclT;have:(λt:Rat × List Qt=>((1*t.1,t.2):Rat × List Qt))=id:=by funext t;show(1*t.1,t.2)=t;rw [Rat.one_mul]
 rw [this,List.map_id]
theorem exPlus (p q:QTs) {j k n:Nat} (hp:QK p j n) (hq:QK q k n) (np:∀t∈p,t.1≠0) (nq:∀t∈q,t.1≠0) (lp:p.length≤100000000) (lq:q.length≤100000000) (hj:j≤900000) (hk:k≤900000) (hn:n≤1000000):Pure Tryz.prog 34 [qpA p,qpA q] (qpA (Zb4 p q)):=by
 have c:=Zwl _ _ opAdd p q hp hq np nq lp lq hj hk hn;rw [Zqu] at c;have c:Pure Tryz.prog 85 [.agg [.fn 37 []],.sl 4 (p.map qtA),.sl 4 (q.map qtA)] (.sl 4 ((Zb4 p q).map qtA)):=c;show Pure _ _ [.sl 4 (p.map qtA),.sl 4 (q.map qtA)] (.sl 4 ((Zb4 p q).map qtA));generalize (Zb4 p q).map qtA=R at *;generalize p.map qtA=A at *;generalize q.map qtA=B at *;refine Zaa (tok:=0) Tryz.func34 rfl Tryz.ntmps34 Tryz.results34 Tryz.call34 (by rfl) (by simp) ?_;(focus (refine wkad w_t (w_1 c) w_t ?_;(repeat' first|exact w_t|apply w_l);all_goals intros));all_goals exact gL
theorem exMinus (p q:QTs) {j k n:Nat} (hp:QK p j n) (hq:QK q k n) (np:∀t∈p,t.1≠0) (nq:∀t∈q,t.1≠0) (lp:p.length≤100000000) (lq:q.length≤100000000) (hj:j≤900000) (hk:k≤900000) (hn:n≤1000000):Pure Tryz.prog 42 [qpA p,qpA q] (qpA (Zb4 p (sclT (-1) q))):=by
 have c:=Zwl _ _ opSub p q hp hq np nq lp lq hj hk hn;have c:Pure Tryz.prog 85 [.agg [.fn 102 []],.sl 4 (p.map qtA),.sl 4 (q.map qtA)] (.sl 4 ((Zb4 p (sclT (-1) q)).map qtA)):=c;show Pure _ _ [.sl 4 (p.map qtA),.sl 4 (q.map qtA)] (.sl 4 ((Zb4 p (sclT (-1) q)).map qtA));generalize (Zb4 p (sclT (-1) q)).map qtA=R at *;generalize p.map qtA=A at *;generalize q.map qtA=B at *;refine Zaa (tok:=0) Tryz.func42 rfl Tryz.ntmps42 Tryz.results42 Tryz.call42 (by rfl) (by simp) ?_;(focus (refine wkad w_t (w_1 c) w_t ?_;(repeat' first|exact w_t|apply w_l);all_goals intros));all_goals exact gL
theorem xbC (p:QTs) (n:Nat) (h:(∀t∈p,t.1≠0∧(t.2.Pairwise λa b=>Qt.cmp a b≤0)∧(∀q∈t.2,q.norm=(q,1))∧t.2.length≤n∧t.1.den ∣ 1)∧(p.Pairwise λs t=>ordQ s.2 t.2 < 0)∧n1 p≤65535):XB p 1 n :=
 ⟨⟨λt ht=>⟨(h.1 t ht).1,(h.1 t ht).2.1,(h.1 t ht).2.2.1⟩,h.2.1⟩,λt ht=>(h.1 t ht).2.2.2.1,1,65535,by decide,by decide,by decide,⟨λt ht=>(h.1 t ht).2.2.2.2,h.2.2⟩⟩
theorem Zks {l:List RE} (h:l.all RE.ok=true):nrmR l=qpA (gatM (l.map RE.t)):=by unfold nrmR;rw [if_pos h]
theorem gat_C {l m:QTs} (h:Go.Pol.sumC ordQ l=m):gatM l=m:=by rw [←h];exact(Zlf Zcc l).symm
theorem mul_C {p q r:QTs} (h:Go.Pol.sumC ordQ (prodL muQ p q)=r):mulX p q=r:=gat_C h
theorem add_C {p q r:QTs} (hp:EX p) (hq:EX q) (h:Go.Pol.sumC ordQ (p++q)=r):Zb4 p q=r:=by
 rw [←h,Zlf Zcc];exact Zie (D:=okQ) Zcc (Zig Zcc hp hq) (Zhm Zcc λt ht=>(List.mem_append.1 ht).elim (hp.dom t) (hq.dom t)) λφ=>by rw [Zp9 Zcc,Zry Zcc,Zws]
theorem Zbq (l:List Qt):qtA ((1:Rat),l)=.agg [.v (.bool false),lim [1],lim [1],qsA l]:=by
 show AV.agg [.v (.bool (decide ((1:Rat).num < 0))),lim (toL (1:Rat).num.natAbs),lim (toL (1:Rat).den),qsA l]=_;rw [show(1:Rat).num=1 from rfl,show(1:Rat).den=1 from rfl,show(1:Int).natAbs=1 from rfl,Zf2];rfl
theorem Zim:Sz (1:Rat) 1:=Zm9 (.inr (.inr rfl))
theorem Zgq:ratQ (1:Rat)=.agg [.v (.bool false),lim [1],lim [1]]:=by
 show AV.agg [.v (.bool (decide ((1:Rat).num < 0))),lim (toL (1:Rat).num.natAbs),lim (toL (1:Rat).den)]=_;rw [show(1:Rat).num=1 from rfl,show(1:Rat).den=1 from rfl,show(1:Int).natAbs=1 from rfl,Zf2];rfl
abbrev oneE (q:List Qt):RE:=⟨rawQ 1,q⟩
theorem Zvu (q:List Qt):RE.av (oneE q)=.agg [.v (.bool false),lim [1],lim [1],qsA q]:=by
 show AV.agg [.v (.bool (decide ((1:Rat).num < 0))),lim (toL (1:Rat).num.natAbs),lim (toL (1:Rat).den),qsA q]=_;rw [show(1:Rat).num=1 from rfl,show(1:Rat).den=1 from rfl,show(1:Int).natAbs=1 from rfl,Zf2];rfl
theorem Zvt {q:List Qt} (h1:sgP q=1) (h2:putP q=q):RE.t (oneE q)=(1,q):=by
 show((rawQ 1).q*(sgP q:Rat),putP q)=_;rw [Zq4,h1,h2,show((1:Int):Rat)=1 from rfl,Rat.mul_one]
theorem awNorm (q:List Qt) (hl:q.length≤12) (h0:q.all Qt.ok=true) (h1:sgP q=1) (h2:putP q=q):Pure Tryz.prog 22 [.sl 4 [.agg [.v (.bool false),lim [1],lim [1],qsA q]]] (.sl 4 [.agg [.v (.bool false),lim [1],lim [1],qsA q]]):=by
 have c:=Zk4 [oneE q] (J:=1) (by simp) (λt ht=>by rw [List.mem_singleton.1 ht];exact Zhe Zim) (λt ht=>by rw [List.mem_singleton.1 ht];exact hl) (by omega);rw [Zks (by show(RE.ok (oneE q) && true)=true;rw [Bool.and_true];show((rawQ 1).ok && q.all Qt.ok)=true;rw [Zh8,h0];rfl)] at c
 have e:gatM ([oneE q].map RE.t)=[((1:Rat),q)]:=by
  rw [List.map_cons,List.map_nil,Zvt h1 h2,Zid,if_neg (show ¬(1:Rat)=0 by decide)]
 rw [e] at c;have c:Pure Tryz.prog 22 [.sl 4 [RE.av (oneE q)]] (.sl 4 [qtA (1,q)]):=c
 rwa [Zvu,Zbq] at c
theorem awNorm0:Pure Tryz.prog 22 [.v (.slice none 0 0)] (.sl 4 []):=by
 have c:=Zk4 [] (J:=1) (by simp) (λt ht=>by cases ht) (λt ht=>by cases ht) (by omega);rw [Zks (by rfl),show gatM ([].map RE.t)=[] from Zp6] at c;exact Zfi c (.cons (.nil 4) .nil)
theorem Zor (p q r:QTs) (hp:XB p 1 6) (hq:XB q 1 6) (h:Go.Pol.sumC ordQ (prodL muQ p q)=r) (l1:p.length≤10) (l2:q.length≤10):Pure Tryz.prog 35 [qpA p,qpA q] (qpA r):=by
 have h3:p.length*q.length≤10*10:=Nat.mul_le_mul l1 l2;rw [←mul_C h];exact Zwk p q hp hq Zp1 (by omega) (by omega) (by omega) (by omega) (by omega)
theorem Zxh (p q r:QTs) (hp:XB p 1 6) (hq:XB q 1 6) (h:Go.Pol.sumC ordQ (p++q)=r) (l1:p.length≤10) (l2:q.length≤10):Pure Tryz.prog 34 [qpA p,qpA q] (qpA r):=by
 rw [←add_C hp.1 hq.1 h];exact exPlus p q hp.qk hq.qk hp.nz hq.nz (by omega) (by omega) (by omega) (by omega) (by omega)
theorem awM1:Pure Tryz.prog 35 [.v (.slice none 0 0),.sl 4 [.agg [.v (.bool false),lim [1],lim [1],.sl 4 []]]] (.sl 4 []):=by
 have c:=Zor [] [((1:Rat),[])] [] (xbC _ _ (by decide +kernel)) (xbC _ _ (by decide +kernel)) (by decide +kernel) (by decide) (by decide);simp only [qpA,List.map_cons,List.map_nil,Zbq] at c;exact Zfi c (.cons (.nil 4) (.cons (.refl _) .nil))
theorem awM2:Pure Tryz.prog 35 [.sl 4 [.agg [.v (.bool false),lim [1],lim [1],.sl 4 []]],.sl 4 [.agg [.v (.bool false),lim [1],lim [1],.sl 4 []]]] (.sl 4 [.agg [.v (.bool false),lim [1],lim [1],.sl 4 []]]):=by
 have c:=Zor [((1:Rat),[])] [((1:Rat),[])] [((1:Rat),[])] (xbC _ _ (by decide +kernel)) (xbC _ _ (by decide +kernel)) (by decide +kernel) (by decide) (by decide);simp only [qpA,List.map_cons,List.map_nil,Zbq] at c;exact c
theorem awA1:Pure Tryz.prog 34 [.sl 4 [],.sl 4 [.agg [.v (.bool false),lim [1],lim [1],.sl 4 []]]] (.sl 4 [.agg [.v (.bool false),lim [1],lim [1],.sl 4 []]]):=by
 have c:=Zxh [] [((1:Rat),[])] [((1:Rat),[])] (xbC _ _ (by decide +kernel)) (xbC _ _ (by decide +kernel)) (by decide +kernel) (by decide) (by decide);simp only [qpA,List.map_cons,List.map_nil,Zbq] at c;exact c
theorem awM3:Pure Tryz.prog 35 [.sl 4 [.agg [.v (.bool false),lim [1],lim [1],.sl 4 []]],.sl 4 [.agg [.v (.bool false),lim [1],lim [1],.sl 4 [.agg [iv 3,iv 2,iv 0,iv 0]]]]] (.sl 4 [.agg [.v (.bool false),lim [1],lim [1],.sl 4 [.agg [iv 3,iv 2,iv 0,iv 0]]]]):=by
 have c:=Zor [((1:Rat),[])] [((1:Rat),[(⟨3,2,0,0⟩:Qt)])] [((1:Rat),[(⟨3,2,0,0⟩:Qt)])] (xbC _ _ (by decide +kernel)) (xbC _ _ (by decide +kernel)) (by decide +kernel) (by decide) (by decide);simp only [qpA,List.map_cons,List.map_nil,Zbq] at c;exact c
theorem awM4:Pure Tryz.prog 35 [.sl 4 [],.sl 4 [.agg [.v (.bool false),lim [1],lim [1],.sl 4 [.agg [iv 3,iv 2,iv 0,iv 0]]]]] (.sl 4 []):=by
 have c:=Zor [] [((1:Rat),[(⟨3,2,0,0⟩:Qt)])] [] (xbC _ _ (by decide +kernel)) (xbC _ _ (by decide +kernel)) (by decide +kernel) (by decide) (by decide);simp only [qpA,List.map_cons,List.map_nil,Zbq] at c;exact c
theorem awA2:Pure Tryz.prog 34 [.sl 4 [.agg [.v (.bool false),lim [1],lim [1],.sl 4 []]],.sl 4 []] (.sl 4 [.agg [.v (.bool false),lim [1],lim [1],.sl 4 []]]):=by
 have c:=Zxh [((1:Rat),[])] [] [((1:Rat),[])] (xbC _ _ (by decide +kernel)) (xbC _ _ (by decide +kernel)) (by decide +kernel) (by decide) (by decide);simp only [qpA,List.map_cons,List.map_nil,Zbq] at c;exact c
theorem awM5:Pure Tryz.prog 35 [.sl 4 [.agg [.v (.bool false),lim [1],lim [1],.sl 4 [.agg [iv 3,iv 2,iv 0,iv 0]]]],.sl 4 [.agg [.v (.bool false),lim [1],lim [1],.sl 4 [.agg [iv 3,iv 2,iv 0,iv 0]]]]] (.sl 4 [.agg [.v (.bool false),lim [1],lim [1],.sl 4 [.agg [iv 3,iv 2,iv 0,iv 0],.agg [iv 3,iv 2,iv 0,iv 0]]]]):=by
 have c:=Zor [((1:Rat),[(⟨3,2,0,0⟩:Qt)])] [((1:Rat),[(⟨3,2,0,0⟩:Qt)])] [((1:Rat),[(⟨3,2,0,0⟩:Qt),(⟨3,2,0,0⟩:Qt)])] (xbC _ _ (by decide +kernel)) (xbC _ _ (by decide +kernel)) (by decide +kernel) (by decide) (by decide);simp only [qpA,List.map_cons,List.map_nil,Zbq] at c;exact c
theorem awM6:Pure Tryz.prog 35 [.sl 4 [.agg [.v (.bool false),lim [1],lim [1],.sl 4 [.agg [iv 3,iv 1,iv 0,iv 0]]]],.sl 4 [.agg [.v (.bool false),lim [1],lim [1],.sl 4 [.agg [iv 3,iv 2,iv 0,iv 0],.agg [iv 3,iv 2,iv 0,iv 0]]]]] (.sl 4 [.agg [.v (.bool false),lim [1],lim [1],.sl 4 [.agg [iv 3,iv 1,iv 0,iv 0],.agg [iv 3,iv 2,iv 0,iv 0],.agg [iv 3,iv 2,iv 0,iv 0]]]]):=by
 have c:=Zor [((1:Rat),[(⟨3,1,0,0⟩:Qt)])] [((1:Rat),[(⟨3,2,0,0⟩:Qt),(⟨3,2,0,0⟩:Qt)])] [((1:Rat),[(⟨3,1,0,0⟩:Qt),(⟨3,2,0,0⟩:Qt),(⟨3,2,0,0⟩:Qt)])] (xbC _ _ (by decide +kernel)) (xbC _ _ (by decide +kernel)) (by decide +kernel) (by decide) (by decide);simp only [qpA,List.map_cons,List.map_nil,Zbq] at c;exact c
theorem awA3:Pure Tryz.prog 34 [.sl 4 [.agg [.v (.bool false),lim [1],lim [1],.sl 4 []]],.sl 4 [.agg [.v (.bool false),lim [1],lim [1],.sl 4 [.agg [iv 3,iv 1,iv 0,iv 0],.agg [iv 3,iv 2,iv 0,iv 0],.agg [iv 3,iv 2,iv 0,iv 0]]]]] (.sl 4 [.agg [.v (.bool false),lim [1],lim [1],.sl 4 []],.agg [.v (.bool false),lim [1],lim [1],.sl 4 [.agg [iv 3,iv 1,iv 0,iv 0],.agg [iv 3,iv 2,iv 0,iv 0],.agg [iv 3,iv 2,iv 0,iv 0]]]]):=by
 have c:=Zxh [((1:Rat),[])] [((1:Rat),[(⟨3,1,0,0⟩:Qt),(⟨3,2,0,0⟩:Qt),(⟨3,2,0,0⟩:Qt)])] [((1:Rat),[]),((1:Rat),[(⟨3,1,0,0⟩:Qt),(⟨3,2,0,0⟩:Qt),(⟨3,2,0,0⟩:Qt)])] (xbC _ _ (by decide +kernel)) (xbC _ _ (by decide +kernel)) (by decide +kernel) (by decide) (by decide);simp only [qpA,List.map_cons,List.map_nil,Zbq] at c;exact c
theorem Zmp:Pure Tryz.prog 28 [.agg [.v (.bool false),lim [1],lim [1]]] (.sl 4 [.agg [.v (.bool false),lim [1],lim [1],.sl 4 []]]):=by
 have c:=Zwn 1 Zim (by omega);rw [Zks (by show(RE.ok (oneE []) && true)=true;rw [Bool.and_true];show((rawQ 1).ok && true)=true;rw [Zh8];rfl)] at c
 have e:gatM ((cstE 1).map RE.t)=[((1:Rat),[])]:=by
  show gatM [RE.t (oneE [])]=_;rw [Zvt rfl rfl,Zid,if_neg (by decide)]
 rw [e,Zgq] at c;simp only [qpA,List.map_cons,List.map_nil,Zbq] at c;exact c
theorem Zxg:Pure Tryz.prog 13 [.sl 4 [.agg [.v (.bool false),lim [1],lim [1],.sl 4 [.agg [iv 3,iv 1,iv 0,iv 0]]],.agg [.v (.bool false),lim [1],lim [1],.sl 4 [.agg [iv 3,iv 0,iv 0,iv 0],.agg [iv 3,iv 0,iv 0,iv 0]]]],.agg [iv 3,iv 0,iv 0,iv 0],.agg [.sl 4 [.agg [.v (.bool false),lim [1],lim [1],.sl 4 []]],.sl 4 [.agg [.v (.bool false),lim [1],lim [1],.sl 4 [.agg [iv 3,iv 2,iv 0,iv 0]]]]]] (.agg [.sl 4 [.agg [.v (.bool false),lim [1],lim [1],.sl 4 []],.agg [.v (.bool false),lim [1],lim [1],.sl 4 [.agg [iv 3,iv 1,iv 0,iv 0],.agg [iv 3,iv 2,iv 0,iv 0],.agg [iv 3,iv 2,iv 0,iv 0]]]],.sl 4 [.agg [.v (.bool false),lim [1],lim [1],.sl 4 [.agg [iv 3,iv 2,iv 0,iv 0],.agg [iv 3,iv 2,iv 0,iv 0]]]]]):=by
 have cn:Pure Tryz.prog 56 [.agg [iv 3,iv 0,iv 0,iv 0]] (.tup [.agg [iv 3,iv 0,iv 0,iv 0],iv 1]):=Zu7 3 0 0 0;have c1:Pure Tryz.prog 57 [iv 1] (.agg [.v (.bool false),lim [1],lim [1]]):=by rw [←Zgq];exact Znh 1 (by omega)
 have cs:=awSplit;have cc:=Zmp;have n0:=awNorm0;have n1:Pure Tryz.prog 22 [.sl 4 [.agg [.v (.bool false),lim [1],lim [1],.sl 4 [.agg [iv 3,iv 1,iv 0,iv 0]]]]] (.sl 4 [.agg [.v (.bool false),lim [1],lim [1],.sl 4 [.agg [iv 3,iv 1,iv 0,iv 0]]]]):=awNorm [⟨3,1,0,0⟩] (by decide) (by decide) (by decide) (by decide)
 have n2:Pure Tryz.prog 22 [.sl 4 [.agg [.v (.bool false),lim [1],lim [1],.v (.slice none 0 0)]]] (.sl 4 [.agg [.v (.bool false),lim [1],lim [1],.sl 4 []]]):=by
  refine Zfi (awNorm [] (by decide) (by decide) (by decide) (by decide)) (.cons (Vk.slL rfl (λe he=>by rw [List.mem_singleton.1 he];rfl) (λe he=>by rw [List.mem_singleton.1 he];rfl) ?_) .nil);exact .cons (.refl _) (.cons (.refl _) (.cons (.refl _) (.cons (.nil 4) .nil)))
 have m1:=awM1;have m2:=awM2;have m3:=awM3;have m4:=awM4;have m5:=awM5;have m6:=awM6;have a1:=awA1;have a2:=awA2;have a3:=awA3;refine Zaa (tok:=0) Tryz.func13 rfl Tryz.ntmps13 Tryz.results13 Tryz.call13 (by rfl) (by simp) ?_;have f3:((3:Nat):Int) - 1=2:=rfl
 (repeat' (first|(fail)|(with_reducible first|refine stp ?_|apply gx1|apply gx2|apply gx3|apply gx4|apply gx5|apply gx6|apply gx7|apply gy8|apply gz2|apply gz3|refine gw0 (cn) ?_ ?_|refine gw3 (cn) ?_ ?_ ?_|refine gw0 (c1) ?_ ?_|refine gw3 (c1) ?_ ?_ ?_|refine gw0 (cs) ?_ ?_|refine gw3 (cs) ?_ ?_ ?_|refine gw0 (cc) ?_ ?_|refine gw3 (cc) ?_ ?_ ?_)|(with_reducible refine Zao ?_;intro _)|((with_reducible refine gE ?_);(try simp (disch:=omega) only [go_sem,f3,decide_eq_true,decide_eq_false,if_pos,if_neg,Int.reduceAdd,Int.reduceSub,Int.reduceToNat,Int.zero_add])<;>first|rfl|omega)|with_reducible refine Zab (by decide) ?_|((with_reducible apply gy1);iterate 3 focus rfl)|((with_reducible apply gy2);iterate 3 focus rfl)|((with_reducible apply gy3);iterate 2 focus rfl)|((with_reducible apply gy4);iterate 1 focus rfl)|((with_reducible apply gy5);iterate 4 focus rfl)|((with_reducible apply gy5c);iterate 4 focus rfl)|((with_reducible apply gy6);iterate 4 focus rfl)|((with_reducible apply Za7);iterate 3 focus rfl)|((with_reducible apply Za6);iterate 1 focus rfl)|((with_reducible apply gy7);iterate 1 focus rfl)|((with_reducible apply gy9);(focus ((with_reducible refine gE ?_);(try simp (disch:=omega) only [go_sem,f3,decide_eq_true,decide_eq_false,if_pos,if_neg,Int.reduceAdd,Int.reduceSub,Int.reduceToNat,Int.zero_add])<;>rfl)))|((with_reducible apply gz1);(focus first|rfl|(simp (disch:=omega) only [go_sem,f3,decide_eq_true,decide_eq_false,if_pos,if_neg,Int.reduceAdd,Int.reduceSub,Int.reduceToNat,Int.zero_add];done)))|((with_reducible apply Zae (id:=99) (Zau []) [] []);(focus kernel_rfl);(focus rfl);(focus kernel_rfl);(focus (simp only [List.length_cons,List.length_nil,Nat.reduceAdd];rfl)))|((with_reducible first|apply Za1|apply Za3|apply Za2);all_goals (intro hc;(try simp only [bool_to_prop] at hc);try (exfalso;omega)))|((with_reducible apply Zd1 5);(focus rfl))))
 refine Zq6 λRR hR=>?_;(focus (refine wkad w_t (w_4 m1 n2 m2 a1) (w_1 (w_d 13 [(2,.sl 4 []),(7,.sl 4 [.agg [.v (.bool false),lim [1],lim [1],.sl 4 []]]),(9,.sl 4 [.agg [.v (.bool false),lim [1],lim [1],.sl 4 []]]),(10,.sl 4 [.agg [.v (.bool false),lim [1],lim [1],.sl 4 []]])] [] [])) ?_;(repeat' first|exact w_t|apply w_l);all_goals intros));refine hR _ _ ?_
 (repeat' (first|(fail)|(with_reducible first|refine stp ?_|apply gx1|apply gx2|apply gx3|apply gx4|apply gx5|apply gx6|apply gx7|apply gy8|apply gz2|apply gz3|refine gw0 (m3) ?_ ?_|refine gw3 (m3) ?_ ?_ ?_)|(with_reducible refine Zao ?_;intro _)|((with_reducible refine gE ?_);(try simp (disch:=omega) only [go_sem,decide_eq_true,decide_eq_false,if_pos,if_neg,Int.reduceAdd,Int.reduceSub,Int.reduceToNat,Int.zero_add])<;>first|rfl|omega)|with_reducible refine Zab (by decide) ?_|((with_reducible apply gy1);iterate 3 focus rfl)|((with_reducible apply gy2);iterate 3 focus rfl)|((with_reducible apply gy3);iterate 2 focus rfl)|((with_reducible apply gy4);iterate 1 focus rfl)|((with_reducible apply gy5);iterate 4 focus rfl)|((with_reducible apply gy5c);iterate 4 focus rfl)|((with_reducible apply gy6);iterate 4 focus rfl)|((with_reducible apply Za7);iterate 3 focus rfl)|((with_reducible apply Za6);iterate 1 focus rfl)|((with_reducible apply gy7);iterate 1 focus rfl)|((with_reducible apply gy9);(focus ((with_reducible refine gE ?_);(try simp (disch:=omega) only [go_sem,decide_eq_true,decide_eq_false,if_pos,if_neg,Int.reduceAdd,Int.reduceSub,Int.reduceToNat,Int.zero_add])<;>rfl)))|((with_reducible apply gz1);(focus first|rfl|(simp (disch:=omega) only [go_sem,decide_eq_true,decide_eq_false,if_pos,if_neg,Int.reduceAdd,Int.reduceSub,Int.reduceToNat,Int.zero_add];done)))|((with_reducible apply Zae (id:=99) (Zau []) [] []);(focus kernel_rfl);(focus rfl);(focus kernel_rfl);(focus (simp only [List.length_cons,List.length_nil,Nat.reduceAdd];rfl)))|((with_reducible first|apply Za1|apply Za3|apply Za2);all_goals (intro hc;(try simp only [bool_to_prop] at hc);try (exfalso;omega)))|((with_reducible apply Zd1 5);(focus rfl))))
 refine Zq6 λRR hR=>?_;(focus (refine wkad w_t (w_4 m2 n0 m4 a2) (w_1 (w_d 13 [(2,.sl 4 [.agg [.v (.bool false),lim [1],lim [1],.sl 4 []]]),(7,.sl 4 []),(9,.sl 4 []),(10,.sl 4 [.agg [.v (.bool false),lim [1],lim [1],.sl 4 []]])] [] [])) ?_;(repeat' first|exact w_t|apply w_l);all_goals intros));refine hR _ _ ?_
 (repeat' (first|(fail)|(with_reducible first|refine stp ?_|apply gx1|apply gx2|apply gx3|apply gx4|apply gx5|apply gx6|apply gx7|apply gy8|apply gz2|apply gz3|refine gw0 (m5) ?_ ?_|refine gw3 (m5) ?_ ?_ ?_)|(with_reducible refine Zao ?_;intro _)|((with_reducible refine gE ?_);(try simp (disch:=omega) only [go_sem,decide_eq_true,decide_eq_false,if_pos,if_neg,Int.reduceAdd,Int.reduceSub,Int.reduceToNat,Int.zero_add])<;>first|rfl|omega)|with_reducible refine Zab (by decide) ?_|((with_reducible apply gy1);iterate 3 focus rfl)|((with_reducible apply gy2);iterate 3 focus rfl)|((with_reducible apply gy3);iterate 2 focus rfl)|((with_reducible apply gy4);iterate 1 focus rfl)|((with_reducible apply gy5);iterate 4 focus rfl)|((with_reducible apply gy5c);iterate 4 focus rfl)|((with_reducible apply gy6);iterate 4 focus rfl)|((with_reducible apply Za7);iterate 3 focus rfl)|((with_reducible apply Za6);iterate 1 focus rfl)|((with_reducible apply gy7);iterate 1 focus rfl)|((with_reducible apply gy9);(focus ((with_reducible refine gE ?_);(try simp (disch:=omega) only [go_sem,decide_eq_true,decide_eq_false,if_pos,if_neg,Int.reduceAdd,Int.reduceSub,Int.reduceToNat,Int.zero_add])<;>rfl)))|((with_reducible apply gz1);(focus first|rfl|(simp (disch:=omega) only [go_sem,decide_eq_true,decide_eq_false,if_pos,if_neg,Int.reduceAdd,Int.reduceSub,Int.reduceToNat,Int.zero_add];done)))|((with_reducible apply Zae (id:=99) (Zau []) [] []);(focus kernel_rfl);(focus rfl);(focus kernel_rfl);(focus (simp only [List.length_cons,List.length_nil,Nat.reduceAdd];rfl)))|((with_reducible first|apply Za1|apply Za3|apply Za2);all_goals (intro hc;(try simp only [bool_to_prop] at hc);try (exfalso;omega)))|((with_reducible apply Zd1 5);(focus rfl))))
 refine Zq6 λRR hR=>?_;(focus (refine wkad w_t (w_4 m2 n1 m6 a3) (w_1 (w_d 13 [(2,.sl 4 [.agg [.v (.bool false),lim [1],lim [1],.sl 4 []]]),(7,.sl 4 [.agg [.v (.bool false),lim [1],lim [1],.sl 4 [.agg [iv 3,iv 1,iv 0,iv 0]]]]),(9,.sl 4 [.agg [.v (.bool false),lim [1],lim [1],.sl 4 [.agg [iv 3,iv 1,iv 0,iv 0],.agg [iv 3,iv 2,iv 0,iv 0],.agg [iv 3,iv 2,iv 0,iv 0]]]]),(10,.sl 4 [.agg [.v (.bool false),lim [1],lim [1],.sl 4 []],.agg [.v (.bool false),lim [1],lim [1],.sl 4 [.agg [iv 3,iv 1,iv 0,iv 0],.agg [iv 3,iv 2,iv 0,iv 0],.agg [iv 3,iv 2,iv 0,iv 0]]]])] [] [])) ?_;(repeat' first|exact w_t|apply w_l);all_goals intros))
 refine hR _ _ ?_
 (repeat' (first|(fail)|(with_reducible first|refine stp ?_|apply gx1|apply gx2|apply gx3|apply gx4|apply gx5|apply gx6|apply gx7|apply gy8|apply gz2|apply gz3)|(with_reducible refine Zao ?_;intro _)|((with_reducible refine gE ?_);(try simp (disch:=omega) only [go_sem,decide_eq_true,decide_eq_false,if_pos,if_neg,Int.reduceAdd,Int.reduceSub,Int.reduceToNat,Int.zero_add])<;>first|rfl|omega)|with_reducible refine Zab (by decide) ?_|((with_reducible apply gy1);iterate 3 focus rfl)|((with_reducible apply gy2);iterate 3 focus rfl)|((with_reducible apply gy3);iterate 2 focus rfl)|((with_reducible apply gy4);iterate 1 focus rfl)|((with_reducible apply gy5);iterate 4 focus rfl)|((with_reducible apply gy5c);iterate 4 focus rfl)|((with_reducible apply gy6);iterate 4 focus rfl)|((with_reducible apply Za7);iterate 3 focus rfl)|((with_reducible apply Za6);iterate 1 focus rfl)|((with_reducible apply gy7);iterate 1 focus rfl)|((with_reducible apply gy9);(focus ((with_reducible refine gE ?_);(try simp (disch:=omega) only [go_sem,decide_eq_true,decide_eq_false,if_pos,if_neg,Int.reduceAdd,Int.reduceSub,Int.reduceToNat,Int.zero_add])<;>rfl)))|((with_reducible apply gz1);(focus first|rfl|(simp (disch:=omega) only [go_sem,decide_eq_true,decide_eq_false,if_pos,if_neg,Int.reduceAdd,Int.reduceSub,Int.reduceToNat,Int.zero_add];done)))|((with_reducible apply Zae (id:=99) (Zau []) [] []);(focus kernel_rfl);(focus rfl);(focus kernel_rfl);(focus (simp only [List.length_cons,List.length_nil,Nat.reduceAdd];rfl)))|((with_reducible first|apply Za1|apply Za3|apply Za2);all_goals (intro hc;(try simp only [bool_to_prop] at hc);try (exfalso;omega)))|((with_reducible apply Zd1 5);(focus rfl))))
 all_goals exact gL
end Go.Proofs.YtjekhacnoopdpaaGreatDoor
namespace Go.Proofs.YtjekhacnoopdpaaGreatDoor
open Go Go.RowKit Go.Pg
theorem ubSize:(Tryz.prog.info? 283).map (·.size)=some 2:=by kernel_rfl
theorem ubLies:liesAt Tryz.prog Tryz.prog.depth 283 (2/Tryz.prog.cellsOf 283) 0 283 1=true:=by kernel_rfl
theorem ubCells:Tryz.prog.cellsOf 5=1:=by kernel_rfl
theorem ubUsed (b:Nat) (w:World) (h0:w.cell? ⟨b,0,none⟩=some (.pointer (some ⟨b,0,none⟩))) :
 Calls Tryz.prog 310 #[.pointer (some ⟨b,0,none⟩)] w λe w'=>e=.returned (.tuple #[])∧w'=w:=by
 obtain⟨j,hj,_⟩:=Option.map_eq_some_iff.1 ubSize
 go_enter Tryz.func310,Tryz.ntmps310
 go_wp2
 rw [Lib.run_neq_ptr_same w _ Tryz.underlying281 hj]
 go_wp2
 go_end0
 exact⟨rfl,rfl⟩
theorem ubFresh (b:Nat) (w:World) (h0:w.cell? ⟨b,0,none⟩=some (.pointer none)) (hsh:w.shape? b=some (283,2)) (hfz:w.frozen? ⟨b,0,none⟩=false) :
 Calls Tryz.prog 310 #[.pointer (some ⟨b,0,none⟩)] w λe w'=>e=.returned (.tuple #[])∧w'=w.setCell ⟨b,0,none⟩ (.pointer (some ⟨b,0,none⟩)):=by
 obtain⟨j,hj,hjs⟩:=Option.map_eq_some_iff.1 ubSize
 go_enter Tryz.func310,Tryz.ntmps310
 go_wp2
 rw [Lib.run_to_unsafe w ⟨b,0,none⟩ Tryz.underlying281 Tryz.underlying322 hj (by rw [hjs];decide) hsh (Nat.zero_lt_succ 1)];simp only [Result.andThen];rw [Oper.upon_value]
 go_wp2
 rw [run_callFunc_extern Tryz.func319 (by kernel_rfl) (by kernel_rfl) (by kernel_rfl) (e:=Extern.AbiNoEscape.same) (by kernel_rfl)];rw [Lib.run_noEscape];simp only [Result.andThen];rw [Oper.upon_value]
 go_wp2
 rw [Lib.run_from_unsafe w ⟨b,0,none⟩ Tryz.underlying322 Tryz.underlying281 hj hsh ubLies];simp only [Result.andThen];rw [Oper.upon_value]
 go_wp2
 go_end0
 exact⟨rfl,rfl⟩
theorem ubString (b g cap:Nat) (p:Value) (cur:Array Value) (l:List UInt8) (w:World) (hbk:w.heap[b]?=some (.cells #[p,.slice (some ⟨g,0,none⟩) l.length cap] 283 (0,0)))
 (hg:w.heap[g]?=some (.cells cur 5 (0,0))) (h0:l≠[]) (hnc:l.length≤cap) (hcm:cap≤maxLen) (hcs:cur.size=cap) (hc:∀j x,l[j]?=some x→w.cell? ((⟨g,0,none⟩:Addr).add j)=some (.int .u8 x.toNat)) :
 Calls Tryz.prog 275 #[.pointer (some ⟨b,0,none⟩)] w λe w'=>e=.returned (.string ⟨l.toArray⟩)∧w'=w.drew.freeze ⟨g,0,none⟩ l.length:=by
 have hl0:l.length≠0:=by simpa using h0
 have c1:w.drew.cell? ⟨b,1,none⟩=some (.slice (some ⟨g,0,none⟩) l.length cap):=by
  have:w.drew.heap[b]?=some (.cells #[p,.slice (some ⟨g,0,none⟩) l.length cap] 283 (0,0)):=hbk;rw [Lib.cell_of_heap this];rfl
 have hSD:(Builtin.unsafeSliceData_ #[245] 313 #[.slice (some ⟨g,0,none⟩) l.length cap]).run Tryz.prog w.drew=.ok (.pointer (some ⟨g,0,none⟩)) w.drew :=
  Lib.run_unsafeSliceData_row _ _ _ _ _ _ (by omega)
 have hUS:(Builtin.unsafeString_ #[313,3] 9 #[.pointer (some ⟨g,0,none⟩),.int .i64 l.length]).run Tryz.prog w.drew=.ok (.string ⟨l.toArray⟩) (w.drew.freeze ⟨g,0,none⟩ l.length) :=
  Lib.run_unsafeString_row w.drew 313 3 9 5 Tryz.underlying313 ubCells g cur.size (by have hg':w.drew.heap[g]?=some (.cells cur 5 (0,0)):=hg;simp [World.shape?,hg']) l h0 (by omega) (by unfold maxLen at hcm;omega) hc
 have mixed:Tryz.prog.follows .mixedOrders=true:=by kernel_rfl
 go_enter Tryz.func275,Tryz.ntmps275
 go_wp2
 go_region_o
 all_goals (go_wp2;go_ret;exact⟨rfl,rfl⟩)
theorem szBld:szOf Tryz.prog 283=some 2:=by kernel_rfl
theorem zBld:Zav Tryz.prog 283=some (.agg #[.pointer none,.slice none 0 0]):=by kernel_rfl
theorem szSl8:szOf Tryz.prog 245=some 1:=by kernel_rfl
theorem zSl8:Zav Tryz.prog 245=some (.slice none 0 0):=by kernel_rfl
theorem szPB:szOf Tryz.prog 281=some 1:=by kernel_rfl
theorem zPB:Zav Tryz.prog 281=some (.pointer none):=by kernel_rfl
theorem Zp8 (w:World) (a:Addr) (n:Nat) (ad:Addr):(w.freeze a n).cell? ad=w.cell? ad:=by
 unfold World.freeze;split
 ·rfl
 ·unfold World.cell?;simp only [Array.getElem?_modify];by_cases h:a.block=ad.block
  ·rw [if_pos h]
   cases hh:w.heap[ad.block]? with
   | none=>rfl
   | some o=>cases o<;>rfl
  ·rw [if_neg h]
theorem Zoe (w:World) (g n:Nat):w.grownBy (w.freeze ⟨g,0,none⟩ n) (some g):=by
 unfold World.freeze;split
 ·exact⟨rfl,rfl,rfl,Nat.le_refl _,λk _ _=>rfl⟩
 ·exact⟨rfl,rfl,rfl,by simp,λk _ hk=>by
   simp only [Array.getElem?_modify];rw [if_neg (λe=>hk (by rw [←e]))]⟩
theorem mem_drop {c:Cx} {σ:Mem} {w w':World} {imm:Imm} (h:Mx c σ w imm) {row:Option Nat} (hg:w.grownBy w' row) (hB:∀g,row=some g→c.B≤g) (hcell:∀ad,imm ad→w'.cell? ad=w.cell? ad)
 (k:Nat) (hoth:∀j e2 b,j≠k→σ j=some e2→e2.blk=some b→some b≠row):Mx c (upd σ k none) w' imm∧Keeps w imm w' imm:=by
 refine⟨⟨⟨λj e2 hj=>?_,λj j' e1 e2 b h1 h2 h3 h4=>?_,λad h1=>Nat.lt_of_lt_of_le (h.ok.lt ad h1) hg.size,λad h1=>h.ok.spot ad h1⟩,h.below.grown hg h.lt (λg hg'=>hB g hg'),Nat.le_trans h.lt hg.size,h.old,h.new,λad h1=>(hcell ad (h.old ad h1)).trans (h.cells ad h1)⟩,λad h1=>⟨h1,hcell ad h1⟩⟩
 ·rw [Zac] at hj;by_cases hjk:j=k
  ·rw [if_pos hjk] at hj;cases hj
  ·rw [if_neg hjk] at hj;refine(h.ok.ent j e2 hj).keep hg ?_ (λ_ h1=>h1) hcell λad h1=>.inl h1;rcases hb:e2.blk with _ | b
   ·exact .inl rfl
   ·exact .inr (hoth j e2 b hjk hj hb)
 ·rw [Zac] at h1 h2;by_cases hjk:j=k
  ·rw [if_pos hjk] at h1;cases h1
  ·by_cases hjk':j'=k
   ·rw [if_pos hjk'] at h2;cases h2
   ·rw [if_neg hjk] at h1;rw [if_neg hjk'] at h2;exact h.ok.apart j j' e1 e2 b h1 h2 h3 h4
theorem ubVs {w:World} {imm:Imm} {KB g:Nat} {vs:Array Value} (hl:[AV.pbox KB g 0].length=vs.size) (hr:∀(j:Nat) (a:AV) (x:Value),[AV.pbox KB g 0][j]?=some a→vs[j]?=some x→Rs w imm a x):vs=#[.pointer (some ⟨g,0,none⟩)]:=by
 have h1:vs.size=1:=hl.symm;have h2:=hr 0 _ vs[0] rfl (Array.getElem?_eq_getElem (by omega));have h3:=h2.pbox_inv;refine Array.ext (by simpa using h1) λi hi hj=>?_;have:i=0:=by omega
 subst this
 simpa using h3
theorem ubCur {cur:Array Value} (h:2=cur.size):∃x y,cur=#[x,y]:=by
 refine⟨cur[0],cur[1],Array.ext (by simpa using h.symm) λi hi hj=>?_⟩
 match i,hi,hj with
 | 0,_,_=>rfl
 | 1,_,_=>rfl
 | i+2,hi,_=>omega
theorem bldCheck (σ:Mem) (KB g:Nat) (c0 c1:AV) (hB:σ KB=some (.box g 283 [c0,c1] false)) (h0:c0=.v (.pointer none)∨c0=.pbox KB g 0) :
 ACall Tryz.prog 310 [.pbox KB g 0] σ λr σ'=>r=.tup []∧σ'=upd σ KB (some (.box g 283 [.pbox KB g 0,c1] false)):=by
 refine⟨Tryz.call310,λc w imm vs hm hl hr=>?_⟩;obtain rfl:=ubVs hl hr;obtain⟨cur,hh,hBg,hlen,hone,hrs,hp,hq⟩:=hm.ok.ent KB _ hB;obtain⟨x,y,rfl⟩:=ubCur hlen;have hx:=hrs 0 _ x rfl rfl;have hy:=hrs 1 _ y rfl rfl;have c0':w.cell? ⟨g,0,none⟩=some x:=by rw [Lib.cell_of_heap hh];rfl
 rcases h0 with rfl | rfl
 ·obtain rfl:=hx.v_inv;refine(ubFresh g w c0' (by simp [World.shape?,hh]) (by simp [World.frozen?,hh])).mono ?_
  rintro e w' ⟨rfl,rfl⟩
  have hgr:w.grownBy (w.setCell ⟨g,0,none⟩ (.pointer (some ⟨g,0,none⟩))) (some g):=⟨rfl,rfl,rfl,by simp,λk _ hk=>heap_setCell_other w ⟨g,0,none⟩ k _ (λe=>hk (by simp [e]))⟩;have hcell:∀ad,imm ad→(w.setCell ⟨g,0,none⟩ (.pointer (some ⟨g,0,none⟩))).cell? ad=w.cell? ad:=λad h2=>Ze7 hgr (hm.ok.lt ad h2) (by
   have hne:ad.block≠g:=λe=>by have:=hp ad h2 e;cases this
   simpa using hne)
  have hkeep:Keeps w imm (w.setCell ⟨g,0,none⟩ (.pointer (some ⟨g,0,none⟩))) imm:=λad h2=>⟨h2,hcell ad h2⟩;refine⟨.tup [],_,imm,_,rfl,⟨rfl,rfl⟩,.pure (.tup [] #[] rfl λj a x h1 _=>by simp at h1),Zeg hm hgr (λg' hg'=>by cases hg';exact hBg) hcell KB _ ⟨_,heap_setCell_same w g 0 _ _ _ hh,hBg,rfl,λb hb=>?_,λj b z h2 h3=>?_,hp,λh2=>by cases h2⟩ λj e2 b h2 h3 h4=>?_⟩
  ·simp only [List.mem_cons,List.not_mem_nil,or_false] at hb;rcases hb with rfl | rfl
   ·rfl
   ·exact hone _ (by simp)
  ·match j,h2,h3 with
   | 0,h2,h3 =>
     simp only [List.getElem?_cons_zero,Option.some.injEq] at h2;subst h2;have:z=.pointer (some ⟨g,0,none⟩):=by simpa using h3.symm
     subst this;exact .pbox _ _ _
   | 1,h2,h3 =>
     simp only [List.getElem?_cons_succ,List.getElem?_cons_zero,Option.some.injEq] at h2;subst h2;have:z=y:=by simpa using h3.symm
     subst this;exact hkeep.rs hy
   | j+2,h2,h3=>simp at h2
  ·have:b≠g:=λe=>h2 (hm.ok.apart j KB e2 _ g h3 hB (e ▸ h4) rfl);exact⟨by simpa using this,by simpa [Ent.blk] using λe=>this e.symm⟩
 ·obtain rfl:=hx.pbox_inv;refine(ubUsed g w c0').mono ?_
  rintro e w' ⟨rfl,rfl⟩
  have he:upd σ KB (some (.box g 283 [.pbox KB g 0,c1] false))=σ:=by
   funext k
   rw [Zac];split
   ·rename_i h;rw [h,hB]
   ·rfl
  exact⟨.tup [],_,imm,_,rfl,⟨rfl,rfl⟩,.pure (.tup [] #[] rfl λj a x h1 _=>by simp at h1),by rw [he];exact hm,Keeps.refl _ _⟩
theorem Zxd (σ:Mem) (KB KT g:Nat) (sv:Value) (c0:AV) (l:List UInt8) (hB:σ KB=some (.box g 283 [c0,.own KT sv] false)) (hT:σ KT=some (.row sv 5 1 (l.map λb=>.v (.int .u8 b.toNat)) 0)) (h0:l≠[]) :
 ACall Tryz.prog 275 [.pbox KB g 0] σ λr σ'=>r=.v (.string ⟨l.toArray⟩)∧σ'=upd σ KT none:=by
 refine⟨Tryz.call275,λc w imm vs hm hl hr=>?_⟩;obtain rfl:=ubVs hl hr;obtain⟨cur,hh,hBg,hlen,hone,hrs,hp,hq⟩:=hm.ok.ent KB _ hB;obtain⟨x,y,rfl⟩:=ubCur hlen;have hy:=hrs 1 _ y rfl rfl;obtain rfl:=hy.own_inv;obtain⟨xs,hown,-,-,hrd,-,hpi,-⟩:=hm.ok.ent KT _ hT;have hl0:l.length≠0:=by simpa using h0
 have hll:(l.map λb=>AV.v (.int .u8 b.toNat)).length=l.length:=List.length_map ..;rw [hll] at hown;rcases hown.2 with⟨_,h2⟩ | ⟨gr,cap,cur,rfl,hBr,hhr,hnc,hcm,hcs,htake⟩
 ·exact absurd h2 hl0
 have hxs:∀(j:Nat) (z:UInt8),l[j]?=some z→xs[j]?=some (Value.int .u8 z.toNat):=λj z hz=>by
  have hj:j < xs.length:=by rw [hown.1,Nat.mul_one];exact(List.getElem?_eq_some_iff.1 hz).1
  have:=hrd j (.v (.int .u8 z.toNat)) xs[j] (by rw [Ztc l λb:UInt8=>(.int .u8 b.toNat:Value),List.getElem?_map,hz];rfl) (List.getElem?_eq_getElem hj);have:=(Rs.pure this).v_inv;rw [List.getElem?_eq_getElem hj,this]
 refine(ubString g gr cap x cur l w hh hhr h0 hnc hcm (by rw [hcs,Nat.mul_one]) λj z hz=>?_).mono ?_
 ·have hj:=(List.getElem?_eq_some_iff.1 hz).1;have:=hown.cellAt j (by omega);rw [Addr.add_lit,Nat.zero_add,this,hxs j z hz]
 ·rintro e w' ⟨rfl,rfl⟩
  have hgr:w.grownBy (w.drew.freeze ⟨gr,0,none⟩ l.length) (some gr):=by
   have:=Zoe w.drew gr l.length;exact⟨this.os,this.tape,this.output,this.size,this.block⟩
  have hcell:∀ad,imm ad→(w.drew.freeze ⟨gr,0,none⟩ l.length).cell? ad=w.cell? ad:=λad _=>by rw [Zp8];rfl
  obtain⟨h1,h2⟩:=mem_drop hm hgr (λg' hg'=>by cases hg';exact hBr) hcell KT λj e2 b h2 h3 h4 he=>h2 (hm.ok.apart j KT e2 _ gr h3 hT (by cases he;exact h4) rfl);exact⟨_,_,imm,_,rfl,⟨rfl,rfl⟩,.pure (.v _),h1,h2⟩
end Go.Proofs.YtjekhacnoopdpaaGreatDoor
namespace Go.Proofs.YtjekhacnoopdpaaGreatDoor
open Go Go.RowKit Go.Pg
attribute [-bool_to_prop] Bool.and_eq_decide Bool.or_eq_decide Bool.decide_beq_decide decide_eq_decide
attribute [local go_sem] Tryz.underlying3 Tryz.underlying4 Tryz.underlying169 Tryz.underlying5 Tryz.underlying41 Tryz.underlying9 Tryz.underlying245 Tryz.underlying283 Tryz.underlying281 Tryz.underlying40 sz3 by3 z3 szL byL zL szU8 byU8 zU8 szBld zBld szSl8 zSl8 szPB zPB
def by8 (b:UInt8):AV:=.v (.int .u8 b.toNat)
theorem bldLen (σ:Mem) (KB KT g:Nat) (sv:Value) (c0:AV) (l:List UInt8) (hB:σ KB=some (.box g 283 [c0,.own KT sv] false)) (hT:σ KT=some (.row sv 5 1 (l.map by8) 0)) :
 ACall Tryz.prog 273 [.pbox KB g 0] σ λr σ'=>r=iv l.length∧σ'=σ:=by
 have mB:=Zck hB;have mT:=Zck hT;simp only [Ent.sh,AV.shL,AV.sh] at mB mT;have hl:(l.map by8).length=l.length:=List.length_map ..;refine Zdl Tryz.func273 rfl Tryz.ntmps273 Tryz.results273 Tryz.call273 (by rfl) (by simp) ?_;generalize l.map by8=L at *;(focus (refine wkad (w_3 mB mT hl) w_t w_t ?_;(repeat' first|exact w_t|apply w_l);all_goals intros));simp (disch:=omega) only [go_sem];exact Ztk (Sub.refl _) ⟨rfl,rfl⟩ (Agr.start σ)
theorem bldWrite (σ:Mem) (KB KT g:Nat) (sv:Value) (c0:AV) (l:List UInt8) (b:UInt8) (hB:σ KB=some (.box g 283 [c0,.own KT sv] false)) (hT:σ KT=some (.row sv 5 1 (l.map by8) 0))
 (h0:c0=.v (.pointer none)∨c0=.pbox KB g 0) (n2:KB≠KT) (hl:l.length≤100000000) :
 ACall Tryz.prog 274 [.pbox KB g 0,by8 b] σ λr σ'=>∃sv',r=.v .nilIface∧σ'=upd (upd σ KT (some (.row sv' 5 1 ((l++[b]).map by8) 0))) KB (some (.box g 283 [.pbox KB g 0,.own KT sv'] false)):=by
 have mB:=Zck hB;have mT:=Zck hT;simp only [Ent.sh,AV.shL,AV.sh] at mB mT;have hl1:(l.map by8).length=l.length:=List.length_map ..;rw [List.map_append];have hcc:=bldCheck (Zds σ) (KB+1000) g c0.sh (.own (KT+1000) sv) mB (by rcases h0 with rfl | rfl;exact .inl rfl;exact .inr rfl);refine Zdl Tryz.func274 rfl Tryz.ntmps274 Tryz.results274 Tryz.call274 (by rfl) (by simp) ?_;generalize l.map by8=L at *;have hb8:by8 b=.v (.int .u8 b.toNat):=rfl;rw [hb8];simp only [AV.shL,AV.sh];(focus (refine wkad (w_3 mB mT hl1) w_t w_t ?_;(repeat' first|exact w_t|apply w_l);all_goals intros));refine Zbj hcc ?_
 (focus (refine wkad (w_2 mT hl1) w_t w_t ?_;(repeat' first|exact w_t|apply w_l);all_goals intros));simp (disch:=omega) only [go_sem];rename_i x1 x2;refine Ztk (Sub.refl _) ⟨x2,rfl,rfl⟩ ?_;have he:∀a c d:Option Ent,upd (upd σ KT a) KB d=upd (upd (upd σ KB c) KT a) KB d:=λa c d=>by
  funext j
  simp only [Zac];by_cases h:j=KB
  ·rw [if_pos h,if_pos h]
  ·rw [if_neg h,if_neg h,if_neg h]
 rw [he _ (some (.box g 283 [.pbox KB g 0,.own KT sv] false)) _];refine Agr.put ?_ rfl rfl;refine Agr.put ?_ rfl rfl;refine Agr.own ?_ (by omega);refine Agr.put ?_ rfl rfl;exact Agr.start σ
end Go.Proofs.YtjekhacnoopdpaaGreatDoor
namespace Go.Proofs.YtjekhacnoopdpaaGreatDoor
open Go Go.RowKit Go.Pg
def digF:Nat→Nat→List UInt8
 | 0,_=>[]
 | f+1,n=>if n=0 then [] else digF f (n/10)++[UInt8.ofNat (48+n%10)]
def dig (n:Nat):List UInt8:=digF n n
theorem Zol:∀(f g n:Nat),n≤f→n≤g→digF f n=digF g n
 | 0,0,_,_,_=>rfl
 | 0,g+1,n,h,_=>by
   have:n=0:=by omega
   subst this;rfl
 | f+1,0,n,_,h=>by
   have:n=0:=by omega
   subst this;rfl
 | f+1,g+1,n,h1,h2=>by
   unfold digF;by_cases h:n=0
   ·rw [if_pos h,if_pos h]
   ·rw [if_neg h,if_neg h,Zol f g _ (by omega) (by omega)]
theorem Zr2:dig 0=[]:=rfl
theorem Zi8 {n:Nat} (h:n≠0):dig n=dig (n/10)++[UInt8.ofNat (48+n%10)]:=by
 obtain⟨m,rfl⟩:∃m,n=m+1:=⟨n - 1,by omega⟩;show digF (m+1) (m+1)=_;rw [digF,if_neg h];rw [Zol m ((m+1)/10) _ (by omega) (by omega)];rfl
theorem Zr3 {n:Nat}:(dig n).length=0↔n=0:=by
 constructor
 ·intro h;rcases Nat.eq_zero_or_pos n with h1 | h1
  ·exact h1
  ·rw [Zi8 (by omega)] at h;simp at h
 ·rintro rfl;rfl
theorem Zwv:∀{k n:Nat},n < 10 ^ k→(dig n).length≤k
 | 0,n,h=>by
   have:n=0:=by simpa using h
   subst this;simp [Zr2]
 | k+1,n,h=>by
   rcases Nat.eq_zero_or_pos n with h1 | h1
   ·subst h1;simp [Zr2]
   ·rw [Zi8 (by omega),List.length_append];have:=Zwv (k:=k) (n:=n/10) (by rw [Nat.pow_succ] at h;omega);simp only [List.length_cons,List.length_nil];omega
theorem dig_lg (n:Nat):(dig n).length≤5*(toL n).length:=by
 refine Zwv ?_;have h1:=Zag.1 (Nat.le_refl ((toL n).length))
 have h3:65536 ^ (toL n).length≤10 ^ (5*(toL n).length):=by
  rw [Nat.pow_mul];exact Nat.pow_le_pow_left (by decide) _
 omega
theorem decB_dig:∀(n:Nat) (s:ByteArray),decB n n s=⟨(dig n).toArray⟩++s:=by
 intro n
 induction n using Nat.strongRecOn with
 | ind n ih =>
   intro s;rcases Nat.eq_zero_or_pos n with h | h
   ·subst h;show s=ByteArray.empty++s;rw [ByteArray.empty_append]
   ·rw [Zwy (by omega),ih (n/10) (by omega),Zi8 (n:=n) (by omega),←ByteArray.append_assoc];congr 1
theorem decS_dig {n:Nat} (h:n≠0):decS n=⟨(dig n).toArray⟩:=by
 unfold decS;rw [if_neg h,decB_dig,ByteArray.append_empty]
def g4F:Nat→Nat→List Nat
 | 0,_=>[]
 | f+1,n=>if n=0 then [] else n%10000 :: g4F f (n/10000)
def g4 (n:Nat):List Nat:=g4F n n
theorem Zrv:∀(f g n:Nat),n≤f→n≤g→g4F f n=g4F g n
 | 0,0,_,_,_=>rfl
 | 0,g+1,n,h,_=>by
   have:n=0:=by omega
   subst this;rfl
 | f+1,0,n,_,h=>by
   have:n=0:=by omega
   subst this;rfl
 | f+1,g+1,n,h1,h2=>by
   unfold g4F;by_cases h:n=0
   ·rw [if_pos h,if_pos h]
   ·rw [if_neg h,if_neg h,Zrv f g _ (by omega) (by omega)]
theorem Zwg {n:Nat} (h:n≠0):g4 n=n%10000 :: g4 (n/10000):=by
 obtain⟨m,rfl⟩:∃m,n=m+1:=⟨n - 1,by omega⟩;show g4F (m+1) (m+1)=_;rw [g4F,if_neg h];rw [Zrv m ((m+1)/10000) _ (by omega) (by omega)];rfl
theorem Zwu (n i:Nat):n/10000 ^ (i+1)=n/10000/10000 ^ i:=by
 rw [Nat.pow_succ,Nat.mul_comm,Nat.div_div_eq_div_mul]
theorem Zr1 (n i:Nat):n/10000 ^ (i+1)=n/10000 ^ i/10000:=by
 rw [Nat.pow_succ,Nat.div_div_eq_div_mul]
theorem Ztb:∀(i n:Nat),i < (g4 n).length↔n/10000 ^ i≠0
 | i,n=>by
   rcases Nat.eq_zero_or_pos n with h | h
   ·subst h;simp [g4,g4F]
   ·rw [Zwg (by omega),List.length_cons]
    cases i with
    | zero=>simp;omega
    | succ i=>rw [Zwu,←Ztb i (n/10000)];omega
theorem Zwh:∀(i n:Nat) (h:i < (g4 n).length),(g4 n)[i]=n/10000 ^ i%10000
 | i,n,h=>by
   have h0:n≠0:=by rintro rfl;simp [g4,g4F] at h
   have e:=Zwg h0;have e2:(g4 n)[i]?=(n%10000 :: g4 (n/10000))[i]?:=by rw [e]
   rw [List.getElem?_eq_getElem h] at e2
   cases i with
   | zero =>
     simp only [List.getElem?_cons_zero,Option.some.injEq] at e2;rw [e2];simp
   | succ i =>
     have h2:i < (g4 (n/10000)).length:=by rw [e,List.length_cons] at h;omega
     rw [List.getElem?_cons_succ,List.getElem?_eq_getElem h2,Option.some.injEq,Zwh i _ h2,←Zwu] at e2;exact e2
theorem g4_len (n:Nat):(g4 n).length≤5*(toL n).length:=by
 rcases Nat.eq_zero_or_pos (g4 n).length with h | h
 ·omega
 ·have h0:=(Ztb ((g4 n).length - 1) n).1 (by omega);generalize (g4 n).length=L at *;have h1:=Zag.1 (Nat.le_refl ((toL n).length))
  have h3:65536 ^ (toL n).length≤10000 ^ (2*(toL n).length):=by
   rw [Nat.pow_mul];exact Nat.pow_le_pow_left (by decide) _
  have h4:10000 ^ (L - 1)≤n:=by
   rcases Nat.lt_or_ge n (10000 ^ (L - 1)) with h5 | h5
   ·exact absurd (Nat.div_eq_of_lt h5) h0
   ·exact h5
  have h5:10000 ^ (L - 1) < 10000 ^ (2*(toL n).length):=by omega
  have:=(Nat.pow_lt_pow_iff_right (by decide:1 < 10000)).1 h5;omega
end Go.Proofs.YtjekhacnoopdpaaGreatDoor
namespace Go.Proofs.YtjekhacnoopdpaaGreatDoor
open Go Go.RowKit Go.Pg
attribute [-bool_to_prop] Bool.and_eq_decide Bool.or_eq_decide Bool.decide_beq_decide decide_eq_decide
attribute [local go_sem] Tryz.underlying3 Tryz.underlying4 Tryz.underlying169 Tryz.underlying5 Tryz.underlying41 Tryz.underlying9 Tryz.underlying245 Tryz.underlying283 Tryz.underlying281 Tryz.underlying40 sz3 by3 z3 szL byL zL szU8 byU8 zU8 szBld zBld szSl8 zSl8 szPB zPB
def w16 (x:Nat):AV:=.v (.int .u16 (x:Int))
theorem g4_take {n i:Nat} (h:n/10000 ^ i≠0):((g4 n).take (i+1)).map w16=((g4 n).take i).map w16++[.v (.int .u16 ((n/10000 ^ i%10000:Nat):Int))]:=by
 have hi:=(Ztb i n).2 h;rw [List.take_add_one,List.getElem?_eq_getElem hi,Zwh i n hi,List.map_append];rfl
theorem g4_all {n i:Nat} (hi:i≤(g4 n).length) (h:n/10000 ^ i=0):i=(g4 n).length:=by
 rcases Nat.lt_or_ge i (g4 n).length with h1 | h1
 ·exact absurd h ((Ztb i n).1 h1)
 ·omega
theorem dig_w8 (x:Nat) (h:x < 10):by8 (UInt8.ofNat (48+x))=.v (.int .u8 ((48+x:Nat):Int)):=by
 unfold by8;rw [show(UInt8.ofNat (48+x)).toNat=48+x from(UInt8.toNat_ofNat' ..).trans (by omega)]
def dl:Nat→Nat
 | 0=>1000 | 1=>100 | 2=>10 | 3=>1 | _=>0
def vl (V g:Nat):Nat→Nat
 | 0=>V | 1=>(V*10000+g)/1000 | 2=>(V*10000+g)/100 | 3=>(V*10000+g)/10 | _=>V*10000+g
theorem vl_step {V g j:Nat} (hg:g < 10000) (hj:j < 4):vl V g (j+1)=vl V g j*10+g/dl j%10∧(vl V g j=0→V=0)∧(vl V g j=0→(vl V g (j+1)=0↔g < dl j))∧dl j/10=dl (j+1)∧0 < dl j∧dl j≤1000∧vl V g j≤V*10000+g:=by
 match j,hj with
 | 0,_=>(show(V*10000+g)/1000=V*10+g/1000%10∧(V=0→V=0)∧(V=0→((V*10000+g)/1000=0↔g < 1000))∧1000/10=100∧0 < 1000∧1000≤1000∧V≤V*10000+g;omega)
 | 1,_=>(show(V*10000+g)/100=(V*10000+g)/1000*10+g/100%10∧((V*10000+g)/1000=0→V=0)∧((V*10000+g)/1000=0→((V*10000+g)/100=0↔g < 100))∧100/10=10∧0 < 100∧100≤1000∧(V*10000+g)/1000≤V*10000+g;omega)
 | 2,_=>(show(V*10000+g)/10=(V*10000+g)/100*10+g/10%10∧((V*10000+g)/100=0→V=0)∧((V*10000+g)/100=0→((V*10000+g)/10=0↔g < 10))∧10/10=1∧0 < 10∧10≤1000∧(V*10000+g)/100≤V*10000+g;omega)
 | 3,_=>(show V*10000+g=(V*10000+g)/10*10+g/1%10∧((V*10000+g)/10=0→V=0)∧((V*10000+g)/10=0→(V*10000+g=0↔g < 1))∧1/10=0∧0 < 1∧1≤1000∧(V*10000+g)/10≤V*10000+g;omega)
theorem dig_next {v x:Nat} (h:v*10+x≠0) (hx:x < 10):dig (v*10+x)=dig v++[UInt8.ofNat (48+x)]:=by
 rw [Zi8 h,show(v*10+x)/10=v from by omega,show(v*10+x)%10=x from by omega]
theorem Zvz (n:Nat) (hn:(toL n).length≤10000000):Pure Tryz.prog 215 [lim (toL n)] (.v (.string (decS n))):=by
 have cn:=Zn0 n (by omega);by_cases h0:n=0
 ·subst h0;have l0:(toL 0).length=0:=by rw [Zax];rfl
  refine Zaa (tok:=0) Tryz.func215 rfl Tryz.ntmps215 Tryz.results215 Tryz.call215 (by rfl) (by simp) ?_;(focus (refine wkvd (w_2 l0 @Int.natCast_zero) (w_1 cn) w_t ?_;(repeat' first|exact w_t|apply w_l);all_goals intros));simp (disch:=omega) only [go_sem];rfl
 ·have hp:=Zbb.2 (Nat.pos_of_ne_zero h0);have hG:=g4_len n;have hD:=decS_dig h0;rw [hD];refine Zaa (tok:=0) Tryz.func215 rfl Tryz.ntmps215 Tryz.results215 Tryz.call215 (by rfl) (by simp) ?_;(focus (refine wkvd w_t (w_1 cn) w_t ?_;(repeat' first|exact w_t|apply w_l);all_goals intros));refine Zej (Frz.nilOwn (d:=3) 500 1 169 (by exact gC)) ?_;refine Zad (ι:=Nat) (λi e m=>i≤(g4 n).length∧e 0=lim (toL (n/10000 ^ i))∧∃sv,e 3=.own 500 sv∧m 500=some (.row sv 169 1 (((g4 n).take i).map w16) 0)) (λi=>(g4 n).length - i) 0 (by rfl) ?_ ?_
  ·rintro i e m ⟨hi,e0,sv,e3,m500⟩
   have hlr:(((g4 n).take i).map w16).length≤100000000:=by rw [List.length_map,List.length_take];omega
   by_cases hk0:n/10000 ^ i=0
   ·have hiL:=g4_all hi hk0;rw [hk0] at e0;subst hiL;rw [List.take_length] at m500;clear hlr;have l0:(toL 0).length=0:=by rw [Zax];rfl
    have hGl:((g4 n).map w16).length=(g4 n).length:=List.length_map ..;have hGp:0 < (g4 n).length:=(Ztb 0 n).2 (by simpa using h0);have gg:∀i (h:i < (g4 n).length),((g4 n).map w16).getD i .u=.v (.int .u16 ((n/10000 ^ i%10000:Nat):Int)):=λi h=>by
     rw [Za0 w16 h,Zwh i n h];rfl
    generalize (g4 n).map w16=W at *;(focus (refine wkvd (w_6 e0 e3 m500 l0 @Int.natCast_zero hGl) w_t w_t ?_;(repeat' first|exact w_t|apply w_l);all_goals intros));rename_i gB;refine Zej (Frz.nilBox (k:=6) 1 501 1 5 (by exact gC) rfl (by omega)) ?_;refine Zad (ι:=Nat) (λi e m=>i≤(g4 n).length∧(e 3=.own 500 sv∧e 6=.pbox 6 gB 0∧e 7=.v (.int .i64 (((g4 n).length:Int) - 1 - (i:Int)))∧m 500=some (.row sv 169 1 W 0))∧∃c0 sv2,m 6=some (.box gB 283 [c0,.own 501 sv2] false)∧(c0=.v (.pointer none)∨c0=.pbox 6 gB 0)∧m 501=some (.row sv2 5 1 ((dig (n/10000 ^ ((g4 n).length - i))).map by8) 0)) (λi=>(g4 n).length - i) 0 (by rfl) ?_ ?_
    ·rintro i e m ⟨hi,⟨e3,e6,e7,m500⟩,c0,sv2,m6,hc0,m501⟩
     by_cases hlt:i < (g4 n).length
     ·obtain⟨p,hp⟩:∃p,(g4 n).length=p+1+i:=⟨(g4 n).length - 1 - i,by omega⟩;have ggp:=gg p (by omega);have hV:n/10000 ^ ((g4 n).length - i)=n/10000 ^ p/10000:=by rw [show(g4 n).length - i=p+1 from by omega,Zr1]
      have hV2:n/10000 ^ ((g4 n).length - (i+1))=n/10000 ^ p:=by rw [show(g4 n).length - (i+1)=p from by omega]
      have hT:n/10000 ^ p/10000*10000+n/10000 ^ p%10000=n/10000 ^ p:=by omega
      have hle:n/10000 ^ p≤n:=Nat.div_le_self _ _;have e7:e 7=iv p:=by rw [e7];congr 2;omega
      have hgl:n/10000 ^ p%10000 < 10000:=Nat.mod_lt _ (by omega);rw [hV] at m501;clear gg hV;generalize n/10000 ^ p%10000=g at *;generalize hVe:n/10000 ^ p/10000=V at *;(focus (refine wkad (w_7 e3 e6 e7 m500 m6 m501 hGl) w_t w_t ?_;(repeat' first|exact w_t|apply w_l);all_goals intros));refine Zad (ι:=Nat) (λj e m=>j≤4∧(e 3=.own 500 sv∧e 6=.pbox 6 gB 0∧e 7=iv p∧e 8=.v (.int .u16 (dl j:Nat))∧m 500=some (.row sv 169 1 W 0))∧∃c0 sv2,m 6=some (.box gB 283 [c0,.own 501 sv2] false)∧(c0=.v (.pointer none)∨c0=.pbox 6 gB 0)∧m 501=some (.row sv2 5 1 ((dig (vl V g j)).map by8) 0)) (λj=>4 - j) 0 (by rfl) ?_ ?_
      ·rintro j e m ⟨hj,⟨e3,e6,e7,e8,m500⟩,c0,sv2,m6,hc0,m501⟩
       by_cases hj4:j < 4
       ·obtain⟨s1,s2,s3,s4,s5,s6,s7⟩:=vl_step (V:=V) hgl hj4
        have hdl:(dig (vl V g j)).length≤100000000:=by
         have h1:=dig_lg (vl V g j);have h2:=Zcy (n:=vl V g j) (m:=n) (by omega);omega
        have hdz:=Zr3 (n:=vl V g j);have hx:g/dl j%10 < 10:=Nat.mod_lt _ (by omega);have hdn:=dig_next (v:=vl V g j) (x:=g/dl j%10);rw [←s1] at hdn;obtain⟨v1,hv1⟩:∃v1,vl V g (j+1)=v1:=⟨_,rfl⟩;rw [hv1] at s1 s3 hdn;generalize vl V g j=v at *;generalize dl j=d at *
        have w0:IntKind.u16.wrap ((g/d:Nat):Int)=((g/d:Nat):Int):=by
         have:g/d≤g:=Nat.div_le_self _ _;show((g/d:Nat):Int)%65536=_;generalize g/d=z at *;omega
        have w1:IntKind.u16.wrap (48+(((g/d:Nat):Int)).tmod 10)=((48+g/d%10:Nat):Int):=by
         rw [Int.tmod_eq_emod_of_nonneg (Int.natCast_nonneg _)];show(48+((g/d:Nat):Int)%10)%65536=_;generalize g/d=z at *;omega
        have w3:IntKind.u16.wrap ((d:Int).tdiv 10)=((d/10:Nat):Int):=by
         rw [Int.tdiv_eq_ediv_of_nonneg (Int.natCast_nonneg _)];show((d:Int)/10)%65536=_;omega
        have w2:IntKind.u8.wrap ((48+g/d%10:Nat):Int)=((48+g/d%10:Nat):Int):=by
         show(((48+g/d%10:Nat):Int))%256=_;omega
        have hb8:=dig_w8 (g/d%10) hx;have cl:=fun(m:Mem) a b=>bldLen m 6 501 gB sv2 c0 (dig v) a b;have cw:=fun(m:Mem) a b=>bldWrite m 6 501 gB sv2 c0 (dig v) (UInt8.ofNat (48+g/d%10)) a b hc0 (by omega) hdl;rw [hb8] at cw;(focus (refine wkad (w_8 e3 e6 e7 e8 m500 m6 m501 hGl) w_t w_t ?_;(repeat' first|exact w_t|apply w_l);all_goals intros));refine Zda (cl _ (by exact gW m6) (by exact gW m501)) ?_
        rintro _ _ ⟨rfl,rfl⟩
        by_cases hv:v=0
        ·have hl0:=hdz.2 hv;by_cases hgd:g < d
         ·(focus (refine wkad (w_16 e3 e6 e7 e8 m500 m6 m501 hGl ggp @Zc7 w0 w1 w2 w3 hl0 @Int.natCast_zero) w_t w_t ?_;(repeat' first|exact w_t|apply w_l);all_goals intros));exact⟨j+1,⟨by omega,⟨by exact gW e3,by exact gW e6,by exact gW e7,by rw [←s4];exact gC,by exact gW m500⟩,c0,sv2,by exact gW m6,hc0,by rw [hv1,(s3 hv).2 hgd];rw [hv] at m501;exact gW m501⟩,by omega⟩
         ·have hne:=λh=>hgd ((s3 hv).1 h);(focus (refine wkad (w_16 e3 e6 e7 e8 m500 m6 m501 hGl ggp @Zc7 w0 w1 w2 w3 hl0 @Int.natCast_zero) w_t w_t ?_;(repeat' first|exact w_t|apply w_l);all_goals intros));refine Zda (cw _ (by exact gW m6) (by exact gW m501)) ?_
          rintro _ _ ⟨sv3,rfl,rfl⟩
          (focus (refine wkad (w_7 e3 e6 e7 e8 m500 hGl w3) w_t w_t ?_;(repeat' first|exact w_t|apply w_l);all_goals intros));exact⟨j+1,⟨by omega,⟨by exact gW e3,by exact gW e6,by exact gW e7,by rw [←s4];exact gC,by exact gW m500⟩,.pbox 6 gB 0,sv3,by exact gC,.inr rfl,by rw [hv1,hdn (by omega) hx];exact gC⟩,by omega⟩
        ·have hlp:0 < (dig v).length:=Nat.pos_of_ne_zero λh=>hv (hdz.1 h);(focus (refine wkad (w_14 e3 e6 e7 e8 m500 m6 m501 hGl ggp @Zc7 w0 w1 w2 w3) w_t w_t ?_;(repeat' first|exact w_t|apply w_l);all_goals intros));refine Zda (cw _ (by exact gW m6) (by exact gW m501)) ?_
         rintro _ _ ⟨sv3,rfl,rfl⟩
         (focus (refine wkad (w_7 e3 e6 e7 e8 m500 hGl w3) w_t w_t ?_;(repeat' first|exact w_t|apply w_l);all_goals intros));exact⟨j+1,⟨by omega,⟨by exact gW e3,by exact gW e6,by exact gW e7,by rw [←s4];exact gC,by exact gW m500⟩,.pbox 6 gB 0,sv3,by exact gC,.inr rfl,by rw [hv1,hdn (by omega) hx];exact gC⟩,by omega⟩
       ·have:j=4:=by omega
        subst this;have e8:e 8=.v (.int .u16 0):=e8;have h4:vl V g 4=n/10000 ^ p:=hT;rw [h4] at m501;(focus (refine wkad (w_8 e3 e6 e7 e8 m500 m6 m501 hGl) w_t w_t ?_;(repeat' first|exact w_t|apply w_l);all_goals intros));exact⟨i+1,⟨by omega,⟨by exact gW e3,by exact gW e6,by(simp (disch:=omega) only [go_sem,e7];congr 2;omega),by exact gW m500⟩,c0,sv2,by exact gW m6,hc0,by rw [hV2];exact gW m501⟩,by omega⟩
      ·exact⟨by omega,⟨by exact gW e3,by exact gW e6,by exact gW e7,by show _=AV.v (.int .u16 1000);exact gC,by exact gW m500⟩,c0,sv2,by exact gW m6,hc0,by show _=some (Ent.row sv2 5 1 ((dig V).map by8) 0);exact gW m501⟩
     ·have:i=(g4 n).length:=by omega
      subst this;have e7:e 7=.v (.int .i64 (-1)):=by rw [e7];congr 2;omega
      rw [Nat.sub_self,Nat.pow_zero,Nat.div_one] at m501;have hne:dig n≠[]:=λh=>h0 (Zr3.1 (by rw [h];rfl));have cs:=fun(m:Mem) a (b:m 501=some (.row sv2 5 1 ((dig n).map by8) 0))=>Zxd m 6 501 gB sv2 c0 (dig n) a b hne;(focus (refine wkad (w_7 e3 e6 e7 m500 m6 m501 hGl) w_t w_t ?_;(repeat' first|exact w_t|apply w_l);all_goals intros));refine Zda (cs _ (by exact gW m6) (by exact gW m501)) ?_
      rintro _ _ ⟨rfl,rfl⟩
      (focus (refine wkad w_t w_t w_t ?_;(repeat' first|exact w_t|apply w_l);all_goals intros));all_goals simp (disch:=omega) only [go_sem]
    ·exact⟨Nat.zero_le _,⟨by exact gW e3,by exact gC,by(simp (disch:=omega) only [go_sem];congr 2;omega),by exact gW m500⟩,.v (.pointer none),.slice none 0 0,by exact gC,.inl rfl,by rw [Nat.sub_zero,hk0];exact gC⟩
   ·have hkp:=Zbb.2 (Nat.pos_of_ne_zero hk0);have hilt:=(Ztb i n).2 hk0;have hlk:(toL (n/10000 ^ i)).length≤(toL n).length:=Zcy (Nat.div_le_self _ _);have ht:=g4_take hk0;have hdp:=Zr1 n i;have cb:=Znz (toL (n/10000 ^ i)) 10000 (by omega) (Zam _) (by omega) (by omega);rw [Zal,←hdp] at cb;clear hdp;generalize ((g4 n).take i).map w16=W at *;generalize n/10000 ^ i%10000=x at *;obtain⟨y,hy⟩:∃y,n/10000 ^ (i+1)=y:=⟨_,rfl⟩;rw [hy] at cb;generalize n/10000 ^ i=z at *;(focus (refine wkvd (w_3 e0 e3 m500) (w_1 cb) w_t ?_;(repeat' first|exact w_t|apply w_l);all_goals intros))
    exact⟨i+1,⟨by omega,by rw [hy];exact gC,_,by exact gC,by rw [ht];exact gC⟩,by omega⟩
  ·exact⟨Nat.zero_le _,by rw [Nat.pow_zero,Nat.div_one];exact gC,_,by exact gC,by exact gC⟩
attribute [local go_sem] Tryz.underlying153 Tryz.underlying43 Tryz.underlying45 Tryz.underlying36 Tryz.underlying185 szB zB Zbe zNat Zbf zInt Zbd zRat Zt6 zShape Zwt Tryz.underlying190 List.append_eq
theorem intText (z:Int) (hz:(toL z.natAbs).length≤10000000):Pure Tryz.prog 214 [intZ z] (.v (.string (decZ z))):=by
 have cs:=iSign z (by omega);have ct:=Zvz z.natAbs hz;have hs:=Zfa z.natAbs;have h45:(Zfv [45]).size=1:=Zd5 _;unfold decZ;have e45:Zfv [45]=⟨#[45]⟩:=rfl;rw [e45] at h45 ⊢;generalize decS z.natAbs=s at *;by_cases h:z < 0
 ·rw [if_pos h];rw [Int.sign_eq_neg_one_of_neg h] at cs;rw [show intZ z=.agg [.v (.bool true),lim (toL z.natAbs)] from by unfold intZ intA;rw [decide_eq_true h]] at *;refine Zaa (tok:=0) Tryz.func214 rfl Tryz.ntmps214 Tryz.results214 Tryz.call214 (by rfl) (by simp) ?_;(focus (refine wkvd (w_1 h45) (w_2 cs ct) w_t ?_;(repeat' first|exact w_t|apply w_l);all_goals intros));simp (disch:=omega) only [go_sem]
 ·rw [if_neg h];have h2:¬z.sign < 0:=by rw [Int.sign_neg_iff];exact h
  rw [show intZ z=.agg [.v (.bool false),lim (toL z.natAbs)] from by unfold intZ intA;rw [decide_eq_false h]] at *;generalize z.sign=x at *;refine Zaa (tok:=0) Tryz.func214 rfl Tryz.ntmps214 Tryz.results214 Tryz.call214 (by rfl) (by simp) ?_;(focus (refine wkvd w_t (w_2 cs ct) w_t ?_;(repeat' first|exact w_t|apply w_l);all_goals intros));simp (disch:=omega) only [go_sem]
theorem ratText (q:Rat) {k:Nat} (h:Sz q k) (hk:k≤1000000):Pure Tryz.prog 134 [ratQ q] (.v (.string (decQ q))):=by
 have cp:=Zfg q h (by omega);have h1:=h.1;have h2:=h.2;have cr:=Ze2 (decide (q.num < 0)) q.num.natAbs q.den (by omega) (by omega) q.den_nz;rw [show zI (decide (q.num < 0)) q.num.natAbs=q.num from by unfold zI;by_cases hq:q.num < 0<;>simp [hq]<;>omega,Rat.mkRat_self] at cr;have co:=Zjn q.den (by omega);have cz:=intText q.num (by omega);have cd:=Zvz q.den (by omega);have z1:=Zom q.num;have z2:=Zfa q.den;have e47:Zfv [47]=⟨#[47]⟩:=rfl;have h47:(Zfv [47]).size=1:=Zd5 _;rw [e47] at h47;unfold decQ;rw [e47];by_cases hd:q.den=1
 ·rw [if_pos hd];rw [decide_eq_true hd] at co;generalize decZ q.num=s at *;refine Zaa (tok:=0) Tryz.func134 rfl Tryz.ntmps134 Tryz.results134 Tryz.call134 (by rfl) (by simp) ?_;(focus (refine wkvd w_t (w_4 cp cr co cz) w_t ?_;(repeat' first|exact w_t|apply w_l);all_goals intros));simp (disch:=omega) only [go_sem]
 ·rw [if_neg hd];rw [decide_eq_false hd] at co;generalize decZ q.num=s at *;generalize decS q.den=t at *;have h3:(s++⟨#[47]⟩:ByteArray).size=s.size+1:=by rw [ByteArray.size_append,h47]
  refine Zaa (tok:=0) Tryz.func134 rfl Tryz.ntmps134 Tryz.results134 Tryz.call134 (by rfl) (by simp) ?_;(focus (refine wkvd (w_2 h47 h3) (w_5 cp cr co cz cd) (w_1 (w_d 5 [(2,.v (.string s)),(6,.v (.string t))] [] [])) ?_;(repeat' first|exact w_t|apply w_l);all_goals intros));simp (disch:=omega) only [go_sem]
end Go.Proofs.YtjekhacnoopdpaaGreatDoor
namespace Go.Proofs.YtjekhacnoopdpaaGreatDoor
open Go Go.RowKit Go.Pg Go.Pol
def tS (ss:List ByteArray) (p:List Qt) (s0:ByteArray):Nat→ByteArray
 | 0=>s0
 | i+1=>(if (tS ss p s0 i).size=0 then tS ss p s0 i else tS ss p s0 i++⟨#[42]⟩)++(p.getD i Qt.zero).txt ss
def chkP (n:Int):List Qt→Int
 | []=>0
 | q :: l=>if Qt.chk q n 64=0 then chkP n l else Qt.chk q n 64
def absR (a:Rat):Rat:=if a.num < 0 then -a else a
def tTxt (ss:List ByteArray) (t:Rat × List Qt):ByteArray:=tS ss t.2 (if t.2.length≠0∧absR t.1=1 then ⟨#[]⟩ else decQ (absR t.1)) t.2.length
def eS (ss:List ByteArray) (l:QTs):Nat→ByteArray
 | 0=>⟨#[]⟩
 | i+1=>(if i=0 then (if (l.getD i (0,[])).1.num < 0 then ⟨#[45]⟩ else ⟨#[]⟩) else eS ss l i++(if (l.getD i (0,[])).1.num < 0 then ⟨#[32,45,32]⟩ else ⟨#[32,43,32]⟩))++tTxt ss (l.getD i (0,[]))
def chkE (n:Int):QTs→Int
 | []=>0
 | t :: l=>if chkP n t.2=0 then chkE n l else chkP n t.2
def eTxt (ss:List ByteArray) (l:QTs):ByteArray:=if l.length=0 then ⟨#[48]⟩ else eS ss l l.length
theorem Zr6 {n:Int}:∀{p:List Qt},(∀j (h:j < p.length),Qt.chk p[j] n 64=0)→chkP n p=0
 | [],_=>rfl
 | q :: l,h=>by
   have h0:Qt.chk q n 64=0:=h 0 (by simp);unfold chkP;rw [if_pos h0];exact Zr6 λj hj=>h (j+1) (by simpa using hj)
theorem Zw3 {n:Int}:∀{p:List Qt} {i:Nat} (hi:i < p.length),(∀j (h:j < p.length),j < i→Qt.chk p[j] n 64=0)→Qt.chk p[i] n 64≠0→chkP n p=Qt.chk p[i] n 64
 | q :: l,0,_,_,h2=>by
   have h2:Qt.chk q n 64≠0:=h2;unfold chkP;rw [if_neg h2];rfl
 | q :: l,i+1,hi,h,h2=>by
   have h0:Qt.chk q n 64=0:=h 0 (by simp) (by omega);unfold chkP;rw [if_pos h0];exact Zw3 (by simpa using hi) (λj hj hji=>h (j+1) (by simpa using hj) (by omega)) h2
theorem Zr7 {n:Int}:∀{l:QTs},(∀j (h:j < l.length),chkP n l[j].2=0)→chkE n l=0
 | [],_=>rfl
 | q :: l,h=>by
   have h0:chkP n q.2=0:=h 0 (by simp);unfold chkE;rw [if_pos h0];exact Zr7 λj hj=>h (j+1) (by simpa using hj)
theorem Zw4 {n:Int}:∀{l:QTs} {i:Nat} (hi:i < l.length),(∀j (h:j < l.length),j < i→chkP n l[j].2=0)→chkP n l[i].2≠0→chkE n l=chkP n l[i].2
 | q :: l,0,_,_,h2=>by
   have h2:chkP n q.2≠0:=h2;unfold chkE;rw [if_neg h2];rfl
 | q :: l,i+1,hi,h,h2=>by
   have h0:chkP n q.2=0:=h 0 (by simp) (by omega);unfold chkE;rw [if_pos h0];exact Zw4 (by simpa using hi) (λj hj hji=>h (j+1) (by simpa using hj) (by omega)) h2
theorem txt_pos (q:Qt) (ss:List ByteArray):0 < (q.txt ss).size:=by
 unfold Qt.txt;split<;>simp only [ByteArray.size_append]<;>(have:(⟨#[41]⟩:ByteArray).size=1:=rfl;omega)
theorem txt_size (q:Qt) (ss:List ByteArray) (hs:∀s∈ss,s.size≤1000) (ha:q.a < 64):(q.txt ss).size≤4000:=by
 have h1:=Zfd hs q.a.toNat;have h2:=Zfd hs q.b.toNat;have h3:=Zfd hs q.c.toNat;have z:=Zfa q.a.toNat;have zl:(toL q.a.toNat).length≤1:=Zag.2 (by omega);have s1:(⟨#[83,40]⟩:ByteArray).size=2:=rfl;have s2:(⟨#[80,40]⟩:ByteArray).size=2:=rfl;have s3:(⟨#[44,32]⟩:ByteArray).size=2:=rfl;have s4:(⟨#[41]⟩:ByteArray).size=1:=rfl;have s5:(⟨#[116,40]⟩:ByteArray).size=2:=rfl;unfold Qt.txt;split
 ·simp only [ByteArray.size_append];omega
 ·split<;>simp only [ByteArray.size_append]<;>omega
theorem Zw1 {q:Qt} {n:Int} (ss:List ByteArray) (hs:∀s∈ss,s.size≤1000) (h:Qt.chk q n 64=0):(q.txt ss).size≤4000:=by
 unfold Qt.txt;by_cases hk:q.k=3
 ·have ha:q.a < 64:=by
   rcases Zw2 (k:=q.k) (a:=q.a) (b:=q.b) (c:=q.c) h with h1 | h1
   ·exact h1.2.2.1
   ·exact absurd hk h1.1
  exact txt_size q ss hs ha
 ·have h1:=Zfd hs q.a.toNat;have h2:=Zfd hs q.b.toNat;have h3:=Zfd hs q.c.toNat;have s1:(⟨#[83,40]⟩:ByteArray).size=2:=rfl;have s2:(⟨#[80,40]⟩:ByteArray).size=2:=rfl;have s3:(⟨#[44,32]⟩:ByteArray).size=2:=rfl;have s4:(⟨#[41]⟩:ByteArray).size=1:=rfl;rw [if_neg hk];split<;>simp only [ByteArray.size_append]<;>omega
theorem tS_pos (ss:List ByteArray) (p:List Qt) (s0:ByteArray) (i:Nat) (h:0 < i):0 < (tS ss p s0 i).size:=by
 obtain⟨j,rfl⟩:∃j,i=j+1:=⟨i - 1,by omega⟩;unfold tS;rw [ByteArray.size_append];have:=txt_pos (p.getD j Qt.zero) ss;omega
theorem Zt5 {ss:List ByteArray} {p:List Qt} {s0:ByteArray} {n:Int} (hs:∀s∈ss,s.size≤1000) {i:Nat} (hi:i≤p.length) (h:∀j (h:j < p.length),j < i→Qt.chk p[j] n 64=0):(tS ss p s0 i).size≤s0.size+i*4001:=by
 induction i with
 | zero=>unfold tS;omega
 | succ i ih =>
   have h1:=ih (by omega) λj hj hji=>h j hj (by omega);have h2:=Zw1 ss hs (h i (by omega) (by omega));have e:p.getD i Qt.zero=p[i]:=by rw [List.getD_eq_getElem?_getD,List.getElem?_eq_getElem (by omega)];rfl
   unfold tS;rw [ByteArray.size_append,e];have s1:(⟨#[42]⟩:ByteArray).size=1:=rfl;split
   ·omega
   ·rw [ByteArray.size_append];omega
theorem Zon {q:Rat} {k:Nat} (h:Sz q k):(decQ q).size≤10*k+4:=by
 have h1:=h.1;have h2:=h.2;have z1:=Zom q.num;have z2:=Zfa q.den;have h47:(Zfv [47]).size=1:=Zd5 _;unfold decQ;split
 ·omega
 ·rw [ByteArray.size_append,ByteArray.size_append];omega
theorem Zmv {q:Rat} {k:Nat} (h:Sz q k):Sz (absR q) k:=by
 unfold absR;split
 ·exact⟨by rw [show(-q).num=-q.num from rfl,Int.natAbs_neg];exact h.1,h.2⟩
 ·exact h
theorem Zxo (q:Rat):ratQ (absR q)=.agg [.v (.bool false),lim (toL q.num.natAbs),lim (toL q.den)]:=by
 unfold absR;split
 ·rename_i h;unfold ratQ;rw [show(-q).num=-q.num from rfl,show(-q).den=q.den from rfl,Int.natAbs_neg,decide_eq_false (by omega)]
 ·rename_i h;unfold ratQ;rw [decide_eq_false h]
end Go.Proofs.YtjekhacnoopdpaaGreatDoor
namespace Go.Proofs.YtjekhacnoopdpaaGreatDoor
open Go Go.RowKit Go.Pg
attribute [-bool_to_prop] Bool.and_eq_decide Bool.or_eq_decide Bool.decide_beq_decide decide_eq_decide
attribute [local go_sem] Tryz.underlying3 Tryz.underlying2 Tryz.underlying169 Tryz.underlying153 Tryz.underlying4 Tryz.underlying36 Tryz.underlying45 Tryz.underlying41 Tryz.underlying43 Tryz.underlying110 sz3 by3 z3 szL byL zL Zhl zErr Zbd zRat Zbe zNat Zbf zInt szB zB szPt byPt zPt Bool.and_self
theorem Zq7 (a b c d:Rat) {j:Nat} (ha:Sz a j) (hb:Sz b j) (hc:Sz c j) (hd:Sz d j) (hj:j≤100000):Pure Tryz.prog 234 [ptQ a b,ptQ c d] (ptQ (c - a) (d - b)):=by
 have c1:=qSub c a hc ha (by omega) (by omega);have c2:=qSub d b hd hb (by omega) (by omega);generalize c - a=u at *;generalize d - b=v at *;refine Zaa (tok:=0) Tryz.func234 rfl Tryz.ntmps234 Tryz.results234 Tryz.call234 (by rfl) (by simp) ?_
 (repeat' (first|(with_reducible first|refine stp ?_|apply gx1|apply gx2|apply gx3|apply gx4|apply gx5|apply gx6|apply gx7|apply gy8|apply gz2|apply gz3|refine gw0 (c1) ?_ ?_|refine gw3 (c1) ?_ ?_ ?_|refine gw0 (c2) ?_ ?_|refine gw3 (c2) ?_ ?_ ?_)|(with_reducible refine Zao ?_;intro _)|((with_reducible refine gE ?_);(try simp (disch:=omega) only [go_sem])<;>first|rfl|omega)|with_reducible refine Zab (by decide) ?_|((with_reducible apply gy1);iterate 3 focus rfl)|((with_reducible apply gy2);iterate 3 focus rfl)|((with_reducible apply gy3);iterate 2 focus rfl)|((with_reducible apply gy4);iterate 1 focus rfl)|((with_reducible apply gy5);iterate 4 focus rfl)|((with_reducible apply gy5c);iterate 4 focus rfl)|((with_reducible apply gy6);iterate 4 focus rfl)|((with_reducible apply Za7);iterate 3 focus rfl)|((with_reducible apply Za6);iterate 1 focus rfl)|((with_reducible apply gy7);iterate 1 focus rfl)|((with_reducible apply gy9);(focus ((with_reducible refine gE ?_);(try simp (disch:=omega) only [go_sem])<;>rfl)))|((with_reducible apply gz1);(focus first|rfl|(simp (disch:=omega) only [go_sem];done)))|((with_reducible apply Zae (Zau [(4,ratQ u),(9,ratQ v)]) [] [4]);(focus kernel_rfl);(focus rfl);(focus kernel_rfl);(focus (simp only [List.length_cons,List.length_nil,Nat.reduceAdd];rfl)))))
 simp (disch:=omega) only [go_sem]
theorem r13Cross (a b c d:Rat) {j:Nat} (ha:Sz a j) (hb:Sz b j) (hc:Sz c j) (hd:Sz d j) (hj:j≤100000):Pure Tryz.prog 233 [ptQ a b,ptQ c d] (ratQ (a*d - b*c)):=by
 have c1:=qMul a d ha hd (by omega) (by omega);have c2:=qMul b c hb hc (by omega) (by omega);have c3:=qSub (a*d) (b*c) (ha.mul hd) (hb.mul hc) (by omega) (by omega);generalize a*d - b*c=x at *;generalize a*d=u at *;generalize b*c=v at *;refine Zaa (tok:=0) Tryz.func233 rfl Tryz.ntmps233 Tryz.results233 Tryz.call233 (by rfl) (by simp) ?_
 (repeat' (first|(with_reducible first|refine stp ?_|apply gx1|apply gx2|apply gx3|apply gx4|apply gx5|apply gx6|apply gx7|apply gy8|apply gz2|apply gz3|refine gw0 (c1) ?_ ?_|refine gw3 (c1) ?_ ?_ ?_|refine gw0 (c2) ?_ ?_|refine gw3 (c2) ?_ ?_ ?_|refine gw0 (c3) ?_ ?_|refine gw3 (c3) ?_ ?_ ?_)|(with_reducible refine Zao ?_;intro _)|((with_reducible refine gE ?_);(try simp (disch:=omega) only [go_sem])<;>first|rfl|omega)|with_reducible refine Zab (by decide) ?_|((with_reducible apply gy1);iterate 3 focus rfl)|((with_reducible apply gy2);iterate 3 focus rfl)|((with_reducible apply gy3);iterate 2 focus rfl)|((with_reducible apply gy4);iterate 1 focus rfl)|((with_reducible apply gy5);iterate 4 focus rfl)|((with_reducible apply gy5c);iterate 4 focus rfl)|((with_reducible apply gy6);iterate 4 focus rfl)|((with_reducible apply Za7);iterate 3 focus rfl)|((with_reducible apply Za6);iterate 1 focus rfl)|((with_reducible apply gy7);iterate 1 focus rfl)|((with_reducible apply gy9);(focus ((with_reducible refine gE ?_);(try simp (disch:=omega) only [go_sem])<;>rfl)))|((with_reducible apply gz1);(focus first|rfl|(simp (disch:=omega) only [go_sem];done)))|((with_reducible apply Zae (Zau [(4,ratQ u),(9,ratQ v),(10,ratQ x)]) [] [4]);(focus kernel_rfl);(focus rfl);(focus kernel_rfl);(focus (simp only [List.length_cons,List.length_nil,Nat.reduceAdd];rfl)))))
 simp (disch:=omega) only [go_sem]
theorem r13Dot (a b c d:Rat) {j:Nat} (ha:Sz a j) (hb:Sz b j) (hc:Sz c j) (hd:Sz d j) (hj:j≤100000):Pure Tryz.prog 235 [ptQ a b,ptQ c d] (ratQ (a*c+b*d)):=by
 have c1:=qMul a c ha hc (by omega) (by omega);have c2:=qMul b d hb hd (by omega) (by omega);have c3:=qAdd (a*c) (b*d) (ha.mul hc) (hb.mul hd) (by omega) (by omega);generalize a*c+b*d=x at *;generalize a*c=u at *;generalize b*d=v at *;refine Zaa (tok:=0) Tryz.func235 rfl Tryz.ntmps235 Tryz.results235 Tryz.call235 (by rfl) (by simp) ?_
 (repeat' (first|(with_reducible first|refine stp ?_|apply gx1|apply gx2|apply gx3|apply gx4|apply gx5|apply gx6|apply gx7|apply gy8|apply gz2|apply gz3|refine gw0 (c1) ?_ ?_|refine gw3 (c1) ?_ ?_ ?_|refine gw0 (c2) ?_ ?_|refine gw3 (c2) ?_ ?_ ?_|refine gw0 (c3) ?_ ?_|refine gw3 (c3) ?_ ?_ ?_)|(with_reducible refine Zao ?_;intro _)|((with_reducible refine gE ?_);(try simp (disch:=omega) only [go_sem])<;>first|rfl|omega)|with_reducible refine Zab (by decide) ?_|((with_reducible apply gy1);iterate 3 focus rfl)|((with_reducible apply gy2);iterate 3 focus rfl)|((with_reducible apply gy3);iterate 2 focus rfl)|((with_reducible apply gy4);iterate 1 focus rfl)|((with_reducible apply gy5);iterate 4 focus rfl)|((with_reducible apply gy5c);iterate 4 focus rfl)|((with_reducible apply gy6);iterate 4 focus rfl)|((with_reducible apply Za7);iterate 3 focus rfl)|((with_reducible apply Za6);iterate 1 focus rfl)|((with_reducible apply gy7);iterate 1 focus rfl)|((with_reducible apply gy9);(focus ((with_reducible refine gE ?_);(try simp (disch:=omega) only [go_sem])<;>rfl)))|((with_reducible apply gz1);(focus first|rfl|(simp (disch:=omega) only [go_sem];done)))|((with_reducible apply Zae (Zau [(4,ratQ u),(9,ratQ v),(10,ratQ x)]) [] [4]);(focus kernel_rfl);(focus rfl);(focus kernel_rfl);(focus (simp only [List.length_cons,List.length_nil,Nat.reduceAdd];rfl)))))
 simp (disch:=omega) only [go_sem]
theorem Zu6 (p q r s:PQ) {j:Nat} (hp:p.sz j) (hq:q.sz j) (hr:r.sz j) (hs:s.sz j) (hj:j≤10000):Pure Tryz.prog 158 [p.av,q.av,r.av,s.av] (ratQ (Zgf p q r s)):=by
 have c1:=Zq7 p.1 p.2 q.1 q.2 hp.1 hp.2 hq.1 hq.2 (by omega);have c2:=Zq7 r.1 r.2 s.1 s.2 hr.1 hr.2 hs.1 hs.2 (by omega);have c3:=r13Cross (q.1 - p.1) (q.2 - p.2) (s.1 - r.1) (s.2 - r.2) (hq.1.sub hp.1) (hq.2.sub hp.2) (hs.1.sub hr.1) (hs.2.sub hr.2) (by omega);unfold Zgf;obtain⟨p1,p2⟩:=p;obtain⟨q1,q2⟩:=q;obtain⟨r1,r2⟩:=r;obtain⟨s1,s2⟩:=s;simp only at *;generalize (q1 - p1)*(s2 - r2) - (q2 - p2)*(s1 - r1)=x at *;generalize q1 - p1=a at *;generalize q2 - p2=b at *;generalize s1 - r1=c at *;generalize s2 - r2=d at *;refine Zaa (tok:=0) Tryz.func158 rfl Tryz.ntmps158 Tryz.results158 Tryz.call158 (by rfl) (by simp) ?_
 (repeat' (first|(with_reducible first|refine stp ?_|apply gx1|apply gx2|apply gx3|apply gx4|apply gx5|apply gx6|apply gx7|apply gy8|apply gz2|apply gz3|refine gw0 (c1) ?_ ?_|refine gw3 (c1) ?_ ?_ ?_|refine gw0 (c2) ?_ ?_|refine gw3 (c2) ?_ ?_ ?_|refine gw0 (c3) ?_ ?_|refine gw3 (c3) ?_ ?_ ?_)|(with_reducible refine Zao ?_;intro _)|((with_reducible refine gE ?_);(try simp (disch:=omega) only [go_sem])<;>first|rfl|omega)|with_reducible refine Zab (by decide) ?_|((with_reducible apply gy1);iterate 3 focus rfl)|((with_reducible apply gy2);iterate 3 focus rfl)|((with_reducible apply gy3);iterate 2 focus rfl)|((with_reducible apply gy4);iterate 1 focus rfl)|((with_reducible apply gy5);iterate 4 focus rfl)|((with_reducible apply gy5c);iterate 4 focus rfl)|((with_reducible apply gy6);iterate 4 focus rfl)|((with_reducible apply Za7);iterate 3 focus rfl)|((with_reducible apply Za6);iterate 1 focus rfl)|((with_reducible apply gy7);iterate 1 focus rfl)|((with_reducible apply gy9);(focus ((with_reducible refine gE ?_);(try simp (disch:=omega) only [go_sem])<;>rfl)))|((with_reducible apply gz1);(focus first|rfl|(simp (disch:=omega) only [go_sem];done)))|((with_reducible apply Zae (Zau [(2,ptQ a b),(5,ptQ c d),(6,ratQ x)]) [] [8]);(focus kernel_rfl);(focus rfl);(focus kernel_rfl);(focus (simp only [List.length_cons,List.length_nil,Nat.reduceAdd];rfl)))))
 simp (disch:=omega) only [go_sem]
theorem r13DotP (p q r s:PQ) {j:Nat} (hp:p.sz j) (hq:q.sz j) (hr:r.sz j) (hs:s.sz j) (hj:j≤10000):Pure Tryz.prog 159 [p.av,q.av,r.av,s.av] (ratQ (dotP p q r s)):=by
 have c1:=Zq7 p.1 p.2 q.1 q.2 hp.1 hp.2 hq.1 hq.2 (by omega);have c2:=Zq7 r.1 r.2 s.1 s.2 hr.1 hr.2 hs.1 hs.2 (by omega);have c3:=r13Dot (q.1 - p.1) (q.2 - p.2) (s.1 - r.1) (s.2 - r.2) (hq.1.sub hp.1) (hq.2.sub hp.2) (hs.1.sub hr.1) (hs.2.sub hr.2) (by omega);unfold dotP;obtain⟨p1,p2⟩:=p;obtain⟨q1,q2⟩:=q;obtain⟨r1,r2⟩:=r;obtain⟨s1,s2⟩:=s;simp only at *;generalize (q1 - p1)*(s1 - r1)+(q2 - p2)*(s2 - r2)=x at *;generalize q1 - p1=a at *;generalize q2 - p2=b at *;generalize s1 - r1=c at *;generalize s2 - r2=d at *;refine Zaa (tok:=0) Tryz.func159 rfl Tryz.ntmps159 Tryz.results159 Tryz.call159 (by rfl) (by simp) ?_
 (repeat' (first|(with_reducible first|refine stp ?_|apply gx1|apply gx2|apply gx3|apply gx4|apply gx5|apply gx6|apply gx7|apply gy8|apply gz2|apply gz3|refine gw0 (c1) ?_ ?_|refine gw3 (c1) ?_ ?_ ?_|refine gw0 (c2) ?_ ?_|refine gw3 (c2) ?_ ?_ ?_|refine gw0 (c3) ?_ ?_|refine gw3 (c3) ?_ ?_ ?_)|(with_reducible refine Zao ?_;intro _)|((with_reducible refine gE ?_);(try simp (disch:=omega) only [go_sem])<;>first|rfl|omega)|with_reducible refine Zab (by decide) ?_|((with_reducible apply gy1);iterate 3 focus rfl)|((with_reducible apply gy2);iterate 3 focus rfl)|((with_reducible apply gy3);iterate 2 focus rfl)|((with_reducible apply gy4);iterate 1 focus rfl)|((with_reducible apply gy5);iterate 4 focus rfl)|((with_reducible apply gy5c);iterate 4 focus rfl)|((with_reducible apply gy6);iterate 4 focus rfl)|((with_reducible apply Za7);iterate 3 focus rfl)|((with_reducible apply Za6);iterate 1 focus rfl)|((with_reducible apply gy7);iterate 1 focus rfl)|((with_reducible apply gy9);(focus ((with_reducible refine gE ?_);(try simp (disch:=omega) only [go_sem])<;>rfl)))|((with_reducible apply gz1);(focus first|rfl|(simp (disch:=omega) only [go_sem];done)))|((with_reducible apply Zae (Zau [(2,ptQ a b),(5,ptQ c d),(6,ratQ x)]) [] [8]);(focus kernel_rfl);(focus rfl);(focus kernel_rfl);(focus (simp only [List.length_cons,List.length_nil,Nat.reduceAdd];rfl)))))
 simp (disch:=omega) only [go_sem]
theorem ratEqual (a b:Rat) {j k:Nat} (ha:Sz a j) (hb:Sz b k) (hj:j≤1000000) (hk:k≤1000000):Pure Tryz.prog 36 [ratQ a,ratQ b] (.v (.bool (decide (a=b)))):=by
 have c:=ratCmp a b ha hb (by omega) (by omega)
 have e:(cmpQ a b == 0)=decide (a=b):=by
  rw [Bool.eq_iff_iff,beq_iff_eq,decide_eq_true_eq];unfold cmpQ;constructor
  ·intro h;split at h
   ·omega
   ·split at h
    ·omega
    ·rename_i h1 h2;exact Rat.le_antisymm (Rat.not_lt.1 h2) (Rat.not_lt.1 h1)
  ·rintro rfl
   simp
 rw [←e];generalize cmpQ a b=s at *;refine Zaa (tok:=0) Tryz.func36 rfl Tryz.ntmps36 Tryz.results36 Tryz.call36 (by rfl) (by simp) ?_;(focus (refine wkvp w_t (w_1 c) ?_;(repeat' first|exact w_t|apply w_l);all_goals intros));simp (disch:=omega) only [go_sem]
end Go.Proofs.YtjekhacnoopdpaaGreatDoor
namespace Go.Proofs.YtjekhacnoopdpaaGreatDoor
open Go Go.RowKit Go.Pg Go.Pol
attribute [-bool_to_prop] Bool.and_eq_decide Bool.or_eq_decide Bool.decide_beq_decide decide_eq_decide
attribute [local go_sem] Tryz.underlying3 Tryz.underlying4 Tryz.underlying169 Tryz.underlying41 Tryz.underlying43 Tryz.underlying45 Tryz.underlying25 Tryz.underlying47 Tryz.underlying49 Tryz.underlying22 Tryz.underlying23 sz3 by3 z3 szB zB Zbd zRat Zbf zInt Zbe zNat Zaj Zaw Zak Bool.and_self Zan Zbs zSlQ szQT byQT zQT Zby zSlT szQP zQP Tryz.underlying9 Tryz.underlying168 Tryz.underlying100 Tryz.underlying166 Zm3 Zin Zmx Zm4 Zcr zStr zSum zMap Tryz.underlying36 Tryz.underlying33 List.append_eq
theorem ratNegN (a:Rat) {k:Nat} (h:Sz a k) (hk:k≤1000000) (h0:a.num < 0):Pure Tryz.prog 133 [ratQ a] (.agg [.v (.bool false),lim (toL a.num.natAbs),lim (toL a.den)]):=by
 have cp:=Zfg a h (by omega);have h1:=h.1;have h2:=h.2;have cr:=Ze2 false a.num.natAbs a.den (by omega) (by omega) a.den_nz
 have e:mkRat (zI false a.num.natAbs) a.den=-a:=by
  rw [show zI false a.num.natAbs=-a.num from by simp only [zI];simp;omega,←Rat.neg_mkRat,Rat.mkRat_self]
 have e2:absR a=-a:=by unfold absR;rw [if_pos h0]
 rw [e,←e2,Zxo] at cr;have e3:ratQ a=.agg [.v (.bool true),lim (toL a.num.natAbs),lim (toL a.den)]:=by unfold ratQ;rw [decide_eq_true h0]
 have e4:intZ a.num=.agg [.v (.bool true),lim (toL a.num.natAbs)]:=by unfold intZ intA;rw [decide_eq_true h0]
 have e5:intA false a.num.natAbs=.agg [.v (.bool false),lim (toL a.num.natAbs)]:=rfl;rw [e3,e4] at cp;rw [e5] at cr;rw [e3];clear e e2 e3 e4 e5;refine Zaa (tok:=0) Tryz.func133 rfl Tryz.ntmps133 Tryz.results133 Tryz.call133 (by rfl) (by simp) ?_;(focus (refine wkvd w_t (w_2 cp cr) w_t ?_;(repeat' first|exact w_t|apply w_l);all_goals intros));simp (disch:=omega) only [go_sem]
theorem Zcz {α:Type} {l:List α} {i:Nat} {d:α} (h:i < l.length):l.getD i d=l[i]:=by
 rw [List.getD_eq_getElem?_getD,List.getElem?_eq_getElem h];rfl
theorem exTerm (a:Rat) (p:List Qt) (ss:List ByteArray) (hl:ss.length≤1000000000) (hs:∀s∈ss,s.size≤1000) (hp:p.length≤1000) {k:Nat} (ha:Sz a k) (hk:k≤1000000) :
 Pure Tryz.prog 64 [qtA (a,p),.sl 1 (ss.map strA)] (if chkP ss.length p=0 then .tup [strA (tTxt ss (a,p)),iv 0] else .tup [strA ⟨#[]⟩,iv (chkP ss.length p)]):=by
 have cs:=Zed a ha (by omega);have cn:=ratNegN a ha hk;have cx:=ratText (absR a) (Zmv ha) hk;have c1:Pure Tryz.prog 57 [iv 1] (ratQ 1):=Znh 1 (by omega);have ce:=ratEqual (absR a) 1 (Zmv ha) (k:=1) ⟨by show(toL 1).length≤1;rw [Zdi];omega,by show(toL 1).length≤1;rw [Zdi];omega⟩ hk (by omega);have hz:=Zon (Zmv ha);have hpl:(p.map Qt.av).length=p.length:=List.length_map ..;have hq:∀i (h:i < p.length),(p.map Qt.av).getD i .u=Qt.av p[i]:=λi h=>Za0 Qt.av h;have hx:tTxt ss (a,p)=tS ss p (if p.length≠0∧absR a=1 then ⟨#[]⟩ else decQ (absR a)) p.length:=rfl;have e0:decide (a.num.sign < 0)=decide (a.num < 0):=by rw [decide_eq_decide];exact Int.sign_neg_iff
 rw [Zxo] at cx ce;rw [hx,show qtA (a,p)=.agg [.v (.bool (decide (a.num < 0))),lim (toL a.num.natAbs),lim (toL a.den),.sl 4 (p.map Qt.av)] from rfl];have hne:(ratQ a)=.agg [.v (.bool (decide (a.num < 0))),lim (toL a.num.natAbs),lim (toL a.den)]:=rfl;rw [hne] at cs cn;have hng:decide (a.num < 0)=true→a.num < 0:=of_decide_eq_true;have cn:=λh=>cn (hng h);generalize decide (a.num < 0)=sg at *;clear hng;generalize toL a.num.natAbs=An at *;generalize toL a.den=Ad at *;generalize hS:a.num.sign=sn at *;generalize decQ (absR a)=D at *;clear hS hx hne;have hemp:(⟨#[]⟩:ByteArray).size=0:=rfl;generalize hPA:p.map Qt.av=PA at *
 generalize hX:decide (absR a=1)=x at *;have hb:p.length=0→p=[]:=List.length_eq_zero_iff.1;have q1:∀c,chkP ss.length p=c→chkP ss.length p=c:=λ_ h=>h;have cq:∀i (h:i < p.length),Pure Tryz.prog 135 [Qt.av p[i],.sl 1 (ss.map strA)] (if Qt.chk p[i] ss.length 64=0 then .tup [strA (p[i].txt ss),iv 0] else .tup [strA ⟨#[]⟩,iv (Qt.chk p[i] ss.length 64)]):=λi h=>quText p[i].k p[i].a p[i].b p[i].c ss hl hs;generalize ss.map strA=N at *;generalize hR:(if chkP ss.length p=0 then AV.tup [strA (tS ss p (if p.length≠0∧absR a=1 then ⟨#[]⟩ else D) p.length),iv 0] else .tup [strA ⟨#[]⟩,iv (chkP ss.length p)])=R at *
 refine Zaa (tok:=0) Tryz.func64 rfl Tryz.ntmps64 Tryz.results64 Tryz.call64 (by rfl) (by simp) ?_;(focus (refine wkvd w_t (w_1 cs) w_t ?_;(repeat' first|exact w_t|apply w_l);all_goals intros));refine Zst (λe m=>e 1=.sl 1 N∧(∃g2,e 2=.pbox 2 g2 0∧m 2=some (.box g2 49 [.v (.bool sg),lim An,lim Ad,.sl 4 PA] false))∧∃g6,e 6=.pbox 6 g6 0∧m 6=some (.box g6 45 [.v (.bool false),lim An,lim Ad] false)) ?_ ?_
 ·rw [e0]
  cases sg with
  | true =>
    have cn:=cn rfl;refine c_t ?_;(focus (refine wkad w_t (w_1 cn) w_t ?_;(repeat' first|exact w_t|apply w_l);all_goals intros));exact⟨rfl,by exact gC,⟨_,by exact gC,by exact gC⟩,_,by exact gC,by exact gC⟩
  | false =>
    refine c_f ?_;(focus (refine wkad w_t w_t w_t ?_;(repeat' first|exact w_t|apply w_l);all_goals intros));exact⟨rfl,by exact gC,⟨_,by exact gC,by exact gC⟩,_,by exact gC,by exact gC⟩
 ·rintro e m ⟨e1,⟨g2,e2,m2⟩,g6,e6,m6⟩
  by_cases hp0:p.length=0
  ·obtain rfl:=hb hp0;have hR:AV.tup [strA D,iv 0]=R:=hR;have hpl:PA.length=0:=hpl;rw [←hR];(focus (refine wkax (w_7 e1 e2 m2 e6 m6 hpl @Int.natCast_zero) (w_1 cx) (w_1 (w_d 5 [] [] [])) w_t w_t w_t (w_r 1) ?_;(repeat' first|exact w_t|apply w_l);all_goals intros));all_goals exact gL
  ·have hpp:0 < p.length:=Nat.pos_of_ne_zero hp0
   have hsx:(if p.length≠0∧absR a=1 then ⟨#[]⟩ else D:ByteArray)=if x=true then ⟨#[]⟩ else D:=by
    by_cases h1:absR a=1
    ·rw [if_pos ⟨hp0,h1⟩,if_pos (by rw [←hX];exact decide_eq_true h1)]
    ·rw [if_neg (λh=>h1 h.2),if_neg (by rw [←hX,decide_eq_false h1];decide)]
   rw [hsx] at hR;clear hsx;clear hX hb;(focus (refine wkvd (w_6 e1 e2 m2 e6 m6 hpl) (w_3 cx c1 ce) (w_1 (w_d 5 [(6,ratQ 1),(7,.v (.bool x))] [] [])) ?_;(repeat' first|exact w_t|apply w_l);all_goals intros));refine Zst (λe m=>e 1=.sl 1 N∧(e 2=.pbox 2 g2 0∧m 2=some (.box g2 49 [.v (.bool sg),lim An,lim Ad,.sl 4 PA] false))∧e 7=strA (if x=true then ⟨#[]⟩ else D)) ?_ ?_
   ·cases x with
    | true =>
      refine c_t ?_;(focus (refine wkad (w_3 e1 e2 m2) w_t w_t ?_;(repeat' first|exact w_t|apply w_l);all_goals intros));exact⟨rfl,by exact gW e1,⟨by exact gW e2,by exact gW m2⟩,by exact gC⟩
    | false =>
      refine c_f ?_;exact⟨rfl,by exact gW e1,⟨by exact gW e2,by exact gW m2⟩,by exact gC⟩
   ·have hz2:(if x=true then ⟨#[]⟩ else D:ByteArray).size≤10*k+4:=by split;(rw [hemp];omega);exact hz
    clear hz cs cn c1 ce e0 cx;generalize (if x=true then ⟨#[]⟩ else D:ByteArray)=s0 at *;clear e1 e2 m2 e6 m6
    rintro e m ⟨e1,⟨e2,m2⟩,e7⟩
    (focus (refine wkad (w_5 e1 e2 m2 e7 hpl) w_t w_t ?_;(repeat' first|exact w_t|apply w_l);all_goals intros));refine Zad (ι:=Nat) (λi e m=>i≤p.length∧(e 1=.sl 1 N∧e 31=.sl 4 PA∧e 32=iv p.length∧e 33=iv i)∧e 7=strA (tS ss p s0 i)∧∀j (h:j < p.length),j < i→Qt.chk p[j] ss.length 64=0) (λi=>p.length - i) 0 (by rfl) ?_ ?_
    ·rintro i e m ⟨hi,⟨e1,e31,e32,e33⟩,e7,hc⟩
     by_cases hlt:i < p.length
     ·have cqi:=cq i hlt;have hqi:=hq i hlt;have hsz:=Zt5 (s0:=s0) hs (by omega) hc;by_cases hch:Qt.chk p[i] ss.length 64=0
      ·rw [if_pos hch] at cqi;have ht:=Zw1 ss hs hch;have hnx:tS ss p s0 (i+1)=(if (tS ss p s0 i).size=0 then tS ss p s0 i else tS ss p s0 i++⟨#[42]⟩)++p[i].txt ss:=by rw [←Zcz (d:=Qt.zero) hlt];rfl
       have hpo:0 < i→0 < (tS ss p s0 i).size:=tS_pos ss p s0 i;have hc2:∀j (h:j < p.length),j < i+1→Qt.chk p[j] ss.length 64=0:=λj h hj=>by
        rcases Nat.lt_or_ge j i with h1 | h1
        ·exact hc j h h1
        ·have:j=i:=by omega
         subst this;exact hch
       have h42:(⟨#[42]⟩:ByteArray).size=1:=rfl;have h43:=ByteArray.size_append (a:=tS ss p s0 i) (b:=⟨#[42]⟩);have qe:Qt.av p[i]=.agg [iv p[i].k,iv p[i].a,iv p[i].b,iv p[i].c]:=rfl;rw [qe] at cqi hqi;clear hc hch;generalize p[i].txt ss=T at *;generalize tS ss p s0 i=S at *;generalize p[i].k=qk at *;generalize p[i].a=qa at *;generalize p[i].b=qb at *;generalize p[i].c=qc at *;by_cases hS:S.size=0
       ·have hi0:decide ((0:Int) < (i:Int))=false:=decide_eq_false (by omega);have hSz:=decide_eq_true hS;rw [if_pos hS] at hnx
        (repeat' (first|(with_reducible first|refine stp ?_|apply gx1|apply gx2|apply gx3|apply gx4|apply gx5|apply gx6|apply gx7|apply gy8|apply gz2|apply gz3|refine gw0 (cqi) ?_ ?_|refine gw3 (cqi) ?_ ?_ ?_)|(with_reducible refine Zao ?_;intro _)|((with_reducible refine gE ?_);(try simp (disch:=omega) only [go_sem,e1,e31,e32,e33,e7,hpl,hqi,Zfe,hi0,hSz,decide_eq_true,decide_eq_false,if_pos,if_neg,Int.reduceAdd,Int.reduceSub,Int.reduceToNat,Int.zero_add])<;>first|rfl|omega)|with_reducible refine Zab (by decide) ?_|((with_reducible apply gy1);iterate 3 focus rfl)|((with_reducible apply gy2);iterate 3 focus rfl)|((with_reducible apply gy3);iterate 2 focus rfl)|((with_reducible apply gy4);iterate 1 focus rfl)|((with_reducible apply gy5);iterate 4 focus rfl)|((with_reducible apply gy5c);iterate 4 focus rfl)|((with_reducible apply gy6);iterate 4 focus rfl)|((with_reducible apply Za7);iterate 3 focus rfl)|((with_reducible apply Za6);iterate 1 focus rfl)|((with_reducible apply gy7);iterate 1 focus rfl)|((with_reducible apply gy9);(focus ((with_reducible refine gE ?_);(try simp (disch:=omega) only [go_sem,e1,e31,e32,e33,e7,hpl,hqi,Zfe,hi0,hSz,decide_eq_true,decide_eq_false,if_pos,if_neg,Int.reduceAdd,Int.reduceSub,Int.reduceToNat,Int.zero_add])<;>rfl)))|((with_reducible apply gz1);(focus first|rfl|(simp (disch:=omega) only [go_sem,e1,e31,e32,e33,e7,hpl,hqi,Zfe,hi0,hSz,decide_eq_true,decide_eq_false,if_pos,if_neg,Int.reduceAdd,Int.reduceSub,Int.reduceToNat,Int.zero_add];done)))|((with_reducible apply Zae (Zau []) [] []);(focus kernel_rfl);(focus rfl);(focus kernel_rfl);(focus (simp only [List.length_cons,List.length_nil,Nat.reduceAdd];rfl)))|((with_reducible first|apply Za1|apply Za3|apply Za2);all_goals (intro hc;(try simp only [bool_to_prop] at hc);try (exfalso;omega)))))
        exact⟨i+1,⟨by omega,⟨by exact gW e1,by exact gW e31,by exact gW e32,by exact gS⟩,by rw [hnx];exact gC,hc2⟩,by omega⟩
       ·have hSz:=decide_eq_false hS;rw [if_neg hS] at hnx;by_cases hi0:i=0
        ·have hi0:decide ((0:Int) < (i:Int))=false:=decide_eq_false (by omega)
         (repeat' (first|(with_reducible first|refine stp ?_|apply gx1|apply gx2|apply gx3|apply gx4|apply gx5|apply gx6|apply gx7|apply gy8|apply gz2|apply gz3|refine gw0 (cqi) ?_ ?_|refine gw3 (cqi) ?_ ?_ ?_)|(with_reducible refine Zao ?_;intro _)|((with_reducible refine gE ?_);(try simp (disch:=omega) only [go_sem,e1,e31,e32,e33,e7,hpl,hqi,Zfe,hi0,hSz,h42,h43,decide_eq_true,decide_eq_false,if_pos,if_neg,Int.reduceAdd,Int.reduceSub,Int.reduceToNat,Int.zero_add])<;>first|rfl|omega)|with_reducible refine Zab (by decide) ?_|((with_reducible apply gy1);iterate 3 focus rfl)|((with_reducible apply gy2);iterate 3 focus rfl)|((with_reducible apply gy3);iterate 2 focus rfl)|((with_reducible apply gy4);iterate 1 focus rfl)|((with_reducible apply gy5);iterate 4 focus rfl)|((with_reducible apply gy5c);iterate 4 focus rfl)|((with_reducible apply gy6);iterate 4 focus rfl)|((with_reducible apply Za7);iterate 3 focus rfl)|((with_reducible apply Za6);iterate 1 focus rfl)|((with_reducible apply gy7);iterate 1 focus rfl)|((with_reducible apply gy9);(focus ((with_reducible refine gE ?_);(try simp (disch:=omega) only [go_sem,e1,e31,e32,e33,e7,hpl,hqi,Zfe,hi0,hSz,h42,h43,decide_eq_true,decide_eq_false,if_pos,if_neg,Int.reduceAdd,Int.reduceSub,Int.reduceToNat,Int.zero_add])<;>rfl)))|((with_reducible apply gz1);(focus first|rfl|(simp (disch:=omega) only [go_sem,e1,e31,e32,e33,e7,hpl,hqi,Zfe,hi0,hSz,h42,h43,decide_eq_true,decide_eq_false,if_pos,if_neg,Int.reduceAdd,Int.reduceSub,Int.reduceToNat,Int.zero_add];done)))|((with_reducible apply Zae (Zau []) [] []);(focus kernel_rfl);(focus rfl);(focus kernel_rfl);(focus (simp only [List.length_cons,List.length_nil,Nat.reduceAdd];rfl)))|((with_reducible first|apply Za1|apply Za3|apply Za2);all_goals (intro hc;(try simp only [bool_to_prop] at hc);try (exfalso;omega)))))
         exact⟨i+1,⟨by omega,⟨by exact gW e1,by exact gW e31,by exact gW e32,by exact gS⟩,by rw [hnx];exact gC,hc2⟩,by omega⟩
        ·have hi0:decide ((0:Int) < (i:Int))=true:=decide_eq_true (by omega)
         (repeat' (first|(with_reducible first|refine stp ?_|apply gx1|apply gx2|apply gx3|apply gx4|apply gx5|apply gx6|apply gx7|apply gy8|apply gz2|apply gz3|refine gw0 (cqi) ?_ ?_|refine gw3 (cqi) ?_ ?_ ?_)|(with_reducible refine Zao ?_;intro _)|((with_reducible refine gE ?_);(try simp (disch:=omega) only [go_sem,e1,e31,e32,e33,e7,hpl,hqi,Zfe,hi0,h42,h43,decide_eq_true,decide_eq_false,if_pos,if_neg,Int.reduceAdd,Int.reduceSub,Int.reduceToNat,Int.zero_add])<;>first|rfl|omega)|with_reducible refine Zab (by decide) ?_|((with_reducible apply gy1);iterate 3 focus rfl)|((with_reducible apply gy2);iterate 3 focus rfl)|((with_reducible apply gy3);iterate 2 focus rfl)|((with_reducible apply gy4);iterate 1 focus rfl)|((with_reducible apply gy5);iterate 4 focus rfl)|((with_reducible apply gy5c);iterate 4 focus rfl)|((with_reducible apply gy6);iterate 4 focus rfl)|((with_reducible apply Za7);iterate 3 focus rfl)|((with_reducible apply Za6);iterate 1 focus rfl)|((with_reducible apply gy7);iterate 1 focus rfl)|((with_reducible apply gy9);(focus ((with_reducible refine gE ?_);(try simp (disch:=omega) only [go_sem,e1,e31,e32,e33,e7,hpl,hqi,Zfe,hi0,h42,h43,decide_eq_true,decide_eq_false,if_pos,if_neg,Int.reduceAdd,Int.reduceSub,Int.reduceToNat,Int.zero_add])<;>rfl)))|((with_reducible apply gz1);(focus first|rfl|(simp (disch:=omega) only [go_sem,e1,e31,e32,e33,e7,hpl,hqi,Zfe,hi0,h42,h43,decide_eq_true,decide_eq_false,if_pos,if_neg,Int.reduceAdd,Int.reduceSub,Int.reduceToNat,Int.zero_add];done)))|((with_reducible apply Zae (Zau []) [] []);(focus kernel_rfl);(focus rfl);(focus kernel_rfl);(focus (simp only [List.length_cons,List.length_nil,Nat.reduceAdd];rfl)))|((with_reducible first|apply Za1|apply Za3|apply Za2);all_goals (intro hc;(try simp only [bool_to_prop] at hc);try (exfalso;omega)))))
         exact⟨i+1,⟨by omega,⟨by exact gW e1,by exact gW e31,by exact gW e32,by exact gS⟩,by rw [hnx];exact gC,hc2⟩,by omega⟩
      ·rw [if_neg hch] at cqi;have hat:=Zw3 hlt hc hch;rw [hat,if_neg hch] at hR;have qe:Qt.av p[i]=.agg [iv p[i].k,iv p[i].a,iv p[i].b,iv p[i].c]:=rfl;rw [qe] at cqi hqi;generalize Qt.chk p[i] ss.length 64=ch at *;generalize p[i].k=qk at *;generalize p[i].a=qa at *;generalize p[i].b=qb at *;generalize p[i].c=qc at *;rw [←hR];(focus (refine wkad (w_7 e1 e31 e32 e33 e7 hpl hqi) (w_1 cqi) w_t ?_;(repeat' first|exact w_t|apply w_l);all_goals intros));all_goals exact gL
     ·have:i=p.length:=by omega
      subst this;rw [if_pos (Zr6 λj h=>hc j h h)] at hR;rw [←hR];(focus (refine wkad (w_6 e1 e31 e32 e33 e7 hpl) w_t w_t ?_;(repeat' first|exact w_t|apply w_l);all_goals intros));all_goals exact gL
    ·exact⟨Nat.zero_le _,⟨by exact gW e1,by exact gC,by exact gW hpl,by exact gC⟩,by exact gW e7,λj h hj=>by omega⟩
section
attribute [local go_sem] Tryz.underlying3 Tryz.underlying4 Tryz.underlying169 Tryz.underlying41 Tryz.underlying43 Tryz.underlying45 Tryz.underlying25 Tryz.underlying47 Tryz.underlying49 Tryz.underlying22 Tryz.underlying23 sz3 by3 z3 szB zB Zbd zRat Zbf zInt Zbe zNat Zaj Zaw Zak Bool.and_self Zan Zbs zSlQ szQT byQT zQT Zby zSlT szQP zQP Tryz.underlying9 Tryz.underlying168 Tryz.underlying100 Tryz.underlying166 Zm3 Zin Zmx Zm4 Zcr zStr zSum zMap Tryz.underlying36 Tryz.underlying33 List.append_eq
end
theorem Zt4 {ss:List ByteArray} {t:Rat × List Qt} (hs:∀s∈ss,s.size≤1000) (hp:t.2.length≤1000) {k:Nat} (ha:Sz t.1 k) (hk:k≤1000000) (h:chkP ss.length t.2=0):(tTxt ss t).size≤15000000:=by
 have hz:=Zon (Zmv ha)
 have hall:∀j (h:j < t.2.length),Qt.chk t.2[j] ss.length 64=0:=by
  generalize t.2=p at h;clear hp
  induction p with
  | nil=>intro j hj;simp at hj
  | cons q l ih =>
    unfold chkP at h;by_cases h0:Qt.chk q ss.length 64=0
    ·rw [if_pos h0] at h;intro j hj
     cases j with
     | zero=>exact h0
     | succ j=>exact ih h j (by simpa using hj)
    ·rw [if_neg h0] at h;exact absurd h h0
 have hemp:(⟨#[]⟩:ByteArray).size=0:=rfl;unfold tTxt;have h2:=Zt5 (s0:=if t.2.length≠0∧absR t.1=1 then ⟨#[]⟩ else decQ (absR t.1)) hs (Nat.le_refl t.2.length) λj h _=>hall j h
 have h3:(if t.2.length≠0∧absR t.1=1 then ⟨#[]⟩ else decQ (absR t.1):ByteArray).size≤10*k+4:=by
  split
  ·rw [hemp];omega
  ·exact hz
 omega
theorem eS_size {ss:List ByteArray} {p:QTs} {i:Nat} (hi:i≤p.length) (h:∀j (h:j < p.length),j < i→(tTxt ss p[j]).size≤15000000):(eS ss p i).size≤i*15000003:=by
 induction i with
 | zero=>exact Nat.zero_le _
 | succ i ih =>
   have h1:=ih (by omega) λj hj hji=>h j hj (by omega);have h2:=h i (by omega) (by omega);have e:p.getD i (0,[])=p[i]:=Zcz (by omega);unfold eS;rw [ByteArray.size_append,e];have s0:(⟨#[]⟩:ByteArray).size=0:=rfl;have s1:(⟨#[45]⟩:ByteArray).size=1:=rfl;have s2:(⟨#[32,45,32]⟩:ByteArray).size=3:=rfl;have s3:(⟨#[32,43,32]⟩:ByteArray).size=3:=rfl;split
   ·split<;>omega
   ·rw [ByteArray.size_append];split<;>omega
def OkT (p:QTs) (k:Nat):Prop:=∀t∈p,t.2.length≤1000∧Sz t.1 k
theorem Zwi (p:QTs) (ss:List ByteArray) (hl:ss.length≤1000000000) (hs:∀s∈ss,s.size≤1000) (hp:p.length≤100000) {k:Nat} (hk:k≤1000000) (ho:OkT p k) :
 Pure Tryz.prog 18 [.sl 4 (p.map qtA),.sl 1 (ss.map strA)] (if chkE ss.length p=0 then .tup [strA (eTxt ss p),iv 0] else .tup [strA ⟨#[]⟩,iv (chkE ss.length p)]):=by
 have hpl:(p.map qtA).length=p.length:=List.length_map ..;have hq:∀i (h:i < p.length),(p.map qtA).getD i .u=.agg [.v (.bool (decide (p[i].1.num < 0))),lim (toL p[i].1.num.natAbs),lim (toL p[i].1.den),.sl 4 (p[i].2.map Qt.av)]:=λi h=>Za0 qtA h;have ct:∀i (h:i < p.length),Pure Tryz.prog 64 [.agg [.v (.bool (decide (p[i].1.num < 0))),lim (toL p[i].1.num.natAbs),lim (toL p[i].1.den),.sl 4 (p[i].2.map Qt.av)],.sl 1 (ss.map strA)] (if chkP ss.length p[i].2=0 then .tup [strA (tTxt ss p[i]),iv 0] else .tup [strA ⟨#[]⟩,iv (chkP ss.length p[i].2)]):=λi h=>exTerm p[i].1 p[i].2 ss hl hs (ho _ (List.getElem_mem h)).1 (ho _ (List.getElem_mem h)).2 hk
 have cs:∀i (h:i < p.length),Pure Tryz.prog 40 [.agg [.v (.bool (decide (p[i].1.num < 0))),lim (toL p[i].1.num.natAbs),lim (toL p[i].1.den)]] (iv p[i].1.num.sign):=λi h=>Zed p[i].1 (ho _ (List.getElem_mem h)).2 (by omega);have hsz:∀i (h:i < p.length),chkP ss.length p[i].2=0→(tTxt ss p[i]).size≤15000000:=λi h h2=>Zt4 hs (ho _ (List.getElem_mem h)).1 (ho _ (List.getElem_mem h)).2 hk h2;clear ho hk;generalize ss.map strA=N at *;generalize p.map qtA=P at *;generalize hR:(if chkE ss.length p=0 then AV.tup [strA (eTxt ss p),iv 0] else .tup [strA ⟨#[]⟩,iv (chkE ss.length p)])=R at *;have hemp:(⟨#[]⟩:ByteArray).size=0:=rfl
 refine Zaa (tok:=0) Tryz.func18 rfl Tryz.ntmps18 Tryz.results18 Tryz.call18 (by rfl) (by simp) ?_;by_cases hp0:p.length=0
 ·obtain rfl:=List.length_eq_zero_iff.1 hp0;have hR:AV.tup [strA ⟨#[48]⟩,iv 0]=R:=hR;have hpl:P.length=0:=hpl;rw [←hR];(focus (refine wkad (w_2 hpl @Int.natCast_zero) w_t w_t ?_;(repeat' first|exact w_t|apply w_l);all_goals intros));all_goals exact gL
 ·have hpi:¬((p.length:Nat):Int)=0:=by omega
  have eTx:eTxt ss p=eS ss p p.length:=if_neg hp0;rw [eTx] at hR;(focus (refine wkad (w_2 hpl hpi) w_t w_t ?_;(repeat' first|exact w_t|apply w_l);all_goals intros));refine Zad (ι:=Nat) (λi e m=>i≤p.length∧(e 1=.sl 1 N∧e 15=.sl 4 P∧e 16=iv p.length∧e 17=iv i)∧e 6=strA (eS ss p i)∧∀j (h:j < p.length),j < i→chkP ss.length p[j].2=0) (λi=>p.length - i) 0 (by rfl) ?_ ?_
  ·rintro i e m ⟨hi,⟨e1,e15,e16,e17⟩,e6,hc⟩
   by_cases hlt:i < p.length
   ·have cti:=ct i hlt;have csi:=cs i hlt;have hqi:=hq i hlt;have hes:=eS_size (ss:=ss) (p:=p) hi λj h hj=>hsz j h (hc j h hj);by_cases hch:chkP ss.length p[i].2=0
    ·rw [if_pos hch] at cti;have ht:=hsz i hlt hch;have hnx:eS ss p (i+1)=(if i=0 then (if p[i].1.num < 0 then ⟨#[45]⟩ else ⟨#[]⟩) else eS ss p i++(if p[i].1.num < 0 then ⟨#[32,45,32]⟩ else ⟨#[32,43,32]⟩))++tTxt ss p[i]:=by rw [←Zcz (d:=((0:Rat),([]:List Qt))) hlt];rfl
     have hc2:∀j (h:j < p.length),j < i+1→chkP ss.length p[j].2=0:=λj h hj=>by
      rcases Nat.lt_or_ge j i with h1 | h1
      ·exact hc j h h1
      ·have:j=i:=by omega
       subst this;exact hch
     have e0s:eS ss p 0=⟨#[]⟩:=rfl;have hn0:decide (p[i].1.num.sign < 0)=decide (p[i].1.num < 0):=by rw [decide_eq_decide];exact Int.sign_neg_iff
     have s45:(⟨#[45]⟩:ByteArray).size=1:=rfl;have s3:(⟨#[32,45,32]⟩:ByteArray).size=3:=rfl;have s4:(⟨#[32,43,32]⟩:ByteArray).size=3:=rfl;have z3:=ByteArray.size_append (a:=eS ss p i) (b:=⟨#[32,45,32]⟩);have z4:=ByteArray.size_append (a:=eS ss p i) (b:=⟨#[32,43,32]⟩);clear hc hch ct cs hsz hq;generalize tTxt ss p[i]=T at *;generalize p[i].2.map Qt.av=qs at *;by_cases hng:p[i].1.num < 0
     ·rw [if_pos hng,if_pos hng] at hnx;rw [decide_eq_true hng] at hn0 csi cti hqi;clear hng;generalize p[i].1.num.sign=sn at *;generalize toL p[i].1.num.natAbs=An at *;generalize toL p[i].1.den=Ad at *;by_cases hi0:i=0
      ·subst hi0;rw [if_pos rfl] at hnx;rw [e0s] at e6;have e45:(⟨#[]⟩++⟨#[45]⟩:ByteArray)=⟨#[45]⟩:=rfl;(focus (refine wkad (w_12 e1 e15 e16 e17 hpl e6 hqi hn0 e45 hemp s45 @Int.natCast_zero) (w_2 cti csi) w_t ?_;(repeat' first|exact w_t|apply w_l);all_goals intros));exact⟨0+1,⟨by omega,⟨by exact gW e1,by exact gW e15,by exact gW e16,by exact gS⟩,by rw [hnx];exact gC,hc2⟩,by omega⟩
      ·rw [if_neg hi0] at hnx;have hi1:decide ((0:Int) < (i:Int))=true:=decide_eq_true (by omega);have hi2:¬(i:Int)=0:=by omega
       (focus (refine wkad (w_12 e1 e15 e16 e17 hpl e6 hqi hn0 hi1 hi2 z3 s3) (w_2 cti csi) w_t ?_;(repeat' first|exact w_t|apply w_l);all_goals intros));exact⟨i+1,⟨by omega,⟨by exact gW e1,by exact gW e15,by exact gW e16,by exact gS⟩,by rw [hnx];exact gC,hc2⟩,by omega⟩
     ·rw [if_neg hng,if_neg hng] at hnx;rw [decide_eq_false hng] at hn0 csi cti hqi;clear hng;generalize p[i].1.num.sign=sn at *;generalize toL p[i].1.num.natAbs=An at *;generalize toL p[i].1.den=Ad at *;by_cases hi0:i=0
      ·subst hi0;rw [if_pos rfl] at hnx;rw [e0s] at e6;(focus (refine wkad (w_10 e1 e15 e16 e17 hpl e6 hqi hn0 hemp @Int.natCast_zero) (w_2 cti csi) w_t ?_;(repeat' first|exact w_t|apply w_l);all_goals intros));exact⟨0+1,⟨by omega,⟨by exact gW e1,by exact gW e15,by exact gW e16,by exact gS⟩,by rw [hnx];exact gC,hc2⟩,by omega⟩
      ·rw [if_neg hi0] at hnx;have hi1:decide ((0:Int) < (i:Int))=true:=decide_eq_true (by omega);have hi2:¬(i:Int)=0:=by omega
       (focus (refine wkad (w_12 e1 e15 e16 e17 hpl e6 hqi hn0 hi1 hi2 z4 s4) (w_2 cti csi) w_t ?_;(repeat' first|exact w_t|apply w_l);all_goals intros));exact⟨i+1,⟨by omega,⟨by exact gW e1,by exact gW e15,by exact gW e16,by exact gS⟩,by rw [hnx];exact gC,hc2⟩,by omega⟩
    ·rw [if_neg hch] at cti;have hat:=Zw4 hlt hc hch;rw [hat,if_neg hch] at hR;generalize chkP ss.length p[i].2=ch at *;generalize p[i].2.map Qt.av=qs at *;generalize decide (p[i].1.num < 0)=ng at *;generalize toL p[i].1.num.natAbs=An at *;generalize toL p[i].1.den=Ad at *;rw [←hR];(focus (refine wkad (w_7 e1 e15 e16 e17 hpl e6 hqi) (w_1 cti) w_t ?_;(repeat' first|exact w_t|apply w_l);all_goals intros));all_goals exact gL
   ·have:i=p.length:=by omega
    subst this;rw [if_pos (Zr7 λj h=>hc j h h)] at hR;rw [←hR];(focus (refine wkad (w_6 e1 e15 e16 e17 hpl e6) w_t w_t ?_;(repeat' first|exact w_t|apply w_l);all_goals intros));all_goals exact gL
  ·exact⟨Nat.zero_le _,⟨by exact gC,by exact gC,by exact gW hpl,by exact gC⟩,by exact gC,λj h hj=>by omega⟩
attribute [local go_sem] Tryz.underlying92 Tryz.underlying27 szFr byFr zFr Zfu Zfx zSQP
theorem Zuz:ratQ (-1:Rat)=.agg [.v (.bool true),lim [1],lim [1]]:=by
 show AV.agg [.v (.bool (decide ((-1:Rat).num < 0))),lim (toL (-1:Rat).num.natAbs),lim (toL (-1:Rat).den)]=_;rw [show(-1:Rat).num=-1 from rfl,show(-1:Rat).den=1 from rfl,show(-1:Int).natAbs=1 from rfl,Zf2];rfl
theorem Zoy:toL 2=[2]:=by rw [Zd9 (by omega),show 2/65536=0 from rfl,Zax]
theorem ratQ_2:ratQ (2:Rat)=.agg [.v (.bool false),lim [2],lim [1]]:=by
 show AV.agg [.v (.bool (decide ((2:Rat).num < 0))),lim (toL (2:Rat).num.natAbs),lim (toL (2:Rat).den)]=_;rw [show(2:Rat).num=2 from rfl,show(2:Rat).den=1 from rfl,show(2:Int).natAbs=2 from rfl,Zf2,Zoy];rfl
theorem Zhp (l:List Qt):qtA ((-1:Rat),l)=.agg [.v (.bool true),lim [1],lim [1],qsA l]:=by
 show AV.agg [.v (.bool (decide ((-1:Rat).num < 0))),lim (toL (-1:Rat).num.natAbs),lim (toL (-1:Rat).den),qsA l]=_;rw [show(-1:Rat).num=-1 from rfl,show(-1:Rat).den=1 from rfl,show(-1:Int).natAbs=1 from rfl,Zf2];rfl
theorem qtA_2 (l:List Qt):RE.av ⟨rawQ 2,l⟩=.agg [.v (.bool false),lim [2],lim [1],qsA l]:=by
 show AV.agg [.v (.bool (decide ((2:Rat).num < 0))),lim (toL (2:Rat).num.natAbs),lim (toL (2:Rat).den),qsA l]=_;rw [show(2:Rat).num=2 from rfl,show(2:Rat).den=1 from rfl,show(2:Int).natAbs=2 from rfl,Zf2,Zoy];rfl
theorem sz_two:Sz (2:Rat) 1:=⟨by show(toL 2).length≤1;rw [Zoy];decide,by show(toL 1).length≤1;rw [Zdi];omega⟩
theorem sz_m1:Sz (-1:Rat) 1:=⟨by show(toL 1).length≤1;rw [Zdi];omega,by show(toL 1).length≤1;rw [Zdi];omega⟩
theorem awArea (a b c:Int):Pure Tryz.prog 54 [iv a,iv b,iv c] (.agg [iv 1,iv a,iv b,iv c]):=by
 refine Zaa (tok:=0) Tryz.func54 rfl Tryz.ntmps54 Tryz.results54 Tryz.call54 (by rfl) (by simp) ?_;(focus (refine wkad w_t w_t w_t ?_;(repeat' first|exact w_t|apply w_l);all_goals intros));all_goals exact gL
theorem awPar (a:Int):Pure Tryz.prog 55 [iv a] (.agg [iv 3,iv a,iv 0,iv 0]):=by
 refine Zaa (tok:=0) Tryz.func55 rfl Tryz.ntmps55 Tryz.results55 Tryz.call55 (by rfl) (by simp) ?_;(focus (refine wkad w_t w_t w_t ?_;(repeat' first|exact w_t|apply w_l);all_goals intros));all_goals exact gL
theorem awN1:Pure Tryz.prog 22 [.sl 4 [.agg [.v (.bool false),lim [2],lim [1],.sl 4 [.agg [iv 1,iv 1,iv 0,iv 2]]],.agg [.v (.bool false),lim [1],lim [1],.sl 4 [.agg [iv 1,iv 0,iv 1,iv 2]]]]] (.sl 4 [.agg [.v (.bool true),lim [1],lim [1],.sl 4 [.agg [iv 1,iv 0,iv 1,iv 2]]]]):=by
 have c:=Zk4 [⟨rawQ 2,[(⟨1,1,0,2⟩:Qt)]⟩,oneE [(⟨1,0,1,2⟩:Qt)]] (J:=1) (by simp) (λt ht=>by
  rcases List.mem_cons.1 ht with rfl | ht
  ·exact Zhe sz_two
  ·rw [List.mem_singleton.1 ht];exact Zhe Zim) (λt ht=>by
  rcases List.mem_cons.1 ht with rfl | ht
  ·simp
  ·rw [List.mem_singleton.1 ht];simp) (by omega)
 rw [Zks (by show((rawQ 2).ok && true && ((rawQ 1).ok && true && true))=true;rw [Zh8,Zh8];rfl)] at c
 have e:[(⟨rawQ 2,[(⟨1,1,0,2⟩:Qt)]⟩:RE),oneE [(⟨1,0,1,2⟩:Qt)]].map RE.t=[((-2:Rat),[(⟨1,0,1,2⟩:Qt)]),((1:Rat),[(⟨1,0,1,2⟩:Qt)])]:=by
  show [((rawQ 2).q*(sgP [(⟨1,1,0,2⟩:Qt)]:Rat),putP [(⟨1,1,0,2⟩:Qt)]),((rawQ 1).q*(sgP [(⟨1,0,1,2⟩:Qt)]:Rat),putP [(⟨1,0,1,2⟩:Qt)])]=_;rw [Zq4,Zq4];decide +kernel
 rw [e,gat_C (m:=[((-1:Rat),[(⟨1,0,1,2⟩:Qt)])]) (by decide +kernel)] at c;simp only [qpA,List.map_cons,List.map_nil,Zhp,qtA_2,Zvu] at c;exact c
theorem awOf (q:Qt) (h0:q.ok=true) (h1:sgP [q]=1) (h2:putP [q]=[q]):Pure Tryz.prog 26 [q.av] (.sl 4 [.agg [.v (.bool false),lim [1],lim [1],.sl 4 [q.av]]]):=by
 have c:=exOf q;rw [Zks (by show(RE.ok (oneE [q]) && true)=true;rw [Bool.and_true];show((rawQ 1).ok && (q.ok && true))=true;rw [Zh8,h0];rfl)] at c
 have e:gatM ((ofE q).map RE.t)=[((1:Rat),[q])]:=by
  show gatM [RE.t (oneE [q])]=_;rw [Zvt h1 h2,Zid,if_neg (show ¬(1:Rat)=0 by decide)]
 rw [e] at c;simp only [qpA,List.map_cons,List.map_nil,Zbq] at c;exact c
theorem awB1:Pure Tryz.prog 34 [.sl 4 [.agg [.v (.bool false),lim [1],lim [1],.sl 4 [.agg [iv 1,iv 0,iv 1,iv 2]]]],.sl 4 [.agg [.v (.bool false),lim [1],lim [1],.sl 4 []]]] (.sl 4 [.agg [.v (.bool false),lim [1],lim [1],.sl 4 []],.agg [.v (.bool false),lim [1],lim [1],.sl 4 [.agg [iv 1,iv 0,iv 1,iv 2]]]]):=by
 have c:=Zxh [((1:Rat),[(⟨1,0,1,2⟩:Qt)])] [((1:Rat),[])] [((1:Rat),[]),((1:Rat),[(⟨1,0,1,2⟩:Qt)])] (xbC _ _ (by decide +kernel)) (xbC _ _ (by decide +kernel)) (by decide +kernel) (by decide) (by decide);simp only [qpA,List.map_cons,List.map_nil,Zbq,Zhp] at c;exact c
theorem awB2:Pure Tryz.prog 42 [.sl 4 [.agg [.v (.bool false),lim [1],lim [1],.sl 4 [.agg [iv 1,iv 0,iv 1,iv 2]]]],.sl 4 [.agg [.v (.bool false),lim [1],lim [1],.sl 4 []]]] (.sl 4 [.agg [.v (.bool true),lim [1],lim [1],.sl 4 []],.agg [.v (.bool false),lim [1],lim [1],.sl 4 [.agg [iv 1,iv 0,iv 1,iv 2]]]]):=by
 have hp:XB [((1:Rat),[(⟨1,0,1,2⟩:Qt)])] 1 6:=xbC _ _ (by decide +kernel);have hq:XB [((1:Rat),[])] 1 6:=xbC _ _ (by decide +kernel);have hm:XB [((-1:Rat),[])] 1 6:=xbC _ _ (by decide +kernel);have c:=exMinus _ _ hp.qk hq.qk hp.nz hq.nz (by decide) (by decide) (by omega) (by omega) (by omega);rw [show sclT (-1) [((1:Rat),[])]=[((-1:Rat),[])] from by decide +kernel,add_C (r:=[((-1:Rat),[]),((1:Rat),[(⟨1,0,1,2⟩:Qt)])]) hp.1 hm.1 (by decide +kernel)] at c;simp only [qpA,List.map_cons,List.map_nil,Zbq,Zhp] at c;exact c
theorem awB3:Pure Tryz.prog 35 [.sl 4 [.agg [.v (.bool false),lim [1],lim [1],.sl 4 []],.agg [.v (.bool false),lim [1],lim [1],.sl 4 [.agg [iv 1,iv 0,iv 1,iv 2]]]],.sl 4 [.agg [.v (.bool true),lim [1],lim [1],.sl 4 []],.agg [.v (.bool false),lim [1],lim [1],.sl 4 [.agg [iv 1,iv 0,iv 1,iv 2]]]]] (.sl 4 [.agg [.v (.bool true),lim [1],lim [1],.sl 4 []],.agg [.v (.bool false),lim [1],lim [1],.sl 4 [.agg [iv 1,iv 0,iv 1,iv 2],.agg [iv 1,iv 0,iv 1,iv 2]]]]):=by
 have c:=Zor [((1:Rat),[]),((1:Rat),[(⟨1,0,1,2⟩:Qt)])] [((-1:Rat),[]),((1:Rat),[(⟨1,0,1,2⟩:Qt)])] [((-1:Rat),[]),((1:Rat),[(⟨1,0,1,2⟩:Qt),(⟨1,0,1,2⟩:Qt)])] (xbC _ _ (by decide +kernel)) (xbC _ _ (by decide +kernel)) (by decide +kernel) (by decide) (by decide);simp only [qpA,List.map_cons,List.map_nil,Zbq,Zhp] at c;exact c
theorem awB4:Pure Tryz.prog 35 [.sl 4 [.agg [.v (.bool false),lim [1],lim [1],.sl 4 [.agg [iv 3,iv 0,iv 0,iv 0]]]],.sl 4 [.agg [.v (.bool false),lim [1],lim [1],.sl 4 [.agg [iv 3,iv 0,iv 0,iv 0]]]]] (.sl 4 [.agg [.v (.bool false),lim [1],lim [1],.sl 4 [.agg [iv 3,iv 0,iv 0,iv 0],.agg [iv 3,iv 0,iv 0,iv 0]]]]):=by
 have c:=Zor [((1:Rat),[(⟨3,0,0,0⟩:Qt)])] [((1:Rat),[(⟨3,0,0,0⟩:Qt)])] [((1:Rat),[(⟨3,0,0,0⟩:Qt),(⟨3,0,0,0⟩:Qt)])] (xbC _ _ (by decide +kernel)) (xbC _ _ (by decide +kernel)) (by decide +kernel) (by decide) (by decide);simp only [qpA,List.map_cons,List.map_nil,Zbq,Zhp] at c;exact c
theorem awB5:Pure Tryz.prog 34 [.sl 4 [.agg [.v (.bool false),lim [1],lim [1],.sl 4 [.agg [iv 3,iv 0,iv 0,iv 0],.agg [iv 3,iv 0,iv 0,iv 0]]]],.sl 4 [.agg [.v (.bool false),lim [1],lim [1],.sl 4 [.agg [iv 3,iv 1,iv 0,iv 0]]]]] (.sl 4 [.agg [.v (.bool false),lim [1],lim [1],.sl 4 [.agg [iv 3,iv 1,iv 0,iv 0]]],.agg [.v (.bool false),lim [1],lim [1],.sl 4 [.agg [iv 3,iv 0,iv 0,iv 0],.agg [iv 3,iv 0,iv 0,iv 0]]]]):=by
 have c:=Zxh [((1:Rat),[(⟨3,0,0,0⟩:Qt),(⟨3,0,0,0⟩:Qt)])] [((1:Rat),[(⟨3,1,0,0⟩:Qt)])] [((1:Rat),[(⟨3,1,0,0⟩:Qt)]),((1:Rat),[(⟨3,0,0,0⟩:Qt),(⟨3,0,0,0⟩:Qt)])] (xbC _ _ (by decide +kernel)) (xbC _ _ (by decide +kernel)) (by decide +kernel) (by decide) (by decide);simp only [qpA,List.map_cons,List.map_nil,Zbq,Zhp] at c;exact c
theorem awX1:Pure Tryz.prog 18 [.sl 4 [.agg [.v (.bool true),lim [1],lim [1],.sl 4 []],.agg [.v (.bool false),lim [1],lim [1],.sl 4 [.agg [iv 1,iv 0,iv 1,iv 2],.agg [iv 1,iv 0,iv 1,iv 2]]]],.sl 1 [strA ⟨#[65]⟩,strA ⟨#[66]⟩,strA ⟨#[67]⟩]] (.tup [strA ⟨#[45,49,32,43,32,83,40,65,44,32,66,44,32,67,41,42,83,40,65,44,32,66,44,32,67,41]⟩,iv 0]):=by
 have c:=Zwi [((-1:Rat),[]),((1:Rat),[(⟨1,0,1,2⟩:Qt),(⟨1,0,1,2⟩:Qt)])] [⟨#[65]⟩,⟨#[66]⟩,⟨#[67]⟩] (by decide) (by decide) (by decide) (k:=1) (by omega) (λt ht=>by
  rcases List.mem_cons.1 ht with rfl | ht
  ·exact⟨by decide,sz_m1⟩
  rcases List.mem_cons.1 ht with rfl | ht
  ·exact⟨by decide,Zim⟩
  cases ht)
 rw [if_pos (by decide +kernel),show eTxt [⟨#[65]⟩,⟨#[66]⟩,⟨#[67]⟩] [((-1:Rat),[]),((1:Rat),[(⟨1,0,1,2⟩:Qt),(⟨1,0,1,2⟩:Qt)])]=⟨#[45,49,32,43,32,83,40,65,44,32,66,44,32,67,41,42,83,40,65,44,32,66,44,32,67,41]⟩from by decide +kernel] at c;simp only [List.map_cons,List.map_nil,Zbq,Zhp] at c;exact c
theorem awX2:Pure Tryz.prog 18 [.sl 4 [.agg [.v (.bool false),lim [1],lim [1],.sl 4 []],.agg [.v (.bool false),lim [1],lim [1],.sl 4 [.agg [iv 3,iv 1,iv 0,iv 0],.agg [iv 3,iv 2,iv 0,iv 0],.agg [iv 3,iv 2,iv 0,iv 0]]]],.v (.slice none 0 0)] (.tup [strA ⟨#[49,32,43,32,116,40,49,41,42,116,40,50,41,42,116,40,50,41]⟩,iv 0]):=by
 have c:=Zwi [((1:Rat),[]),((1:Rat),[(⟨3,1,0,0⟩:Qt),(⟨3,2,0,0⟩:Qt),(⟨3,2,0,0⟩:Qt)])] [] (by decide) (by decide) (by decide) (k:=1) (by omega) (λt ht=>by
  rcases List.mem_cons.1 ht with rfl | ht
  ·exact⟨by decide,Zim⟩
  rcases List.mem_cons.1 ht with rfl | ht
  ·exact⟨by decide,Zim⟩
  cases ht)
 rw [if_pos (by decide +kernel),show eTxt [] [((1:Rat),[]),((1:Rat),[(⟨3,1,0,0⟩:Qt),(⟨3,2,0,0⟩:Qt),(⟨3,2,0,0⟩:Qt)])]=⟨#[49,32,43,32,116,40,49,41,42,116,40,50,41,42,116,40,50,41]⟩from by decide +kernel] at c;simp only [List.map_cons,List.map_nil,Zbq,Zhp] at c;exact Zfi c (.cons (.refl _) (.cons (.nil 1) .nil))
theorem awX3:Pure Tryz.prog 18 [.sl 4 [.agg [.v (.bool false),lim [1],lim [1],.sl 4 [.agg [iv 3,iv 2,iv 0,iv 0],.agg [iv 3,iv 2,iv 0,iv 0]]]],.v (.slice none 0 0)] (.tup [strA ⟨#[116,40,50,41,42,116,40,50,41]⟩,iv 0]):=by
 have c:=Zwi [((1:Rat),[(⟨3,2,0,0⟩:Qt),(⟨3,2,0,0⟩:Qt)])] [] (by decide) (by decide) (by decide) (k:=1) (by omega) (λt ht=>by
  rcases List.mem_cons.1 ht with rfl | ht
  ·exact⟨by decide,Zim⟩
  cases ht)
 rw [if_pos (by decide +kernel),show eTxt [] [((1:Rat),[(⟨3,2,0,0⟩:Qt),(⟨3,2,0,0⟩:Qt)])]=⟨#[116,40,50,41,42,116,40,50,41]⟩from by decide +kernel] at c;simp only [List.map_cons,List.map_nil,Zbq,Zhp] at c;exact Zfi c (.cons (.refl _) (.cons (.nil 1) .nil))
theorem Zxf:Pure Tryz.prog 12 [] (.v (.bool true)):=by
 have o1:Pure Tryz.prog 53 [iv 1] (.agg [.v (.bool false),lim [1],lim [1]]):=by rw [←Zgq];exact qOf 1 (by omega)
 have o2:Pure Tryz.prog 53 [iv 2] (.agg [.v (.bool false),lim [2],lim [1]]):=by rw [←ratQ_2];exact qOf 2 (by omega)
 have om:Pure Tryz.prog 53 [iv (-1)] (.agg [.v (.bool true),lim [1],lim [1]]):=by rw [←Zuz];exact qOfM
 have oe:Pure Tryz.prog 33 [.agg [.v (.bool true),lim [1],lim [1]],.agg [.v (.bool true),lim [1],lim [1]]] (.v (.bool true)):=by
  have c:=Zvb (-1) (-1) sz_m1 sz_m1 (by omega) (by omega)
  rwa [decide_eq_true rfl,Zuz] at c
 have r1:=awArea 1 0 2;have r2:=awArea 0 1 2;have p0:=awPar 0;have p1:=awPar 1;have p2:=awPar 2;have n1:=awN1;have f1:Pure Tryz.prog 26 [.agg [iv 1,iv 0,iv 1,iv 2]] (.sl 4 [.agg [.v (.bool false),lim [1],lim [1],.sl 4 [.agg [iv 1,iv 0,iv 1,iv 2]]]]):=awOf (⟨1,0,1,2⟩:Qt) (by decide) (by decide) (by decide);have f2:Pure Tryz.prog 26 [.agg [iv 3,iv 0,iv 0,iv 0]] (.sl 4 [.agg [.v (.bool false),lim [1],lim [1],.sl 4 [.agg [iv 3,iv 0,iv 0,iv 0]]]]):=awOf (⟨3,0,0,0⟩:Qt) (by decide) (by decide) (by decide);have f3:Pure Tryz.prog 26 [.agg [iv 3,iv 1,iv 0,iv 0]] (.sl 4 [.agg [.v (.bool false),lim [1],lim [1],.sl 4 [.agg [iv 3,iv 1,iv 0,iv 0]]]]):=awOf (⟨3,1,0,0⟩:Qt) (by decide) (by decide) (by decide)
 have f4:Pure Tryz.prog 26 [.agg [iv 3,iv 2,iv 0,iv 0]] (.sl 4 [.agg [.v (.bool false),lim [1],lim [1],.sl 4 [.agg [iv 3,iv 2,iv 0,iv 0]]]]):=awOf (⟨3,2,0,0⟩:Qt) (by decide) (by decide) (by decide);have cc:=Zmp;have b1:=awB1;have b2:=awB2;have b3:=awB3;have b4:=awB4;have b5:=awB5;have x1:=awX1;have x2:=awX2;have x3:=awX3;have rr:=Zxg;refine Zaa (tok:=0) Tryz.func12 rfl Tryz.ntmps12 Tryz.results12 Tryz.call12 (by rfl) (by simp) ?_;have hS:∀s:ByteArray,(s.toList == s.toList)=true:=λs=>beq_self_eq_true _
 (repeat' (first|(with_reducible first|refine stp ?_|apply gx1|apply gx2|apply gx3|apply gx4|apply gx5|apply gx6|apply gx7|apply gy8|apply gz2|apply gz3|refine gw0 (o1) ?_ ?_|refine gw3 (o1) ?_ ?_ ?_|refine gw0 (o2) ?_ ?_|refine gw3 (o2) ?_ ?_ ?_|refine gw0 (om) ?_ ?_|refine gw3 (om) ?_ ?_ ?_|refine gw0 (oe) ?_ ?_|refine gw3 (oe) ?_ ?_ ?_|refine gw0 (r1) ?_ ?_|refine gw3 (r1) ?_ ?_ ?_|refine gw0 (r2) ?_ ?_|refine gw3 (r2) ?_ ?_ ?_|refine gw0 (p0) ?_ ?_|refine gw3 (p0) ?_ ?_ ?_|refine gw0 (p1) ?_ ?_|refine gw3 (p1) ?_ ?_ ?_|refine gw0 (p2) ?_ ?_|refine gw3 (p2) ?_ ?_ ?_|refine gw0 (n1) ?_ ?_|refine gw3 (n1) ?_ ?_ ?_|refine gw0 (f1) ?_ ?_|refine gw3 (f1) ?_ ?_ ?_|refine gw0 (f2) ?_ ?_|refine gw3 (f2) ?_ ?_ ?_|refine gw0 (f3) ?_ ?_|refine gw3 (f3) ?_ ?_ ?_|refine gw0 (f4) ?_ ?_|refine gw3 (f4) ?_ ?_ ?_|refine gw0 (cc) ?_ ?_|refine gw3 (cc) ?_ ?_ ?_|refine gw0 (b1) ?_ ?_|refine gw3 (b1) ?_ ?_ ?_|refine gw0 (b2) ?_ ?_|refine gw3 (b2) ?_ ?_ ?_|refine gw0 (b3) ?_ ?_|refine gw3 (b3) ?_ ?_ ?_|refine gw0 (b4) ?_ ?_|refine gw3 (b4) ?_ ?_ ?_|refine gw0 (b5) ?_ ?_|refine gw3 (b5) ?_ ?_ ?_|refine gw0 (x2) ?_ ?_|refine gw3 (x2) ?_ ?_ ?_|refine gw0 (x3) ?_ ?_|refine gw3 (x3) ?_ ?_ ?_|apply gw1 (x1)|refine gw0 (rr) ?_ ?_|refine gw3 (rr) ?_ ?_ ?_)|(with_reducible refine Zao ?_;intro _)|((with_reducible refine gE ?_);(try simp (disch:=omega) only [go_sem,hS,decide_eq_true,decide_eq_false,if_pos,if_neg,Int.reduceAdd,Int.reduceSub,Int.reduceToNat,Int.zero_add])<;>first|rfl|omega)|with_reducible refine Zab (by decide) ?_|((with_reducible apply gy1);iterate 3 focus rfl)|((with_reducible apply gy2);iterate 3 focus rfl)|((with_reducible apply gy3);iterate 2 focus rfl)|((with_reducible apply gy4);iterate 1 focus rfl)|((with_reducible apply gy5);iterate 4 focus rfl)|((with_reducible apply gy5c);iterate 4 focus rfl)|((with_reducible apply gy6);iterate 4 focus rfl)|((with_reducible apply Za7);iterate 3 focus rfl)|((with_reducible apply Za6);iterate 1 focus rfl)|((with_reducible apply gy7);iterate 1 focus rfl)|((with_reducible apply gy9);(focus ((with_reducible refine gE ?_);(try simp (disch:=omega) only [go_sem,hS,decide_eq_true,decide_eq_false,if_pos,if_neg,Int.reduceAdd,Int.reduceSub,Int.reduceToNat,Int.zero_add])<;>rfl)))|((with_reducible apply gz1);(focus first|rfl|(simp (disch:=omega) only [go_sem,hS,decide_eq_true,decide_eq_false,if_pos,if_neg,Int.reduceAdd,Int.reduceSub,Int.reduceToNat,Int.zero_add];done)))|((with_reducible apply Zae (id:=2) (Zau [(0,.agg [.v (.bool false),lim [2],lim [1]]),(1,.agg [iv 1,iv 1,iv 0,iv 2]),(2,.sl 4 [.agg [iv 1,iv 1,iv 0,iv 2]]),(5,.agg [iv 1,iv 0,iv 1,iv 2]),(6,.sl 4 [.agg [iv 1,iv 0,iv 1,iv 2]]),(8,.sl 4 [.agg [.v (.bool false),lim [2],lim [1],.sl 4 [.agg [iv 1,iv 1,iv 0,iv 2]]],.agg [.v (.bool false),lim [1],lim [1],.sl 4 [.agg [iv 1,iv 0,iv 1,iv 2]]]]),(9,.sl 4 [.agg [.v (.bool true),lim [1],lim [1],.sl 4 [.agg [iv 1,iv 0,iv 1,iv 2]]]])]) [] []);(focus kernel_rfl);(focus rfl);(focus kernel_rfl);(focus (simp only [List.length_cons,List.length_nil,Nat.reduceAdd];rfl)))|((with_reducible apply Zae (id:=4) (Zau [(2,.sl 4 [.agg [.v (.bool false),lim [1],lim [1],.sl 4 []]]),(3,.sl 4 [.agg [.v (.bool false),lim [1],lim [1],.sl 4 []],.agg [.v (.bool false),lim [1],lim [1],.sl 4 [.agg [iv 1,iv 0,iv 1,iv 2]]]]),(6,.sl 4 [.agg [.v (.bool false),lim [1],lim [1],.sl 4 []]]),(7,.sl 4 [.agg [.v (.bool true),lim [1],lim [1],.sl 4 []],.agg [.v (.bool false),lim [1],lim [1],.sl 4 [.agg [iv 1,iv 0,iv 1,iv 2]]]]),(8,.sl 4 [.agg [.v (.bool true),lim [1],lim [1],.sl 4 []],.agg [.v (.bool false),lim [1],lim [1],.sl 4 [.agg [iv 1,iv 0,iv 1,iv 2],.agg [iv 1,iv 0,iv 1,iv 2]]]])]) [] []);(focus kernel_rfl);(focus rfl);(focus kernel_rfl);(focus (simp only [List.length_cons,List.length_nil,Nat.reduceAdd];rfl)))|((with_reducible apply Zae (id:=7) (Zau [(1,.agg [iv 3,iv 0,iv 0,iv 0]),(3,.sl 4 [.agg [.v (.bool false),lim [1],lim [1],.sl 4 []]]),(4,.agg [iv 3,iv 2,iv 0,iv 0]),(5,.sl 4 [.agg [.v (.bool false),lim [1],lim [1],.sl 4 [.agg [iv 3,iv 2,iv 0,iv 0]]]]),(7,.agg [.sl 4 [.agg [.v (.bool false),lim [1],lim [1],.sl 4 []],.agg [.v (.bool false),lim [1],lim [1],.sl 4 [.agg [iv 3,iv 1,iv 0,iv 0],.agg [iv 3,iv 2,iv 0,iv 0],.agg [iv 3,iv 2,iv 0,iv 0]]]],.sl 4 [.agg [.v (.bool false),lim [1],lim [1],.sl 4 [.agg [iv 3,iv 2,iv 0,iv 0],.agg [iv 3,iv 2,iv 0,iv 0]]]]])]) [] []);(focus kernel_rfl);(focus rfl);(focus kernel_rfl);(focus (simp only [List.length_cons,List.length_nil,Nat.reduceAdd];rfl)))|((with_reducible apply Zae (id:=10) (Zau [(8,.agg [.v (.bool true),lim [1],lim [1]]),(9,.v (.bool true))]) [] []);(focus kernel_rfl);(focus rfl);(focus kernel_rfl);(focus (simp only [List.length_cons,List.length_nil,Nat.reduceAdd];rfl)))|((with_reducible first|apply Za1|apply Za3|apply Za2);all_goals (intro hc;(try simp only [bool_to_prop] at hc);try (exfalso;omega)))))
 all_goals exact gL
end Go.Proofs.YtjekhacnoopdpaaGreatDoor
