/- Contracts of the functions that the law reaches, and the rules by which they are walked. They say what a call hands back for every input within the bounds that each names; no other condition. -/
import Derived.Test.YtkefeinbjbeidaaGreatDoorBt11
set_option linter.unusedSimpArgs false
set_option linter.unusedVariables false
set_option maxRecDepth 20000
set_option maxHeartbeats 16000000
namespace Go.Proofs.YtkefeinbjbeidaaGreatDoor
open Go Go.RowKit Go.Pg Go.Pol Go.Proofs.Tryz
attribute [-bool_to_prop] Bool.and_eq_decide Bool.or_eq_decide Bool.decide_beq_decide decide_eq_decide
section
attribute [local go_sem] underlying3 underlying4 underlying161 underlying24 underlying26 underlying28 underlying91 underlying76 underlying78 underlying33 underlying34 sz3 by3 z3 szB zB Zas zRat Zaw zInt Zav zNat Zah Zaq Zai Bool.and_self Zal Zba zSlQ szQT byQT zQT Za9 zSlT szQP zQP underlying346 underlying47 szFr byFr zFr Zca Zcb zSQP underlying9 underlying22 underlying35 underlying81 underlying39 underlying42 underlying30 underlying40 Zbu zErr Za8 Zbx zStr szL byL zL Zbe Zbg Zce Zch zFig Zcg zSlI Zcf zSlS Zbs Zbt Zcy Zcz zSlF underlying353 underlying363 underlying350 underlying361 Zer Zey zCmb Zep zSch szFn zFn Zeq zPlc underlying5 underlying113 szU8 byU8 zU8 Zip Zna underlying65 underlying9 Za8 Zbx zStr Zh6 Zkq
end
attribute [local go_sem] Zas Zaw Zav Zah Zaq Zai Bool.and_self Zal Zba Za9 Zca Zcb Zbu Za8 Zbx Zbe Zbg Zce Zch Zcg Zcf Zbs Zbt Zcy Zcz Zer Zey Zep Zeq Zip Zna
section
variable {N n:Nat} {cs:List AV}
theorem shQFrac (h:Zcc prog N n 47 cs):∃l m:List RE,cs=[.sl 4 (l.map RE.av),.sl 4 (m.map RE.av)]∧(l.length≤N∧(∀t∈l,t.r.lm N)∧∀t∈l,t.q.length≤N)∧m.length≤N∧(∀t∈m,t.r.lm N)∧∀t∈m,t.q.length≤N:=by
 obtain⟨m,rfl,hs⟩:=Zb7 underlying47 zk h;obtain⟨x,y,rfl,h1,hs⟩:=hs.inv;obtain⟨x2,y,rfl,h2,hs⟩:=hs.inv;obtain rfl:=hs.inv0;obtain⟨l,rfl,hl⟩:=Zxq underlying34 h1;obtain⟨m,rfl,hm⟩:=Zxq underlying34 h2;exact⟨l,m,rfl,hl,hm⟩
end
def fineB (l1 l2:List RE):Bool:=decide (0 < l2.length) && (Zea 3 2 l1 && Zea 2 2 l2)
structure FineX (x:XX):Prop where
 x1:XB x.1 17 2
 x2:XB x.2 17 2
 l1:x.1.length≤3
 l2:x.2.length≤2
 ne:x.2≠[]
theorem fl_len {p:QTs} {L n:Nat} (hl:p.length≤L) (hq:∀t∈p,t.2.length≤n):(flQ p).length≤L*n:=by
 have key:∀p:QTs,(∀t∈p,t.2.length≤n)→(flQ p).length≤p.length*n:=by
  intro p
  induction p with
  | nil=>intro _;exact ZB5 _
  | cons t p ih =>
    intro h;have h1:=ih λu hu=>h u (.tail _ hu);have h2:=h t (.head _);show(t.2++flQ p).length≤(p.length+1)*n;rw [ZCr,ZCo];omega
 exact ZB1 (key p hq) (ZCf _ hl)
theorem FineX.fl {x:XX} (h:FineX x):(flQ x.1++flQ x.2).length≤10:=by
 have h1:=fl_len h.l1 h.x1.2.1;have h2:=fl_len h.l2 h.x2.2.1;rw [ZCr];omega
theorem FineX.ahead {x:XX} (h:FineX x) (i:Int):Ahead i (hvL i (flQ x.1++flQ x.2)) x:=by
 have hf:=h.fl;have a1:=h.l1;have a2:=h.l2;exact Ahead.beg h.x1 h.x2 zo zo h.x1.2.1 h.x2.2.1 zo zo
attribute [local go_sem] Zh6 Zkq Zo6 Zwt
theorem rnDig (n:Nat) (hn:n < 10):Pure prog 87 [iv (n:Int)] (.v (.string (decS n))):=by
 rcases (show n=0∨n=1∨n=2∨n=3∨n=4∨n=5∨n=6∨n=7∨n=8∨n=9 by omega) with rfl | rfl | rfl | rfl | rfl | rfl | rfl | rfl | rfl | rfl
 all_goals
  refine pI func87 rfl ntmps87 results87 call87 ?_;(focus (refine wkap w_t w_t (w_r 0) ?_;(repeat' first|exact w_t|apply w_l);all_goals intros));all_goals exact gL
theorem rnNames (ss:List RS) (gs:List RG) (hl:ss.length≤9) (hn:∀s∈ss,s.nm.size≤900):Pure prog 47 [figA ss gs] (.sl 1 ((nmK ss ss.length).map strA)):=by
 have hls:(ss.map RS.av).length=ss.length:=ZB2 ..;have hg:∀i (h:i < ss.length),(ss.map RS.av).getD i .u=.agg [iv ss[i].k,strA ss[i].nm,.sl 1 (ss[i].ar.map iv),.v (.bool ss[i].r.s),lim ss[i].r.l,lim ss[i].r.d]:=λi h=>Zam RS.av h;have hsz:∀i (h:i < ss.length),ss[i].nm.size≤900:=λi h=>hn _ (ZB7 h);have hst:∀i (h:i < ss.length),(nmK ss (i+1)).map strA=(nmK ss i).map strA++[strA (nmAt i ss[i])]:=λi h=>nmK_s h;have hnl:=Zr3 ss;show Pure _ _ [.agg [.sl 6 (ss.map RS.av),.sl 5 (gs.map RG.av)]] _;generalize ss.map RS.av=M at *;generalize gs.map RG.av=N at *;have h36:(⟨#[36]⟩:ByteArray).size=1:=rfl
 refine pI func47 rfl ntmps47 results47 call47 ?_;(focus (refine wkap (w_1 hls) w_t (w_r 0) ?_;(repeat' first|exact w_t|apply w_l);all_goals intros));refine Zfb (Frz.nilOwn (d:=3) 500 1 9 (gC)) ?_;refine Zad (ι:=Nat) (λi e m=>i≤ss.length∧(e 7=.sl 6 M∧e 8=iv ss.length∧e 9=iv i)∧∃sv,e 3=.own 500 sv∧m 500=some (.row sv 9 1 ((nmK ss i).map strA) 0)) (λi=>ss.length - i) 0 zr ?_ ?_
 ·rintro i e m ⟨hi,⟨e7,e8,e9⟩,sv,e3,m500⟩
  have hnli:=hnl i;by_cases hlt:i < ss.length
  ·have hgi:=hg i hlt;have hs:=Zeh ss[i].nm;have hsi:=hsz i hlt;have hnx:=hst i hlt;have ci:=rnDig i zo;have hd:=ZAy i zo;by_cases h0:ss[i].nm.size=0
   ·have ha:nmAt i ss[i]=⟨#[36]⟩++decS i:=ZBv h0;rw [ha] at hnx;rw [ZB4 h0] at hs;clear ha hst hg hsz hnl hn;generalize (nmK ss i).map strA=T at *;generalize ss[i]=s at *;generalize decS i=d at *;(focus (refine wkap (w_10 e7 e8 e9 e3 m500 hls hgi hs hnli h36) (w_1 ci) (w_r 0) ?_;(repeat' first|exact w_t|apply w_l);all_goals intros));exact⟨i+1,⟨zo,⟨gW e7,gW e8,gS⟩,_,gC,by rw [hnx];exact gC⟩,zo⟩
   ·have ha:nmAt i ss[i]=ss[i].nm:=ZBu h0;rw [ha] at hnx;rw [ZB3 h0] at hs;clear ha hst hg hsz hnl hn;generalize (nmK ss i).map strA=T at *;generalize ss[i]=s at *;(focus (refine wkap (w_9 e7 e8 e9 e3 m500 hls hgi hs hnli) w_t (w_r 0) ?_;(repeat' first|exact w_t|apply w_l);all_goals intros));exact⟨i+1,⟨zo,⟨gW e7,gW e8,gS⟩,_,gC,by rw [hnx];exact gC⟩,zo⟩
  ·have:i=ss.length:=zo;subst this;generalize (nmK ss ss.length).map strA=T at *;(focus (refine wkap (w_6 e7 e8 e9 e3 m500 hls) w_t (w_r 0) ?_;(repeat' first|exact w_t|apply w_l);all_goals intros));all_goals exact gM (w_1 m500)
 ·exact⟨ZB5 _,⟨gC,gC,gC⟩,_,gC,by(simp (disch:=omega) only [go_sem,nmK,List.range_zero,ZDv]<;>repeat' first|rfl|refine⟨?_,?_⟩)⟩
theorem raText (ss:List RS) (gs:List RG) (ns:List ByteArray) (l:List AS) (hns:ns.length=ss.length) (hl:l.length≤1000) (hs:∀s∈ns,s.size≤1000) (hn:ss.length≤1000) (cN:Pure prog 47 [figA ss gs] (.sl 1 (ns.map strA))) (ho:∀t∈l,AtOk ns (.sl 1 (ns.map strA)) 48 t) :
 Pure prog 14 [figA ss gs,.sl 3 (l.map AS.av)] (atR ns l):=by
 have hll:(l.map AS.av).length=l.length:=ZB2 ..;have hg:∀i (h:i < l.length),(l.map AS.av).getD i .u=.agg [iv l[i].1,qpA l[i].2.1,qpA l[i].2.2]:=λi h=>Zam AS.av h;have hoi:∀i (h:i < l.length),AtOk ns (.sl 1 (ns.map strA)) 48 l[i]:=λi h=>ho _ (ZB7 h);have hnm:∀p:Int,0≤p→p < ns.length→(ns.map strA).getD p.toNat .u=strA (atW ns p):=λp h1 h2=>by
  have h3:p.toNat < ns.length:=zo;rw [Zam strA h3];unfold atW;rw [ZBv h1,Zcj h3]
 have hnl:(ns.map strA).length=ns.length:=ZB2 ..;have cN:Pure prog 47 [.agg [.sl 6 (ss.map RS.av),.sl 5 (gs.map RG.av)]] (.sl 1 (ns.map strA)):=cN;show Pure _ _ [.agg [.sl 6 (ss.map RS.av),.sl 5 (gs.map RG.av)],_] _;generalize hR:atR ns l=R;unfold atR at hR;have hn:ns.length≤1000:=zo;have zW:=ZBb hs;have z1:wiB.size=8:=rfl;have z2:coB.size=2:=rfl;have z3':ovB.size=6:=rfl;have z4:nlB.size=1:=rfl;have eA:∀p:Int,¬0≤p→atW ns p=alB:=λp h=>ZBu h;have hTs:∀i (h:i < l.length),atC ns.length l[i]=0→(atT ns l[i]).size≤2000000002000:=λi h hc=>by
  unfold atC at hc;split at hc
  ·cases hc
  ·by_cases h1:chkE ns.length l[i].2.1=0
   ·rw [ZBv h1] at hc;exact atT_sz hs ((hoi i h).zn h1) ((hoi i h).zd hc)
   ·rw [ZBu h1] at hc;exact absurd hc h1
 clear ho hs hns;generalize ns.map strA=N at *;generalize ss.map RS.av=M at *;generalize gs.map RG.av=G at *;generalize l.map AS.av=L at *;refine pI func14 rfl ntmps14 results14 call14 ?_;(focus (refine wkap (w_1 hll) (w_1 cN) (w_r 0) ?_;(repeat' first|exact w_t|apply w_l);all_goals intros));refine Zad (ι:=Nat) (λi e m=>i≤l.length∧(∀j (h:j < l.length),j < i→atC ns.length l[j]=0)∧(e 1=.sl 3 L∧e 6=.sl 1 N∧e 8=iv i)∧e 7=strA (atS ns l i)) (λi=>l.length - i) 0 zr ?_ ?_
 ·rintro i e m ⟨hi,hc,⟨e1,e6,e8⟩,e7⟩
  have zS:=atS_sz (ns:=ns) hi λj h hj=>hTs j h (hc j h hj);by_cases hlt:i < l.length
  ·have hgi:=hg i hlt;obtain⟨cn,cd,zn,ud⟩:=hoi i hlt;have zS2:(atS ns l i).size≤2000000002000000:=ZB1 zS (ZB1 (ZCf 2000000002000 (by omega:i≤1000)) zd);have hat:=λh=>ZBd (n:=ns.length) hlt hc h;have hnx:atS ns l (i+1)=atS ns l i++atT ns l[i]:=by rw [←Zcj (d:=((0,[],[]):AS)) hlt];rfl
   have hc2:atC ns.length l[i]=0→∀j (h:j < l.length),j < i+1→atC ns.length l[j]=0:=λhch j h hj=>by
    rcases ZCg j i with h1 | h1
    ·exact hc j h h1
    ·have:j=i:=zo;subst this;exact hch
   have zWi:=zW l[i].1;have eAi:=eA l[i].1;have hnmi:=hnm l[i].1;have hC:atC ns.length l[i]=if l[i].1 < -1∨(ns.length:Int)≤l[i].1 then 2 else if chkE ns.length l[i].2.1=0 then chkE ns.length l[i].2.2 else chkE ns.length l[i].2.1:=rfl;have hT:atS ns l i++atT ns l[i]=(((((atS ns l i++(wiB++atW ns l[i].1))++coB)++eTxt ns l[i].2.1)++ovB)++eTxt ns l[i].2.2)++nlB:=by unfold atT;simp only [ByteArray.append_assoc]
   clear hg hoi hTs zW eA hnm hc zS;generalize l[i]=t at *;obtain⟨p,tn,td⟩:=t;simp only at cn cd zn ud hgi zWi eAi hnmi hC hT;generalize eTxt ns tn=X at *;generalize eTxt ns td=Y at *;generalize chkE ns.length tn=kn at *;generalize chkE ns.length td=kd at *;generalize tn.map qtA=An at *;generalize td.map qtA=Ad at *;by_cases hr:p < -1∨(ns.length:Int)≤p
   ·rw [ZBv hr] at hC;rw [hat (by rw [hC];decide),hC,ZBu zd] at hR;rw [←hR];by_cases hr1:p < -1
    ·(focus (refine wkap (w_8 e1 e6 e8 e7 hll hnl hgi hr1) w_t (w_r 0) ?_;(repeat' first|exact w_t|apply w_l);all_goals intros));all_goals exact gL
    ·have hr2:(ns.length:Int)≤p:=zo;(focus (refine wkap (w_9 e1 e6 e8 e7 hll hnl hgi hr1 hr2) w_t (w_r 0) ?_;(repeat' first|exact w_t|apply w_l);all_goals intros));all_goals exact gL
   ·rw [ZBu hr] at hC;have hr1:¬p < -1:=zo;have hr2:¬(ns.length:Int)≤p:=zo;by_cases hkn:kn=0
    ·rw [ZBv hkn] at hC cn;have zn:=zn hkn;by_cases hkd:kd=0
     ·rw [ZBv hkd] at cd;have ud:=ud hkd;have hc2:=hc2 (by rw [hC];exact hkd);clear hat;rw [hT] at hnx;by_cases hp:0≤p
      ·have hn1:=hnmi hp zo;generalize atW ns p=W at *;generalize atS ns l i=S at *;have y0:=ZCn (a:=wiB) (b:=W);have y1:=ZCn (a:=S) (b:=wiB++W);have y2:=ZCn (a:=S++(wiB++W)) (b:=coB);have y3:=ZCn (a:=S++(wiB++W)++coB) (b:=X);have y4:=ZCn (a:=S++(wiB++W)++coB++X) (b:=ovB);have y5:=ZCn (a:=S++(wiB++W)++coB++X++ovB) (b:=Y);have y6:=ZCn (a:=S++(wiB++W)++coB++X++ovB++Y) (b:=nlB);(focus (refine wkap (w_22 e1 e6 e8 e7 hll hgi hr1 hr2 hp hn1 hnl z1 z2 z3' z4 y0 y1 y2 y3 y4 y5 y6) (w_2 cn cd) (w_r 0) ?_;(repeat' first|exact w_t|apply w_l);all_goals intros))
       exact⟨i+1,⟨zo,hc2,⟨gW e1,gW e6,gS⟩,by rw [hnx];exact gC⟩,zo⟩
      ·have hp1:¬0≤p:=hp;rw [eAi hp] at hnx;generalize atS ns l i=S at *;have y0:(wiB++alB).size=11:=rfl;have y1:=ZCn (a:=S) (b:=wiB++alB);have y2:=ZCn (a:=S++(wiB++alB)) (b:=coB);have y3:=ZCn (a:=S++(wiB++alB)++coB) (b:=X);have y4:=ZCn (a:=S++(wiB++alB)++coB++X) (b:=ovB);have y5:=ZCn (a:=S++(wiB++alB)++coB++X++ovB) (b:=Y);have y6:=ZCn (a:=S++(wiB++alB)++coB++X++ovB++Y) (b:=nlB);rw [show wiB++alB=⟨#[119,105,116,104,111,117,116,32,97,108,108]⟩from by decide +kernel] at *;(focus (refine wkap (w_20 e1 e6 e8 e7 hll hgi hr1 hr2 hp1 hnl z2 z3' z4 y0 y1 y2 y3 y4 y5 y6) (w_2 cn cd) (w_r 0) ?_;(repeat' first|exact w_t|apply w_l);all_goals intros))
       exact⟨i+1,⟨zo,hc2,⟨gW e1,gW e6,gS⟩,by rw [hnx];exact gC⟩,zo⟩
     ·rw [ZBu hkd] at cd;rw [hat (by rw [hC];exact hkd),hC,ZBu hkd] at hR;rw [←hR];(focus (refine wkap (w_10 e1 e6 e8 e7 hll hgi hr1 hr2 hnl hkd) (w_2 cn cd) (w_r 0) ?_;(repeat' first|exact w_t|apply w_l);all_goals intros));all_goals exact gL
    ·rw [ZBu hkn] at hC cn;rw [hat (by rw [hC];exact hkn),hC,ZBu hkn] at hR;rw [←hR];(focus (refine wkap (w_10 e1 e6 e8 e7 hll hgi hr1 hr2 hnl hkn) (w_1 cn) (w_r 0) ?_;(repeat' first|exact w_t|apply w_l);all_goals intros));all_goals exact gL
  ·have:i=l.length:=zo;subst this;rw [ZBv (Zs2 λj h=>hc j h h)] at hR;rw [←hR];(focus (refine wkap (w_5 e1 e6 e8 e7 hll) w_t (w_r 0) ?_;(repeat' first|exact w_t|apply w_l);all_goals intros));all_goals exact gL
 ·exact⟨ZB5 _,λj h hj=>zo,⟨gC,gC,gC⟩,gC⟩
def eaK (k:Int):Nat:=if k=7∨k=8∨k=9∨k=10∨k=11 then 1 else 0
def eaN (ss:List RS):Nat→Nat
 | 0=>0
 | i+1=>eaN ss i+eaK (ss.getD i RS.zero).k
def eaC (ss:List RS):Nat→Nat
 | 0=>0
 | i+1=>eaC ss i+(if (ss.getD i RS.zero).k=11 then 1 else 0)
theorem ea_le (ss:List RS):∀i,eaN ss i≤i∧eaC ss i≤i
 | 0=>⟨ZBw _,ZBw _⟩
 | i+1=>by
   obtain⟨h1,h2⟩:=ea_le ss i;unfold eaN eaC eaK;constructor
   ·split<;>omega
   ·split<;>omega
def esB (ss:List RS) (gs:List RG):Bool:=decide (ss.length≤6) && (decide (gs.length≤3) && (fewB ss gs && (decide (eaN ss ss.length≤2) && decide (eaC ss ss.length≤1))))
theorem raEasy (ss:List RS) (gs:List RG) (hl:ss.length≤1000000000) (hk:gs.length≤1000000000) (cf:Pure prog 43 [.agg [.sl 6 (ss.map RS.av),.sl 5 (gs.map RG.av)]] (.v (.bool (fewB ss gs)))):Pure prog 11 [figA ss gs] (.v (.bool (esB ss gs))):=by
 have hls:(ss.map RS.av).length=ss.length:=ZB2 ..;have hlg:(gs.map RG.av).length=gs.length:=ZB2 ..;have hg:∀i (h:i < ss.length),(ss.map RS.av).getD i .u=.agg [iv ss[i].k,strA ss[i].nm,.sl 1 (ss[i].ar.map iv),.v (.bool ss[i].r.s),lim ss[i].r.l,lim ss[i].r.d]:=λi h=>Zam RS.av h;have hN:∀i (h:i < ss.length),eaN ss (i+1)=eaN ss i+eaK ss[i].k:=λi h=>by rw [←Zcj (d:=RS.zero) h];rfl
 have hC:∀i (h:i < ss.length),eaC ss (i+1)=eaC ss i+(if ss[i].k=11 then 1 else 0):=λi h=>by rw [←Zcj (d:=RS.zero) h];rfl
 have hle:=ea_le ss;show Pure _ _ [.agg [.sl 6 (ss.map RS.av),.sl 5 (gs.map RG.av)]] _;generalize hR:esB ss gs=R;unfold esB at hR;generalize fewB ss gs=b at *;generalize ss.map RS.av=M at *;generalize gs.map RG.av=G at *;by_cases h1:ss.length≤6
 ·have h1':¬(6:Int) < ss.length:=zo;rw [ZB4 h1,ZDn] at hR;by_cases h2:gs.length≤3
  ·have h2':¬(3:Int) < gs.length:=zo;rw [ZB4 h2,ZDn] at hR
   cases b with
   | false =>
     subst hR;refine pI func11 rfl ntmps11 results11 call11 ?_;(focus (refine wkap (w_4 hls hlg h1' h2') (w_1 cf) (w_r 0) ?_;(repeat' first|exact w_t|apply w_l);all_goals intros));all_goals exact gL
   | true =>
     rw [ZDn] at hR;refine pI func11 rfl ntmps11 results11 call11 ?_;(focus (refine wkap (w_4 hls hlg h1' h2') (w_1 cf) (w_r 0) ?_;(repeat' first|exact w_t|apply w_l);all_goals intros));rename_i g1;refine Zad (ι:=Nat) (λi e m=>i≤ss.length∧(e 1=.pbox 1 g1 0∧m 1=some (.box g1 42 [.sl 6 M,.sl 5 G] false))∧e 3=iv (eaN ss i)∧e 4=iv (eaC ss i)∧e 5=iv i) (λi=>ss.length - i) 0 zr ?_ ?_
     ·rintro i e m ⟨hi,⟨e1,m1⟩,e3,e4,e5⟩
      obtain⟨l1,l2⟩:=hle i;by_cases hlt:i < ss.length
      ·have hgi:=hg i hlt;have hNi:=hN i hlt;have hCi:=hC i hlt;clear hg hN hC hle;generalize ss[i]=s at *;generalize eaN ss i=N0 at *;generalize eaC ss i=C0 at *;unfold eaK at hNi;by_cases k7:s.k=7∨s.k=8∨s.k=9∨s.k=10
       ·rw [ZBv zo] at hNi;rw [ZBu zo] at hCi;rcases k7 with k7 | k7 | k7 | k7
        all_goals
         (focus (refine wkap (w_8 e1 m1 e3 e4 e5 hls hgi k7) w_t (w_r 0) ?_;(repeat' first|exact w_t|apply w_l);all_goals intros));exact⟨i+1,⟨zo,⟨gW e1,gW m1⟩,by rw [hNi];exact gS,by rw [hCi,ZDe];exact gW e4,gS⟩,zo⟩
       ·have k1:¬s.k=7:=zo;have k2:¬s.k=8:=zo;have k3:¬s.k=9:=zo;have k4:¬s.k=10:=zo;by_cases k5:s.k=11
        ·rw [ZBv zo] at hNi;rw [ZBv k5] at hCi;(focus (refine wkap (w_8 e1 m1 e3 e4 e5 hls hgi k5) w_t (w_r 0) ?_;(repeat' first|exact w_t|apply w_l);all_goals intros));exact⟨i+1,⟨zo,⟨gW e1,gW m1⟩,by rw [hNi];exact gS,by rw [hCi];exact gS,gS⟩,zo⟩
        ·rw [ZBu zo] at hNi;rw [ZBu k5] at hCi;(focus (refine wkap (w_12 e1 m1 e3 e4 e5 hls hgi k1 k2 k3 k4 k5) w_t (w_r 0) ?_;(repeat' first|exact w_t|apply w_l);all_goals intros));exact⟨i+1,⟨zo,⟨gW e1,gW m1⟩,by rw [hNi,ZDe];exact gW e3,by rw [hCi,ZDe];exact gW e4,gS⟩,zo⟩
      ·obtain rfl:i=ss.length:=zo;generalize eaN ss ss.length=N0 at *;generalize eaC ss ss.length=C0 at *;subst hR;by_cases a1:N0≤2
       ·have a1':(N0:Int)≤2:=zo;rw [ZB4 a1,ZDn];by_cases a2:C0≤1
        ·have a2':(C0:Int)≤1:=zo;rw [ZB4 a2];(focus (refine wkap (w_8 e1 m1 e3 e4 e5 hls a1' a2') w_t (w_r 0) ?_;(repeat' first|exact w_t|apply w_l);all_goals intros));all_goals exact gL
        ·have a2':¬(C0:Int)≤1:=zo;rw [ZB3 a2];(focus (refine wkap (w_8 e1 m1 e3 e4 e5 hls a1' a2') w_t (w_r 0) ?_;(repeat' first|exact w_t|apply w_l);all_goals intros));all_goals exact gL
       ·have a1':¬(N0:Int)≤2:=zo;rw [ZB3 a1,ZCz];(focus (refine wkap (w_7 e1 m1 e3 e4 e5 hls a1') w_t (w_r 0) ?_;(repeat' first|exact w_t|apply w_l);all_goals intros));all_goals exact gL
     ·exact⟨ZB5 _,⟨gC,gC⟩,by(simp (disch:=omega) only [go_sem,eaN]<;>repeat' first|rfl|refine⟨?_,?_⟩),by(simp (disch:=omega) only [go_sem,eaC]<;>repeat' first|rfl|refine⟨?_,?_⟩),gC⟩
  ·have h2':(3:Int) < gs.length:=zo;rw [ZB3 h2,ZCz] at hR;subst hR;refine pI func11 rfl ntmps11 results11 call11 ?_;(focus (refine wkap (w_4 hls hlg h1' h2') w_t (w_r 0) ?_;(repeat' first|exact w_t|apply w_l);all_goals intros));all_goals exact gL
 ·have h1':(6:Int) < ss.length:=zo;rw [ZB3 h1,ZCz] at hR;subst hR;refine pI func11 rfl ntmps11 results11 call11 ?_;(focus (refine wkap (w_2 hls h1') w_t (w_r 0) ?_;(repeat' first|exact w_t|apply w_l);all_goals intros));all_goals exact gL
theorem es_in {ss:List RS} {gs:List RG} (h:esB ss gs=true):ss.length≤6∧∀s∈ss,s.nm.size≤900:=by
 unfold esB at h;simp only [ZCm,ZCs] at h;obtain⟨h1,h2,h3,h4,h5⟩:=h;refine⟨h1,λs hs=>?_⟩;unfold fewB at h3;simp only [ZCm,ZCs] at h3;have he:=Zmy h3.2.2.1;obtain⟨j,hj,rfl⟩:=List.mem_iff_getElem.1 hs;have:=he j hj;unfold errS at this;rw [show ss.getD j RS.zero=ss[j] from Zcj hj] at this;generalize ss[j]=s at *;simp only at this
 repeat' split at this
 all_goals first|(exfalso;revert this;decide)|omega|skip
 all_goals
  rename_i hb _
  have hb:namB s.nm=true:=by
   cases hq:namB s.nm with
   | true=>rfl
   | false=>exact absurd hq (by assumption)
  unfold namB at hb;simp only [ZCm,ZCs] at hb;omega
abbrev RA:=Int × List RE × List RE
abbrev RA.av (t:RA):AV:=.agg [iv t.1,.sl 4 (t.2.1.map RE.av),.sl 4 (t.2.2.map RE.av)]
abbrev RA.rt (t:RA):AS:=(t.1,t.2.1.map RE.rt,t.2.2.map RE.rt)
def RA.ok (t:RA):Prop:=(t.2.1.length≤9223372036854775807∧(∀u∈t.2.1,u.r.lm 9223372036854775807)∧∀u∈t.2.1,u.q.length≤9223372036854775807)∧t.2.2.length≤9223372036854775807∧(∀u∈t.2.2,u.r.lm 9223372036854775807)∧∀u∈t.2.2,u.q.length≤9223372036854775807
def smA (t:RA):Bool:=Zea 8 3 t.2.1 && Zea 8 3 t.2.2
theorem Zkd {T Q:Nat} {l:List RE} {k:Nat} (hr:∀t∈l,t.r.lm k) (h:Zea T Q l=true):l.map RE.av=(l.map RE.rt).map qtA∧(l.map RE.rt).length≤T∧QK (l.map RE.rt) 2 Q:=by
 unfold Zea at h;simp only [ZCm,ZCs] at h;exact⟨rt_av hr h.2.1,by rw [ZB2];exact h.1,rt_qk hr h.2.1⟩
theorem smA_in {t:RA} (hk:t.ok) (h:smA t=true):t.av=AS.av t.rt:=by
 unfold smA at h;rw [ZCm] at h;obtain⟨a1,-,-⟩:=Zkd hk.1.2.1 h.1;obtain⟨b1,-,-⟩:=Zkd hk.2.2.1 h.2;show AV.agg [iv t.1,.sl 4 (t.2.1.map RE.av),.sl 4 (t.2.2.map RE.av)]=.agg [iv t.1,.sl 4 ((t.2.1.map RE.rt).map qtA),.sl 4 ((t.2.2.map RE.rt).map qtA)];rw [a1,b1]
theorem smA_ok {t:RA} (hk:t.ok) (h:smA t=true) {ns:List ByteArray} (hl:ns.length≤1000000000) (hs:∀s∈ns,s.size≤1000):AtOk ns (.sl 1 (ns.map strA)) 21 t.rt∧AtOk ns (.sl 1 (ns.map strA)) 48 t.rt:=by
 unfold smA at h;rw [ZCm] at h;obtain⟨-,a2,a3⟩:=Zkd hk.1.2.1 h.1;obtain⟨-,b2,b3⟩:=Zkd hk.2.2.1 h.2;have oa:OkT (t.2.1.map RE.rt) 2:=λu hu=>⟨by have:=(a3 u hu).2;omega,(a3 u hu).1⟩;have ob:OkT (t.2.2.map RE.rt) 2:=λu hu=>⟨by have:=(b3 u hu).2;omega,(b3 u hu).1⟩;have sa:=Zof (ss:=ns) hs zo (k:=2) zo oa;have sb:=Zof (ss:=ns) hs zo (k:=2) zo ob;have la:(t.2.1.map RE.rt).length≤100000:=zo;have lb:(t.2.2.map RE.rt).length≤100000:=zo;exact⟨⟨Zqi (t.2.1.map RE.rt) ns hl hs la (k:=2) zd oa,Zqi (t.2.2.map RE.rt) ns hl hs lb (k:=2) zd ob,sa,sb⟩,⟨rxText (t.2.1.map RE.rt) ns hl hs la (k:=2) zd oa,rxText (t.2.2.map RE.rt) ns hl hs lb (k:=2) zd ob,sa,sb⟩⟩
theorem Zzt (ss:List RS) (gs:List RG) (l:List RA) (h1:ss.length≤1000000000) (h2:gs.length≤1000000000) (hs:∀s∈ss,s.sm) (hg:∀g∈gs,g.sm) (hl:l.length≤9223372036854775807) (hk:∀t∈l,t.ok) :
 Pure prog 4 [figA ss gs,.sl 3 (l.map RA.av)] (.v (.bool true)):=by
 have cE:=raEasy ss gs h1 h2 (few25 ss gs _ (rlFew ss gs (rlRight ss gs h1 h2 hs hg)));have cA:=awake35;have hll:(l.map RA.av).length=l.length:=ZB2 ..;have hgl:∀i (h:i < l.length),(l.map RA.av).getD i .u=.agg [iv l[i].1,.sl 4 (l[i].2.1.map RE.av),.sl 4 (l[i].2.2.map RE.av)]:=λi h=>Zam RA.av h;have cS:∀i (h:i < l.length),Pure prog 12 [.sl 4 (l[i].2.1.map RE.av),iv 8,iv 3] (.v (.bool (Zea 8 3 l[i].2.1)))∧Pure prog 12 [.sl 4 (l[i].2.2.map RE.av),iv 8,iv 3] (.v (.bool (Zea 8 3 l[i].2.2))):=λi h=>by
  obtain⟨⟨a,b,c⟩,d,e,f⟩:=hk _ (ZB7 h);exact⟨Zxw _ 8 3 zo zo a b c,Zxw _ 8 3 zo zo d e f⟩
 have key:esB ss gs=true→(∀t∈l,smA t=true)→l.length≤4→∃s z,Pure prog 13 [figA ss gs,.sl 3 (l.map RA.av)] (.tup [strA s,iv z])∧Pure prog 14 [figA ss gs,.sl 3 (l.map RA.av)] (.tup [strA s,iv z]):=λhb ha h4=>by
  obtain⟨n6,nz⟩:=es_in hb;have zn:=nmK_sz (ss:=ss) zo nz;have hnl:(nmK ss ss.length).length=ss.length:=by have:=Zr3 ss ss.length;rwa [ZB2] at this
  have e:l.map RA.av=(l.map RA.rt).map AS.av:=by rw [List.map_map];exact ZEg λt ht=>smA_in (hk t ht) (ha t ht)
  have hlr:(l.map RA.rt).length≤1000:=by rw [ZB2];omega
  have c1:=arText ss gs _ (l.map RA.rt) hnl hlr zn zo (Zzh ss gs zo nz) λt ht=>by
   obtain⟨u,hu,rfl⟩:=List.mem_map.1 ht;exact(smA_ok (hk u hu) (ha u hu) zo zn).1
  have c2:=raText ss gs _ (l.map RA.rt) hnl hlr zn zo (rnNames ss gs zo nz) λt ht=>by
   obtain⟨u,hu,rfl⟩:=List.mem_map.1 ht;exact(smA_ok (hk u hu) (ha u hu) zo zn).2
  rw [←e] at c1 c2;unfold atR at c1 c2;by_cases hz:atE (nmK ss ss.length).length (l.map RA.rt)=0
  ·rw [ZBv hz] at c1 c2;exact⟨_,_,c1,c2⟩
  ·rw [ZBu hz] at c1 c2;exact⟨_,_,c1,c2⟩
 have hall:(∀j (h:j < l.length),j < l.length→smA l[j]=true)→∀t∈l,smA t=true:=λh t ht=>by
  obtain⟨j,hj,rfl⟩:=List.mem_iff_getElem.1 ht;exact h j hj hj
 have hS:∀s:ByteArray,(s.toList == s.toList)=true:=λs=>beq_self_eq_true _;have hsm:∀i (h:i < l.length),smA l[i]=(Zea 8 3 l[i].2.1 && Zea 8 3 l[i].2.2):=λi h=>rfl;clear hk hs hg;show Pure _ _ [.agg [.sl 6 (ss.map RS.av),.sl 5 (gs.map RG.av)],_] _;have cE:Pure prog 11 [.agg [.sl 6 (ss.map RS.av),.sl 5 (gs.map RG.av)]] (.v (.bool (esB ss gs))):=cE;have key:esB ss gs=true→(∀t∈l,smA t=true)→l.length≤4→∃s z,Pure prog 13 [.agg [.sl 6 (ss.map RS.av),.sl 5 (gs.map RG.av)],.sl 3 (l.map RA.av)] (.tup [strA s,iv z])∧Pure prog 14 [.agg [.sl 6 (ss.map RS.av),.sl 5 (gs.map RG.av)],.sl 3 (l.map RA.av)] (.tup [strA s,iv z]):=key
 generalize l.map RA.av=L at *;generalize ss.map RS.av=M at *;generalize gs.map RG.av=G at *;by_cases h4:l.length≤4
 ·have h4':¬(4:Int) < l.length:=zo
  cases hb:esB ss gs with
  | false =>
    rw [hb] at cE;clear key;refine pI func4 rfl ntmps4 results4 call4 ?_;(focus (refine wkap (w_2 hll h4') (w_2 cE cA) (w_r 0) ?_;(repeat' first|exact w_t|apply w_l);all_goals intros));all_goals exact gL
  | true =>
    rw [hb] at cE key;refine pI func4 rfl ntmps4 results4 call4 ?_;(focus (refine wkap (w_2 hll h4') (w_1 cE) (w_r 0) ?_;(repeat' first|exact w_t|apply w_l);all_goals intros));rename_i g2;refine Zad (ι:=Nat) (λi e m=>i≤l.length∧(∀j (h:j < l.length),j < i→smA l[j]=true)∧(e 2=.pbox 2 g2 0∧m 2=some (.box g2 42 [.sl 6 M,.sl 5 G] false))∧e 1=.sl 3 L∧e 5=iv i) (λi=>l.length - i) 0 zr ?_ ?_
    ·rintro i e m ⟨hi,hc,⟨e2,m2⟩,e1,e5⟩
     by_cases hlt:i < l.length
     ·have hgi:=hgl i hlt;obtain⟨s1,s2⟩:=cS i hlt;have hsi:=hsm i hlt;have hc2:smA l[i]=true→∀j (h:j < l.length),j < i+1→smA l[j]=true:=λhch j h hj=>by
       rcases ZCg j i with h1 | h1
       ·exact hc j h h1
       ·have:j=i:=zo;subst this;exact hch
      clear hgl cS hsm key hall hc;generalize Zea 8 3 l[i].2.1=b1 at *;generalize Zea 8 3 l[i].2.2=b2 at *;generalize l[i].2.1.map RE.av=A1 at *;generalize l[i].2.2.map RE.av=A2 at *;generalize l[i].1=p at *
      cases b1 with
      | false =>
        (focus (refine wkap (w_6 e2 m2 e1 e5 hll hgi) (w_2 s1 cA) (w_r 0) ?_;(repeat' first|exact w_t|apply w_l);all_goals intros));all_goals exact gL
      | true =>
        cases b2 with
        | false =>
          (focus (refine wkap (w_6 e2 m2 e1 e5 hll hgi) (w_3 s1 s2 cA) (w_r 0) ?_;(repeat' first|exact w_t|apply w_l);all_goals intros));all_goals exact gL
        | true =>
          have hc2:=hc2 hsi;(focus (refine wkap (w_6 e2 m2 e1 e5 hll hgi) (w_2 s1 s2) (w_r 0) ?_;(repeat' first|exact w_t|apply w_l);all_goals intros));exact⟨i+1,⟨zo,hc2,⟨gW e2,gW m2⟩,gW e1,gS⟩,zo⟩
     ·obtain rfl:i=l.length:=zo;obtain⟨s,z,c1,c2⟩:=key rfl (hall hc) h4;(focus (refine wkap (w_6 e2 m2 e1 e5 hll hS) (w_3 c1 c2 cA) (w_r 0) ?_;(repeat' first|exact w_t|apply w_l);all_goals intros));all_goals exact gL
    ·exact⟨ZB5 _,λj h hj=>zo,⟨gC,gC⟩,gC,gC⟩
 ·have h4':(4:Int) < l.length:=zo;clear key;refine pI func4 rfl ntmps4 results4 call4 ?_;(focus (refine wkap (w_2 hll h4') (w_1 cA) (w_r 0) ?_;(repeat' first|exact w_t|apply w_l);all_goals intros));all_goals exact gL
section
variable {N n:Nat} {cs:List AV}
theorem shAS (h:Zcc prog N n 49 cs):∃t:RA,cs=[iv t.1,.sl 4 (t.2.1.map RE.av),.sl 4 (t.2.2.map RE.av)]∧(t.2.1.length≤N∧(∀u∈t.2.1,u.r.lm N)∧∀u∈t.2.1,u.q.length≤N)∧t.2.2.length≤N∧(∀u∈t.2.2,u.r.lm N)∧∀u∈t.2.2,u.q.length≤N:=by
 obtain⟨m,rfl,hs⟩:=Zb7 underlying49 zk h;obtain⟨x,y,rfl,h1,hs⟩:=hs.inv;obtain⟨x2,y,rfl,h2,hs⟩:=hs.inv;obtain rfl:=hs.inv0;obtain⟨p,rfl,_⟩:=Zdm underlying3 h1;obtain⟨a,b,rfl,ha,hb⟩:=shQFrac h2;exact⟨(p,a,b),rfl,ha,hb⟩
theorem shASs (h:Zcc prog N n 43 cs):∃l:List RA,cs=[.sl 3 (l.map RA.av)]∧l.length≤N∧∀t∈l,(t.2.1.length≤N∧(∀u∈t.2.1,u.r.lm N)∧∀u∈t.2.1,u.q.length≤N)∧t.2.2.length≤N∧(∀u∈t.2.2,u.r.lm N)∧∀u∈t.2.2,u.q.length≤N:=by
 obtain⟨bs,rfl,hl,hq⟩:=Zcl (g:=λt:RA=>[iv t.1,.sl 4 (t.2.1.map RE.av),.sl 4 (t.2.2.map RE.av)]) (Q:=λt=>(t.2.1.length≤N∧(∀u∈t.2.1,u.r.lm N)∧∀u∈t.2.1,u.q.length≤N)∧t.2.2.length≤N∧(∀u∈t.2.2,u.r.lm N)∧∀u∈t.2.2,u.q.length≤N) underlying43 h λm x hx=>by
  obtain⟨t,h1,h2⟩:=shAS hx;exact⟨t,h1,h2⟩
 refine⟨bs,?_,hl,hq⟩;rw [show prog.cellsOf 49=3 from by kernel_rfl];have:(bs.map λt:RA=>Zc4 prog 49 [iv t.1,.sl 4 (t.2.1.map RE.av),.sl 4 (t.2.2.map RE.av)])=bs.map RA.av:=ZEg λb _=>Zfv underlying49 _;rw [this]
end
theorem saidATexts (xs:List AV) (h:ShapeL prog 1048576 9 [42,43] xs):Pure prog 4 xs (.v (.bool true)):=by
 obtain⟨x,bs,rfl,h1,h⟩:=h.inv;obtain⟨y,bs,rfl,h2,h⟩:=h.inv;obtain rfl:=h.inv0;obtain⟨ss,gs,e,hl,kl,hq,kq⟩:=shFigure h1;obtain⟨l,rfl,hll,hk⟩:=shASs h2;rw [e,Zku zk];refine Zzt ss gs l zo zo (λs hs=>⟨Zlo (hq s hs).1 zd,ZB1 (hq s hs).2.1 zd,ZB1 (hq s hs).2.2 zd⟩) (λg hg=>⟨Zlo (kq g hg).1 zd,ZB1 (kq g hg).2 zd⟩) zo λt ht=>?_;obtain⟨⟨a,b,c⟩,d,e,f⟩:=hk t ht;exact⟨⟨zo,λu hu=>Zlo (b u hu) zd,λu hu=>ZB1 (c u hu) zd⟩,zo,λu hu=>Zlo (e u hu) zd,λu hu=>ZB1 (f u hu) zd⟩
end Go.Proofs.YtkefeinbjbeidaaGreatDoor
