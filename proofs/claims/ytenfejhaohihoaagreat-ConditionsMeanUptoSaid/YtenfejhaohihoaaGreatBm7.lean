/- Contracts of the functions that the law reaches, and the rules by which they are walked. They say what a call hands back for every input within the bounds that each names; no other condition. -/
import Derived.Test.YtenfejhaohihoaaGreatBm6
set_option linter.unusedSimpArgs false
set_option linter.unusedVariables false
set_option maxRecDepth 20000
set_option maxHeartbeats 16000000
namespace Go.Proofs.YtenfejhaohihoaaGreat
open Go Go.RowKit Go.Pg Go.Pol Go.Proofs.Tryz
attribute [-bool_to_prop] Bool.and_eq_decide Bool.or_eq_decide Bool.decide_beq_decide decide_eq_decide
attribute [local go_sem] Zba Zbc Zbb Zbl Zfq Zcn Ze6 Zpg Zs0 Zbf Zbi Zck
def SumOk (l:List Po) (K e:Nat):Prop:=∀a b,PK (sumH ltM ((l.drop a).take b)) K e∧(sumH ltM ((l.drop a).take b)).length≤1000000
theorem SumOk.take {l:List Po} {K e:Nat} (h:SumOk l K e) (k:Nat):SumOk (l.take k) K e:=λa b=>by
 rw [List.drop_take,List.take_take];exact h a _
theorem SumOk.drop {l:List Po} {K e:Nat} (h:SumOk l K e) (k:Nat):SumOk (l.drop k) K e:=λa b=>by
 rw [ZBc];exact h _ b
theorem SumOk.all {l:List Po} {K e:Nat} (h:SumOk l K e):PK (sumH ltM l) K e∧(sumH ltM l).length≤1000000:=by
 have:=h 0 l.length
 rwa [Zz6,Zy7] at this
theorem poSumN:∀(n:Nat) (l:List Po) {K e:Nat},l.length=n→(∀p∈l,SrtM p)→SumOk l K e→l.length≤1000000→K≤1000000→e≤16777216→Pure prog 182 [.sl 1 (l.map poA)] (poA (sumH ltM l)):=by
 intro n
 induction n using Nat.strongRecOn with
 | _ n ih =>
   intro l K e hn hs ho hl hK he
   match l,hn,hs,ho,hl with
   | [],hn,hs,ho,hl =>
     rw [show sumH ltM []=[] from by simp [sumH]];refine Zdm (r:=.v (.slice none 0 0)) ?_ (.nil 4);refine pI func182 rfl ntmps182 results182 call182 ?_;(focus (refine wkld w_t w_t w_t w_t ?_;(repeat' first|exact w_t|apply w_l);all_goals intros))
   | [p],hn,hs,ho,hl =>
     rw [show sumH ltM [p]=p from by simp [sumH]];refine pI func182 rfl ntmps182 results182 call182 ?_;(focus (refine wkld w_t w_t w_t w_t ?_;(repeat' first|exact w_t|apply w_l);all_goals intros))
   | p :: q :: r,hn,hs,ho,hl =>
     obtain⟨L,hL⟩:∃L,L=p :: q :: r:=⟨_,rfl⟩;have h2:2≤L.length:=by rw [hL];simp
     have e1:sumH ltM (p :: q :: r)=addM (sumH ltM (L.take (L.length/2))) (sumH ltM (L.drop (L.length/2))):=by rw [sumH,←hL]
     rw [e1];rw [←hL] at hn hs ho hl ⊢;clear e1 hL;have s1:∀u∈L.take (L.length/2),SrtM u:=λu hu=>hs u (Zzh hu);have s2:∀u∈L.drop (L.length/2),SrtM u:=λu hu=>hs u (Zz8 hu);have o1:=(ho.take (L.length/2)).all;have o2:=(ho.drop (L.length/2)).all;have c1:=ih (L.take (L.length/2)).length (by rw [Zyp];omega) (L.take (L.length/2)) rfl s1 (ho.take _) (by rw [Zyp];omega) hK he;have c2:=ih (L.drop (L.length/2)).length (by rw [Zzx];omega) (L.drop (L.length/2)) rfl s2 (ho.drop _) (by rw [Zzx];omega) hK he;have c3:=Zkg (sumH ltM (L.take (L.length/2))) (sumH ltM (L.drop (L.length/2))) o1.1 o2.1 (Zib ordM _ s1) (Zib ordM _ s2) o1.2 o2.2 hK hK he
     clear ih s1 s2 o1 o2 ho hs;have hd:(L.length:Int).tdiv 2=((L.length/2:Nat):Int):=Zdh _ 2;have hh:L.length/2≤L.length:=zo;rw [List.map_take] at c1;rw [List.map_drop] at c2;have hlm:(L.map poA).length=L.length:=Zx9 ..;have htk:(L.map poA).take L.length=L.map poA:=by rw [←hlm,Zy7]
     generalize sumH ltM (L.take (L.length/2))=x at *;generalize sumH ltM (L.drop (L.length/2))=y at *;generalize addM x y=z at *;generalize L.length/2=h at *;generalize L.map poA=M at *;generalize L.length=len at *;refine pI func182 rfl ntmps182 results182 call182 ?_;(focus (refine wkld (w_4 hlm hd htk @Zf9) (w_3 c1 c2 c3) w_t (w_1 (w_d 7 [(3,poA x),(7,poA y),(8,poA z)] [] [])) ?_;(repeat' first|exact w_t|apply w_l);all_goals intros))
theorem poSum (l:List Po) {K e:Nat} (hs:∀p∈l,SrtM p) (ho:SumOk l K e) (hl:l.length≤1000000) (hK:K≤1000000) (he:e≤16777216):Pure prog 182 [.sl 1 (l.map poA)] (poA (sumH ltM l)):=poSumN _ l rfl hs ho hl hK he
theorem poMul0 (p q:Po) (a b:Po) (hab:(q.length < p.length∧a=q∧b=p)∨(¬q.length < p.length∧a=p∧b=q)) {j k e f K E:Nat} (hp:PK a j e) (hq:PK b k f) (sp:SrtM a) (sq:SrtM b) (lp:a.length≤1000000) (lq:b.length≤1000000) (hj:j≤1000000) (hk:k≤1000000) (he:e≤16777216) (hf:f≤16777216)
 (ho:SumOk (a.map λt=>Zai mulM b t) K E) (hK:K≤1000000) (hE:E≤16777216) :
 Pure prog 120 [poA p,poA q] (poA (mlM b a)):=by
 have hs:∀u∈a.map (λt=>Zai mulM b t),SrtM u:=λu hu=>by
  obtain⟨t,ht,rfl⟩:=List.mem_map.1 hu;exact Ze5 mulK sq (sp.1 t ht).1 (sp.1 t ht).2
 have cs:=poSum _ hs ho (by rw [Zx9];exact lp) hK hE;rw [show sumH ltM (a.map λt=>Zai mulM b t)=mlM b a from mulH_eq ordM mulK sp sq] at cs;clear ho hs;have loop:∀(e1:Nat→AV) (m1:Mem) (Q:AE→St→Prop),True→True:=λ_ _ _ _=>trivial;rcases hab with⟨hlt,rfl,rfl⟩ | ⟨hlt,rfl,rfl⟩
 all_goals
  refine pI func120 rfl ntmps120 results120 call120 ?_;(focus (refine wkap (w_1 @Zbv) w_t (w_r 0) ?_;(repeat' first|exact w_t|apply w_l);all_goals intros));rename_i sv0;refine Zad (ι:=Nat) (λi e' m=>i≤a.length∧e' 1=poA b∧e' 18=poA a∧e' 19=iv a.length∧e' 20=iv i∧∃sv,e' 5=.own 17 sv∧m 17=some (.row sv 53 1 (((a.take i).map λt=>Zai mulM b t).map poA) 0)) (λi=>a.length - i) 0 zr ?_ ?_
  ·rintro i e' m ⟨hi,e1,e18,e19,e20,sv,e5,m17⟩
   by_cases hlt:i < a.length
   ·have hg:=Zaj tmA hlt;have ht:PK [a[i]] j e:=λu hu=>by rw [Zzs] at hu;subst hu;exact hp _ (Zyl hlt)
    have c1:=poTimes b a[i] hq ht sq (sp.1 _ (Zyl hlt)).1 (sp.1 _ (Zyl hlt)).2 lq hk hj hf he
    have hsn:((a.take (i+1)).map λt=>Zai mulM b t).map poA=((a.take i).map λt=>Zai mulM b t).map poA++[poA (Zai mulM b a[i])]:=by
     rw [ZAy hlt,Zys,Zys];rfl
    have hl:(((a.take i).map λt=>Zai mulM b t).map poA).length=i:=by rw [Zx9,Zx9,Zyp];omega
    generalize a[i]=t at *;generalize ((a.take i).map λt=>Zai mulM b t).map poA=out at *;generalize Zai mulM b t=tm at *;(focus (refine wkap (w_9 e1 e18 e19 e20 e5 m17 hg hl @Zbv) (w_1 c1) (w_r 0) ?_;(repeat' first|exact w_t|apply w_l);all_goals intros));exact⟨i+1,⟨zo,gW e1,gW e18,gW e19,gS,_,gC,by rw [hsn];exact gC⟩,zo⟩
   ·have hi2:i=a.length:=zo;subst hi2;rw [Zy7] at m17;generalize (a.map λt=>Zai mulM b t).map poA=out at *;(focus (refine wkax (w_7 e1 e18 e19 e20 e5 m17 @Zbv) w_t w_t (w_1 cs) w_t w_t w_y (w_r 0) ?_;(repeat' first|exact w_t|apply w_l);all_goals intros))
    (all_goals (try simp (disch:=omega) only [go_sem,Zx8,Zx6,Zx5,Zx4,Int.reduceAdd,Int.reduceSub,Int.reduceToNat,Zyh]));(all_goals first|done|rfl|(congr 2;first|done|omega|(rw [Zyn];simp only [bool_to_prop,Zyj,Zyw,Zyx,Zyy,Zyz];omega))|skip)
  ·exact⟨Zyi _,gC,gC,by(simp (disch:=omega) only [go_sem,Zx9]<;>repeat' first|rfl|refine⟨?_,?_⟩),gC,_,gC,by(simp (disch:=omega) only [go_sem,ZA0,Zy6,List.replicate_zero]<;>repeat' first|rfl|refine⟨?_,?_⟩)⟩
def Zn9 (p q:Po):List Po:=if q.length < p.length then q.map λt=>Zai mulM p t else p.map λt=>Zai mulM q t
theorem poMul (p q:Po) {j k e f K E:Nat} (hp:PK p j e) (hq:PK q k f) (sp:SrtM p) (sq:SrtM q) (lp:p.length≤1000000) (lq:q.length≤1000000) (hj:j≤1000000) (hk:k≤1000000) (he:e≤16777216) (hf:f≤16777216)
 (ho:SumOk (Zn9 p q) K E) (hK:K≤1000000) (hE:E≤16777216) :
 Pure prog 120 [poA p,poA q] (poA (mlM p q)):=by
 unfold Zn9 at ho;by_cases h:q.length < p.length
 ·rw [Zx5 h] at ho;exact poMul0 p q q p (.inl ⟨h,rfl,rfl⟩) hq hp sq sp lq lp hk hj hf he ho hK hE
 ·rw [Zx4 h] at ho;have:=poMul0 p q p q (.inr ⟨h,rfl,rfl⟩) hp hq sp sq lp lq hj hk he hf ho hK hE
  rwa [show mlM q p=mlM p q from Zop ordM mulK sq sp] at this
theorem SumOk.one {l:List Po} {K e:Nat} (hl:l.length≤1) (h:∀p∈l,PK p K e∧p.length≤1000000):SumOk l K e:=λa b=>by
 have h0:PK (sumH ltM []) K e∧(sumH ltM []).length≤1000000:=by rw [show sumH ltM []=[] from by simp [sumH]];exact⟨.nil,by simp⟩
 match l,hl,h with
 | [],_,_=>simpa using h0
 | [p],_,h =>
   match a,b with
   | 0,0=>simpa using h0
   | 0,b+1=>simp only [Zz6,List.take_succ_cons,List.take_nil];rw [show sumH ltM [p]=p from by simp [sumH]];exact h p (.head _)
   | a+1,b=>simpa using h0
theorem Zr1 (p:Po) (v:Nat) {j e:Nat} (hp:PK p j e) (sp:SrtM p) (lp:p.length≤1000000) (hj:j≤999999) (he:e≤16777215):Pure prog 120 [poA p,poA (varM v)] (poA (mlM p (varM v))):=by
 have hv:(varM v).length≤1:=by unfold varM;split<;>simp
 refine poMul p (varM v) hp (Ziu v) sp (Zce v) lp zo zo zo zo zo (K:=j+1) (E:=e+1) ?_ zo zo;unfold Zn9;split
 ·refine SumOk.one (by rw [Zx9];exact hv) λu hu=>?_;obtain⟨t,ht,rfl⟩:=List.mem_map.1 hu;exact⟨hp.times (λw hw=>by rw [Zzs] at hw;subst hw;exact Ziu v _ ht),by rw [Zdt];exact lp⟩
 ·rename_i h;refine SumOk.one (by rw [Zx9];omega) λu hu=>?_;obtain⟨t,ht,rfl⟩:=List.mem_map.1 hu;refine⟨((Ziu v).times (λw hw=>by rw [Zzs] at hw;subst hw;exact hp _ ht)).mono zo zo,by rw [Zdt];omega⟩
theorem Zqg (p:Po) (a:Rat) {j k e:Nat} (hp:PK p j e) (ha:Sz a k) (sp:SrtM p) (lp:p.length≤1000000) (hj:j≤1000000) (hk:k≤1000000) (he:e≤16777216):Pure prog 167 [poA p,ratQ a] (poA (sclM a p)):=by
 have cs:=Zf4 a ha zo;unfold sclM;by_cases h:a=0
 ·rw [Zx5 h];have hz:a.num.sign=0:=by rw [Zgf];exact h
  refine Zdm (r:=.v (.slice none 0 0)) ?_ (.nil 4);refine pI func167 rfl ntmps167 results167 call167 ?_;(focus (refine wklp (w_1 hz) (w_1 cs) w_t (w_r 0) ?_;(repeat' first|exact w_t|apply w_l);all_goals intros))
 ·rw [Zx4 h];have hz:¬a.num.sign=0:=by rw [Zgf];exact h
  have ct:=poTimesN p (a,[]) rfl (j:=j) (k:=k) (e:=e) (f:=0) hp (λu hu=>by rw [Zzs] at hu;subst hu;exact⟨ha,by simp,λi=>by show 0≤gI [] i∧gI [] i≤_;rw [Zb3 (Zyi _)];omega⟩) sp h Znb lp hj hk he zo;rw [Zs5] at ct;simp only at ct;generalize Zaw a p=r at *;generalize a.num.sign=z at *;refine pI func167 rfl ntmps167 results167 call167 ?_;(focus (refine wklp w_t (w_2 cs ct) w_t (w_r 0) ?_;(repeat' first|exact w_t|apply w_l);all_goals intros))
theorem poNeg (p:Po) {j e:Nat} (hp:PK p j e) (sp:SrtM p) (lp:p.length≤1000000) (hj:j≤1000000) (he:e≤16777216):Pure prog 168 [poA p] (poA (Zaw (-1) p)):=by
 have c:=Zqg p (-1) hp ((Zci 1 zo).neg) sp lp hj zo he;have co:=ratOfM;rw [show sclM (-1) p=Zaw (-1) p from Zx4 neg1] at c;generalize Zaw (-1) p=r at *;generalize (-1:Rat)=q at *;refine pI func168 rfl ntmps168 results168 call168 ?_;(focus (refine wklp w_t (w_2 co c) w_t (w_r 0) ?_;(repeat' first|exact w_t|apply w_l);all_goals intros))
theorem PK.neg {q:Po} {k e:Nat} (hq:PK q k e):PK (Zaw (-1) q) k e:=λt ht=>by
 obtain⟨s,hs,rfl⟩:=List.mem_map.1 ht;refine⟨?_,(hq s hs).2⟩;show Sz (s.1*-1) k;rw [show s.1*-1=-s.1 by grind];exact(hq s hs).1.neg
theorem Zfw (a:Rat) (p:Po):(Zaw a p).length=p.length:=by unfold Zaw;simp
theorem Zmk (p q:Po) {j k e:Nat} (hp:PK p j e) (hq:PK q k e) (sp:SrtM p) (sq:SrtM q) (lp:p.length≤1000000) (lq:q.length≤1000000) (hj:j≤1000000) (hk:k≤1000000) (he:e≤16777216) :
 Pure prog 119 [poA p,poA q] (poA (subM p q)):=by
 have c1:=poNeg q hq sq lq hk he;have c2:=Zkg p (Zaw (-1) q) hp hq.neg sp (Zca sq neg1) lp (by rw [Zfw];exact lq) hj hk he;show Pure _ _ _ (poA (addM p (Zaw (-1) q)));generalize Zaw (-1) q=n at *;generalize addM p n=r at *;refine pI func119 rfl ntmps119 results119 call119 ?_;(focus (refine wklp w_t (w_2 c1 c2) w_t (w_r 0) ?_;(repeat' first|exact w_t|apply w_l);all_goals intros))
theorem Zre (v:Nat):((List.replicate (v+1) (iv 0)).set v (iv 1))=(Zdf v).map iv:=by
 unfold Zdf;rw [Zys,List.map_replicate,List.replicate_succ',List.set_append_right _ _ zs];simp
theorem Zr0 (c:Rat) (m:List Int) (h:c≠0) {k:Nat} (hc:Sz c k) (hk:k≤1000000):Pure prog 183 [ratQ c,ivs m] (poA [(c,m)]):=by
 have cs:=Zf4 c hc zo;have hz:¬c.num.sign=0:=by rw [Zgf];exact h
 generalize c.num.sign=z at *;refine pI func183 rfl ntmps183 results183 call183 ?_;(focus (refine wklp w_t (w_1 cs) w_t (w_r 0) ?_;(repeat' first|exact w_t|apply w_l);all_goals intros))
theorem poVar (v:Nat) (hv:v < 1000):Pure prog 123 [iv v] (poA (varM v)):=by
 unfold varM;by_cases h:v < 64
 ·rw [Zx5 h];have c1:=ratOf 1 zo;rw [show((1:Nat):Rat)=1 from rfl] at c1;have c2:=Zr0 1 (Zdf v) zd (Zci 1 zo) zo;have hu:(iv 0 :: List.replicate v (iv 0)).set v (iv 1)=(Zdf v).map iv:=by rw [←List.replicate_succ];exact Zre v
  generalize (1:Rat)=q at *;have hl:(List.replicate (v+1) (iv 0)).length=v+1:=by simp
  refine pI func123 rfl ntmps123 results123 call123 ?_;(focus (refine wkax (w_2 hl hu) (w_1 c1) w_t (w_1 c2) w_t w_t w_y (w_r 0) ?_;(repeat' first|exact w_t|apply w_l);all_goals intros))
  (all_goals (try simp (disch:=omega) only [go_sem,Zx8,Zx6,Zx5,Zx4,Int.reduceAdd,Int.reduceSub,Int.reduceToNat,Zyh]));(all_goals first|done|rfl|(congr 2;first|done|omega|(rw [Zyn];simp only [bool_to_prop,Zyj,Zyw,Zyx,Zyy,Zyz];omega))|skip)
 ·rw [Zx4 h];refine Zdm (r:=.v (.slice none 0 0)) ?_ (.nil 4);refine pI func123 rfl ntmps123 results123 call123 ?_;(focus (refine wklp w_t w_t w_t (w_r 0) ?_;(repeat' first|exact w_t|apply w_l);all_goals intros))
theorem Zqc (q:Rat) {k:Nat} (h:Sz q k) (hk:k≤100000000000):Pure prog 14 [ratQ q] (.v (.int .i64 q.num.sign)):=by
 have c:=zSign q.num (by have:=h.1;omega);have cn:=Zmg q h hk;generalize q.num.sign=z at *;refine pI func14 rfl ntmps14 results14 call14 ?_;exact wklp w_t (w_2 cn c) w_t (w_r 0) w_z
theorem rpLex (a b:List Int) (hs:Sm a) (ht:Sm b):Pure prog 135 [ivs a,ivs b,iv 0] (iv (lexC a b (max a.length b.length))):=by
 have c:Pure prog 135 [ivs a,ivs b,iv 0] (iv (cmpI a b 0)):=mrCmp a b 0 hs ht;have e:cmpI a b 0=lexC a b (max a.length b.length):=by unfold cmpI;rw [Zx4 zo]
 rwa [e] at c
theorem Znv (p q:Po) {j k e:Nat} (hp:PK p j e) (hq:PK q k e) (sp:SrtM p) (sq:SrtM q) (lp:p.length≤1000000) (lq:q.length≤1000000) (hj:j≤1000000) (hk:k≤1000000) (he:e≤16777216) :
 Pure prog 67 [poA p,poA q] (poA (addM p q)):=by
 refine pI func67 rfl ntmps67 results67 call67 ?_;(focus (refine wkad (w_1 @Zbv) w_t w_t ?_;(repeat' first|exact w_t|apply w_l);all_goals intros));refine Zf5 (Frz.nilOwn (d:=5) 100 4 111 (gC)) ?_;refine Zad (ι:=Nat × Nat) (λx e m=>x.1≤p.length∧x.2≤q.length∧e 0=poA p∧e 1=poA q∧e 6=iv x.1∧e 7=iv x.2∧∃sv out,e 5=.own 100 sv∧m 100=some (.row sv 111 4 (out.map tmA) 0)∧out.length≤x.1+x.2∧addM p q=out++addM (p.drop x.1) (q.drop x.2)) (λx=>p.length+q.length - (x.1+x.2)) (0,0) zr ?_ ?_
 ·rintro ⟨i,l⟩ e m ⟨hi,hl,e0,e1,e6,e7,sv,out,e5,em,ho,hs⟩
  simp only at hi hl e6 e7 ho hs;by_cases hil:i < p.length∧l < q.length
  ·obtain⟨hi2,hl2⟩:=hil;have hg:=Zaj tmA hi2;have hh:=Zaj tmA hl2;have st:=Zpl hi2 hl2;have ms:=hp _ (Zyl hi2);have mt:=hq _ (Zyl hl2);have m1:=hp.sm he (Zyl hi2);have m2:=hq.sm he (Zyl hl2);have d1:=sp.dom _ (Zyl hi2);have d2:=sq.dom _ (Zyl hl2);generalize p[i]=s at *;generalize q[l]=t at *;have cl:=rpLex s.2 t.2 m1 m2;have ca:=qAdd s.1 t.1 ms.1 mt.1 zo zo;have cz:=Zqc (s.1+t.1) (ms.1.add mt.1) zo;have hlen:(out.map tmA).length=out.length:=Zx9 ..;rw [st] at hs;obtain⟨s1,s2⟩:=s;obtain⟨t1,t2⟩:=t
   simp only at *;rcases Zlr d1 d2 with⟨h1,h2⟩ | ⟨h1,h1',h2,h3⟩ | ⟨h1,h1',h2⟩
   ·have h3:¬ltM t2 s2:=λh=>ordM.irr _ (ordM.tr _ _ _ h h1);rw [Zx4 h3,Zx5 h1] at hs;rw [h2] at cl;clear st ms mt m1 m2 d1 d2 ca cz;(focus (refine wkad (w_9 e0 e1 e6 e7 e5 em hg hh @Zbv) (w_1 cl) (w_1 (w_d 8 [(10,iv (-1))] [] [])) ?_;(repeat' first|exact w_t|apply w_l);all_goals intros));refine⟨(i,l+1),⟨by simp only;omega,by simp only;omega,gW e0,gW e1,gW e6,gS,_,out++[(t1,t2)],gC,by(simp (disch:=omega) only [go_sem,Zys]<;>repeat' first|rfl|refine⟨?_,?_⟩),by simp only [Zy0,Zyk,Zym];omega,by rw [hs,Zzd];rfl⟩,by simp only;omega⟩
   ·rw [Zx4 h1',Zx4 h1] at hs;rw [h3] at cl;by_cases hz:s1+t1=0
    ·rw [Zx5 hz] at hs;have hz2:(s1+t1).num.sign=0:=by rw [Zgf];exact hz
     clear st ms mt m1 m2 d1 d2;generalize (s1+t1)=z at *;(focus (refine wkad (w_10 e0 e1 e6 e7 e5 em hg hh @Zbv hz2) (w_3 cl ca cz) (w_2 (w_d 8 [(10,iv 0)] [] []) (w_d 9 [(10,ratQ z)] [] [9])) ?_;(repeat' first|exact w_t|apply w_l);all_goals intros));refine⟨(i+1,l+1),⟨by simp only;omega,by simp only;omega,gW e0,gW e1,gS,gS,_,out,gW e5,gW em,by simp only;omega,hs⟩,by simp only;omega⟩
    ·rw [Zx4 hz] at hs;have hz2:¬(s1+t1).num.sign=0:=by rw [Zgf];exact hz
     clear st ms mt m1 m2 d1 d2;generalize (s1+t1)=z at *;(focus (refine wkax (w_9 e0 e1 e6 e7 e5 em hg hh @Zbv) (w_3 cl ca cz) (w_3 (w_d 8 [(10,iv 0)] [] []) (w_d 9 [(10,ratQ z)] [] [9]) (w_d 11 [] [9,1009] [100,61])) w_t w_t w_t w_y (w_r 0) ?_;(repeat' first|exact w_t|apply w_l);all_goals intros));refine⟨(i+1,l+1),⟨by simp only;omega,by simp only;omega,gW e0,gW e1,gS,gS,_,out++[(z,s2)],gC,by(simp (disch:=omega) only [go_sem,Zys]<;>repeat' first|rfl|refine⟨?_,?_⟩),by simp only [Zy0,Zyk,Zym];omega,by rw [hs,Zzd];rfl⟩,by simp only;omega⟩
   ·rw [Zx5 h1] at hs;rw [h2] at cl;clear st ms mt m1 m2 d1 d2 ca cz;(focus (refine wkad (w_9 e0 e1 e6 e7 e5 em hg hh @Zbv) (w_1 cl) (w_1 (w_d 8 [(10,iv 1)] [] [])) ?_;(repeat' first|exact w_t|apply w_l);all_goals intros));refine⟨(i+1,l),⟨by simp only;omega,by simp only;omega,gW e0,gW e1,gS,gW e7,_,out++[(s1,s2)],gC,by(simp (disch:=omega) only [go_sem,Zys]<;>repeat' first|rfl|refine⟨?_,?_⟩),by simp only [Zy0,Zyk,Zym];omega,by rw [hs,Zzd];rfl⟩,by simp only;omega⟩
  ·rw [Zjx zo] at hs;by_cases hi2:i < p.length
   ·have hl2:l=q.length:=zo;subst hl2;have hg:=Zaj tmA hi2;have hd:p.drop i=p[i] :: p.drop (i+1):=ZCq hi2;rw [hd] at hs
    have hs:addM p q=(out++[p[i]])++addM (p.drop (i+1)) (q.drop q.length):=by
     rw [Zjx (.inr (Zx7 _)),hs];simp
    clear hd;generalize p[i]=s at *;obtain⟨s1,s2⟩:=s;(focus (refine wkad (w_8 e0 e1 e6 e7 e5 em hg @Zbv) w_t w_t ?_;(repeat' first|exact w_t|apply w_l);all_goals intros));refine⟨(i+1,q.length),⟨by simp only;omega,by simp only;omega,gW e0,gW e1,gS,gW e7,_,out++[(s1,s2)],gC,by(simp (disch:=omega) only [go_sem,Zys]<;>repeat' first|rfl|refine⟨?_,?_⟩),by simp only [Zy0,Zyk,Zym];omega,hs⟩,by simp only;omega⟩
   ·have hi3:i=p.length:=zo;subst hi3;by_cases hl2:l < q.length
    ·have hg:=Zaj tmA hl2;have hd:q.drop l=q[l] :: q.drop (l+1):=ZCq hl2;rw [hd] at hs
     have hs:addM p q=(out++[q[l]])++addM (p.drop p.length) (q.drop (l+1)):=by
      rw [Zjx (.inl (Zx7 _)),hs];simp
     clear hd;generalize q[l]=s at *;obtain⟨s1,s2⟩:=s;(focus (refine wkad (w_8 e0 e1 e6 e7 e5 em hg @Zbv) w_t w_t ?_;(repeat' first|exact w_t|apply w_l);all_goals intros));refine⟨(p.length,l+1),⟨by simp only;omega,by simp only;omega,gW e0,gW e1,gW e6,gS,_,out++[(s1,s2)],gC,by(simp (disch:=omega) only [go_sem,Zys]<;>repeat' first|rfl|refine⟨?_,?_⟩),by simp only [Zy0,Zyk,Zym];omega,hs⟩,by simp only;omega⟩
    ·have hl3:l=q.length:=zo;subst hl3;rw [List.drop_length,List.drop_length,Zzy,Zzy] at hs;rw [hs];(focus (refine wkld (w_7 e0 e1 e6 e7 e5 em @Zbv) w_t (w_1 em) w_t ?_;(repeat' first|exact w_t|apply w_l);all_goals intros))
 ·exact⟨Zyi _,Zyi _,gC,gC,gC,gC,_,[],gC,by(simp (disch:=omega) only [go_sem,Zy6]<;>repeat' first|rfl|refine⟨?_,?_⟩),by simp,by simp⟩
theorem rpTimes (p:Po) (t:Tm) {j k e f:Nat} (hp:PK p j e) (ht:PK [t] k f) (lp:p.length≤1000000) (hj:j≤1000000) (hk:k≤1000000) (he:e≤16777216) (hf:f≤16777216) :
 Pure prog 68 [poA p,tmA t] (poA (Zai mulM p t)):=by
 obtain⟨t1,t2⟩:=t;refine pI func68 rfl ntmps68 results68 call68 ?_;(focus (refine wkad (w_1 @Zbv) w_t w_t ?_;(repeat' first|exact w_t|apply w_l);all_goals intros));rename_i g3;refine Zf5 (Frz.nilOwn (d:=5) 100 4 111 (gC)) ?_;refine Zad (ι:=Nat) (λi e m=>i≤p.length∧e 3=.pbox 3 g3 0∧m 3=some (.box g3 111 [.v (.bool (decide (t1.num < 0))),lim (toL t1.num.natAbs),lim (toL t1.den),ivs t2] false)∧e 0=poA p∧e 6=iv i∧∃sv,e 5=.own 100 sv∧m 100=some (.row sv 111 4 ((Zai mulM (p.take i) (t1,t2)).map tmA) 0)) (λi=>p.length - i) 0 zr ?_ ?_
 ·rintro i e m ⟨hi,e3,m3,e0,e6,sv,e5,m11⟩
  by_cases hlt:i < p.length
  ·have hg:=Zaj tmA hlt;have hs:=Zmj (t:=(t1,t2)) hlt;have ms:=hp _ (Zyl hlt);have m1:=hp.sm he (Zyl hlt);have m2:=ht.sm hf (.head _);have mt:=(ht _ (.head _)).1;have hl:(Zai mulM (p.take i) (t1,t2)).length≤1000000:=by rw [Zdt,Zyp];omega
   generalize p[i]=s at *;have c1:=qMul s.1 t1 ms.1 mt zo zo;have c3:Pure prog 136 [ivs s.2,ivs t2] (ivs (mulM s.2 t2)):=mrMul s.2 t2 m1.wd m2.wd;obtain⟨s1,s2⟩:=s;simp only at *;clear ms m1 m2 mt;generalize s1*t1=z at *;generalize mulM s2 t2=w at *;generalize Zai mulM (p.take i) (t1,t2)=out at *;(focus (refine wkad (w_8 e3 m3 e0 e6 e5 m11 hg @Zbv) (w_2 c1 c3) (w_1 (w_d 5 [(8,ratQ z),(16,ivs w)] [19,1019] [100,31])) ?_;(repeat' first|exact w_t|apply w_l);all_goals intros));exact⟨i+1,⟨zo,gW e3,gW m3,gW e0,gS,_,gC,by rw [hs,Zys];exact gC⟩,zo⟩
  ·have hi2:i=p.length:=zo;subst hi2;rw [Zy7] at m11;(focus (refine wkld (w_7 e3 m3 e0 e6 e5 m11 @Zbv) w_t (w_1 m11) w_t ?_;(repeat' first|exact w_t|apply w_l);all_goals intros))
 ·exact⟨Zyi _,gC,gC,gC,gC,_,gC,by(simp (disch:=omega) only [go_sem,ZA0,Zai,Zy6]<;>repeat' first|rfl|refine⟨?_,?_⟩)⟩
theorem Ztc {p:Po} {a:Rat} {i:Nat} (hi:i < p.length):Zaw a (p.take (i+1))=Zaw a (p.take i)++[(p[i].1*a,p[i].2)]:=by
 unfold Zaw;rw [ZAy hi,Zys];rfl
theorem rpScale0 (p:Po) (a:Rat) {j k e:Nat} (hp:PK p j e) (ha:Sz a k) (lp:p.length≤1000000) (hj:j≤1000000) (hk:k≤1000000) (h:a≠0) :
 Pure prog 138 [poA p,ratQ a] (poA (Zaw a p)):=by
 have cs:=Zqc a ha zo;have hz:¬a.num.sign=0:=by rw [Zgf];exact h
 generalize a.num.sign=sg at *;refine pI func138 rfl ntmps138 results138 call138 ?_;(focus (refine wkad (w_1 @Zbv) w_t w_t ?_;(repeat' first|exact w_t|apply w_l);all_goals intros));rename_i g3;refine Zf5 (Frz.nilOwn (d:=5) 100 4 111 (gC)) ?_;refine Zad (ι:=Nat) (λi e m=>i≤p.length∧e 3=.pbox 3 g3 0∧m 3=some (.box g3 59 [.v (.bool (decide (a.num < 0))),lim (toL a.num.natAbs),lim (toL a.den)] false)∧e 0=poA p∧e 6=iv i∧∃sv,e 5=.own 100 sv∧m 100=some (.row sv 111 4 ((Zaw a (p.take i)).map tmA) 0)) (λi=>p.length - i) 0 zr ?_ ?_
 ·rintro i e m ⟨hi,e3,m3,e0,e6,sv,e5,m11⟩
  by_cases hlt:i < p.length
  ·have hg:=Zaj tmA hlt;have hs:=Ztc (a:=a) hlt;have ms:=(hp _ (Zyl hlt)).1;have hl:(Zaw a (p.take i)).length≤1000000:=by rw [Zfw,Zyp];omega
   generalize p[i]=s at *;have c1:=qMul s.1 a ms ha zo zo;obtain⟨s1,s2⟩:=s;simp only at *;clear ms;generalize s1*a=z at *;generalize Zaw a (p.take i)=out at *;(focus (refine wkad (w_8 e3 m3 e0 e6 e5 m11 hg @Zbv) (w_2 c1 cs) (w_1 (w_d 5 [(7,ratQ z)] [15,1015] [100,32])) ?_;(repeat' first|exact w_t|apply w_l);all_goals intros));exact⟨i+1,⟨zo,gW e3,gW m3,gW e0,gS,_,gC,by rw [hs,Zys];exact gC⟩,zo⟩
  ·have hi2:i=p.length:=zo;subst hi2;rw [Zy7] at m11;(focus (refine wkld (w_7 e3 m3 e0 e6 e5 m11 @Zbv) w_t (w_1 m11) w_t ?_;(repeat' first|exact w_t|apply w_l);all_goals intros))
 ·exact⟨Zyi _,gC,gC,gC,gC,_,gC,by(simp (disch:=omega) only [go_sem,ZA0,Zaw,Zy6]<;>repeat' first|rfl|refine⟨?_,?_⟩)⟩
theorem rpNeg (p:Po) {j e:Nat} (hp:PK p j e) (lp:p.length≤1000000) (hj:j≤1000000):Pure prog 71 [poA p] (poA (Zaw (-1) p)):=by
 have c:=rpScale0 p (-1) hp ((Zci 1 zo).neg) lp hj zo neg1;have co:=qOfM;generalize Zaw (-1) p=r at *;generalize (-1:Rat)=q at *;refine pI func71 rfl ntmps71 results71 call71 ?_;(focus (refine wklp w_t (w_2 co c) w_t (w_r 0) ?_;(repeat' first|exact w_t|apply w_l);all_goals intros))
theorem Ztf (p q:Po) {j k e:Nat} (hp:PK p j e) (hq:PK q k e) (sp:SrtM p) (sq:SrtM q) (lp:p.length≤1000000) (lq:q.length≤1000000) (hj:j≤1000000) (hk:k≤1000000) (he:e≤16777216) :
 Pure prog 27 [poA p,poA q] (poA (subM p q)):=by
 have c1:=rpNeg q hq lq hk;have c2:=Znv p (Zaw (-1) q) hp hq.neg sp (Zca sq neg1) lp (by rw [Zfw];exact lq) hj hk he;show Pure _ _ _ (poA (addM p (Zaw (-1) q)));generalize Zaw (-1) q=n at *;generalize addM p n=r at *;refine pI func27 rfl ntmps27 results27 call27 ?_;(focus (refine wklp w_t (w_2 c1 c2) w_t (w_r 0) ?_;(repeat' first|exact w_t|apply w_l);all_goals intros))
theorem Zoo {p q:Po} {i:Nat} (hi:i < q.length):mlM p (q.take (i+1))=addM (mlM p (q.take i)) (Zai mulM p q[i]):=by
 unfold mlM mulR;rw [ZAy hi,List.foldl_append];rfl
theorem Zjo {q:Po} (h:SrtM q) (i:Nat):SrtM (q.take i):=⟨λt ht=>h.1 t (Zzh ht),List.Pairwise.sublist (List.take_sublist i q) h.2⟩
theorem rpMul (p q:Po) {j k e f K E:Nat} (hp:PK p j e) (hq:PK q k f) (sp:SrtM p) (sq:SrtM q) (lp:p.length≤1000000) (lq:q.length≤1000000) (hj:j≤500000) (hk:k≤500000) (he:e≤8000000) (hf:f≤8000000)
 (ho:∀i,PK (mlM p (q.take i)) K E∧(mlM p (q.take i)).length≤1000000) (hK:K≤1000000) (hE:E≤16777216) :
 Pure prog 24 [poA p,poA q] (poA (mlM p q)):=by
 refine pI func24 rfl ntmps24 results24 call24 ?_;(focus (refine wkap (w_1 @Zbv) w_t (w_r 0) ?_;(repeat' first|exact w_t|apply w_l);all_goals intros));refine Zf5 (Frz.nil (d:=5) 4 (gC)) ?_;refine Zad (ι:=Nat) (λi e' m=>i≤q.length∧e' 0=poA p∧e' 1=poA q∧e' 6=iv i∧e' 5=poA (mlM p (q.take i))) (λi=>q.length - i) 0 zr ?_ ?_
 ·rintro i e' m ⟨hi,e0,e1,e6,e5⟩
  by_cases hlt:i < q.length
  ·have hg:=Zaj tmA hlt;have ht:PK [q[i]] k f:=λu hu=>by rw [Zzs] at hu;subst hu;exact hq _ (Zyl hlt)
   have c1:=rpTimes p q[i] hp ht lp zo zo zo zo;have c2:=Znv (mlM p (q.take i)) (Zai mulM p q[i]) (k:=j+k) (e:=max E (e+f)) ((ho i).1.mono (Zx7 _) zo) ((hp.times ht).mono (Zx7 _) zo) (Zbr ordM mulK sp (Zjo sq i)) (Ze5 mulK sp (sq.1 _ (Zyl hlt)).1 (sq.1 _ (Zyl hlt)).2) (ho i).2 (by rw [Zdt];exact lp) hK zo zo;rw [←Zoo hlt] at c2;generalize q[i]=t at *;obtain⟨t1,t2⟩:=t;generalize Zai mulM p (t1,t2)=w at *;generalize mlM p (q.take i)=out at *;generalize hout:mlM p (q.take (i+1))=out' at *;(focus (refine wkap (w_6 e0 e1 e6 e5 hg @Zbv) (w_2 c1 c2) (w_r 0) ?_;(repeat' first|exact w_t|apply w_l);all_goals intros))
   exact⟨i+1,⟨zo,gW e0,gW e1,gS,by rw [hout];exact gC⟩,zo⟩
  ·have hi2:i=q.length:=zo;subst hi2;rw [Zy7] at e5;(focus (refine wklp (w_5 e0 e1 e6 e5 @Zbv) w_t w_t (w_r 0) ?_;(repeat' first|exact w_t|apply w_l);all_goals intros))
 ·exact⟨Zyi _,gC,gC,gC,by(simp (disch:=omega) only [go_sem,ZA0,mlM,mulR,List.foldl_nil,Zy6]<;>repeat' first|rfl|refine⟨?_,?_⟩)⟩
theorem Zro (c:Rat) (m:List Int) {k:Nat} (hc:Sz c k) (hk:k≤1000000):Pure prog 69 [.v (.slice none 0 0),ratQ c,ivs m] (poA (if c=0 then [] else [(c,m)])):=by
 have cs:=Zqc c hc zo;have cn:=Zmg c hc zo;by_cases h:c=0
 ·rw [Zx5 h];have hz:c.num.sign=0:=by rw [Zgf];exact h
  refine pI func69 rfl ntmps69 results69 call69 ?_;(focus (refine wkax (w_1 hz) (w_1 cs) w_t w_t w_t w_t w_y (w_r 2) ?_;(repeat' first|exact w_t|apply w_l);all_goals intros))
  (all_goals (try simp (disch:=omega) only [go_sem,Zx8,Zx6,Zx5,Zx4,Int.reduceAdd,Int.reduceSub,Int.reduceToNat,Zyh]));(all_goals first|done|rfl|(congr 2;first|done|omega|(rw [Zyn];simp only [bool_to_prop,Zyj,Zyw,Zyx,Zyy,Zyz];omega))|skip)
 ·rw [Zx4 h];have hz:¬c.num.sign=0:=by rw [Zgf];exact h
  generalize c.num.sign=z at *;refine pI func69 rfl ntmps69 results69 call69 ?_;(focus (refine wkax w_t (w_2 cs cn) w_t w_t w_t w_t w_y (w_r 2) ?_;(repeat' first|exact w_t|apply w_l);all_goals intros))
  (all_goals (try simp (disch:=omega) only [go_sem,Zx8,Zx6,Zx5,Zx4,Int.reduceAdd,Int.reduceSub,Int.reduceToNat,Zyh]));(all_goals first|done|rfl|(congr 2;first|done|omega|(rw [Zyn];simp only [bool_to_prop,Zyj,Zyw,Zyx,Zyy,Zyz];omega))|skip)
theorem rpVar (v:Nat) (hv:v < 1000):Pure prog 25 [iv v] (poA (varM v)):=by
 unfold varM;by_cases h:v < 64
 ·rw [Zx5 h];have c1:=qOf 1 zo;rw [show((1:Nat):Rat)=1 from rfl] at c1;have c2:=Zro 1 (Zdf v) (Zci 1 zo) zo;rw [Zx4 (show(1:Rat)≠0 by decide)] at c2;have hu:(iv 0 :: List.replicate v (iv 0)).set v (iv 1)=(Zdf v).map iv:=by rw [←List.replicate_succ];exact Zre v
  generalize (1:Rat)=q at *;have hl:(List.replicate (v+1) (iv 0)).length=v+1:=by simp
  refine pI func25 rfl ntmps25 results25 call25 ?_;(focus (refine wkax (w_2 hl hu) (w_1 c1) w_t (w_1 c2) w_t w_t w_y (w_r 0) ?_;(repeat' first|exact w_t|apply w_l);all_goals intros))
  (all_goals (try simp (disch:=omega) only [go_sem,Zx8,Zx6,Zx5,Zx4,Int.reduceAdd,Int.reduceSub,Int.reduceToNat,Zyh]));(all_goals first|done|rfl|(congr 2;first|done|omega|(rw [Zyn];simp only [bool_to_prop,Zyj,Zyw,Zyx,Zyy,Zyz];omega))|skip)
 ·rw [Zx4 h];refine Zdm (r:=.v (.slice none 0 0)) ?_ (.nil 4);refine pI func25 rfl ntmps25 results25 call25 ?_;(focus (refine wklp w_t w_t w_t (w_r 0) ?_;(repeat' first|exact w_t|apply w_l);all_goals intros))
theorem rpConst (c:Rat) {k:Nat} (hc:Sz c k) (hk:k≤1000000):Pure prog 88 [ratQ c] (poA (if c=0 then [] else [(c,[])])):=by
 have c2:=Zro c [] hc hk;have c2:=Zih c2 (.cons (.refl _) (.cons (.refl _) (.cons (.nil 1) .nil)));generalize (if c=0 then [] else [(c,[])])=r at *;refine pI func88 rfl ntmps88 results88 call88 ?_;(focus (refine wklp w_t (w_1 c2) w_t (w_r 0) ?_;(repeat' first|exact w_t|apply w_l);all_goals intros))
def cmpT (s t:Tm):Int:=if lexC s.2 t.2 (max s.2.length t.2.length)≠0 then lexC s.2 t.2 (max s.2.length t.2.length) else cmpQ s.1 t.1
def cmpPo:Po→Po→Int
 | [],[]=>0
 | [],_ :: _=>-1
 | _ :: _,[]=>1
 | s :: p,t :: q=>if cmpT s t≠0 then cmpT s t else cmpPo p q
structure PB (p:Po) (n j e:Nat):Prop where
 s:SrtM p
 k:PK p j e
 l:p.length≤n
theorem PB.mono {p:Po} {n j e m i f:Nat} (h:PB p n j e) (hn:n≤m) (hj:j≤i) (he:e≤f):PB p m i f:=⟨h.s,h.k.mono hj he,Zye h.l hn⟩
theorem PB.nil {n j e:Nat}:PB [] n j e:=⟨.nil,.nil,Zyi _⟩
theorem PB.add {p q:Po} {n j e m k f:Nat} (h:PB p n j e) (g:PB q m k f):PB (addM p q) (n+m) (j+k+1) (max e f) :=
 ⟨Zb5 ordM h.s g.s,(h.k.mono (Zx7 _) (Nat.le_max_left ..)).add (g.k.mono (Zx7 _) (Nat.le_max_right ..)),Zye (Zjw p q) (ZAp h.l g.l)⟩
theorem PB.neg {p:Po} {n j e:Nat} (h:PB p n j e):PB (Zaw (-1) p) n j e:=⟨Zca h.s neg1,h.k.neg,by rw [Zfw];exact h.l⟩
theorem PB.sub {p q:Po} {n j e m k f:Nat} (h:PB p n j e) (g:PB q m k f):PB (subM p q) (n+m) (j+k+1) (max e f):=h.add g.neg
theorem PB.times {p:Po} {t:Tm} {n j e k f:Nat} (h:PB p n j e) (ht:PK [t] k f) (h0:t.1≠0) (hd:Can t.2):PB (Zai mulM p t) n (j+k) (e+f) :=
 ⟨Ze5 mulK h.s h0 hd,h.k.times ht,by rw [Zdt];exact h.l⟩
theorem PB.take {q:Po} {m k f:Nat} (g:PB q m k f) (i:Nat):PB (q.take i) m k f :=
 ⟨Zjo g.s i,λt ht=>g.k t (Zzh ht),by rw [Zyp];have:=g.l;omega⟩
theorem PB.one {q:Po} {m k f:Nat} (g:PB q m k f) {t:Tm} (ht:t∈q):PK [t] k f:=λu hu=>by rw [Zzs] at hu;subst hu;exact g.k _ ht
theorem Zqr {p q:Po} {n j e m k f:Nat} (h:PB p n j e) (g:PB q m k f):∀i,i≤q.length→PB (mlM p (q.take i)) (n*i) (i*(j+k+1)) (e+f)
 | 0,_=>by rw [ZA0];exact .nil
 | i+1,hi=>by
   rw [Zoo hi];have h1:=Zqr h g i zo;have h2:=h.times (g.one (Zyl hi)) (g.s.1 _ (Zyl hi)).1 (g.s.1 _ (Zyl hi)).2;refine(h1.add h2).mono ?_ ?_ ?_
   ·rw [Nat.mul_succ];omega
   ·rw [ZB7];omega
   ·omega
theorem Zqs {p q:Po} {n j e m k f:Nat} (h:PB p n j e) (g:PB q m k f) (i:Nat):PB (mlM p (q.take i)) (n*m) (m*(j+k+1)) (e+f):=by
 by_cases hi:i≤q.length
 ·have hm:=g.l;exact(Zqr h g i hi).mono (ZAh _ zo) (Zy5 _ zo) (Zx7 _)
 ·rw [ZA8 zo];have:=Zqr h g q.length (Zx7 _);rw [Zy7] at this;exact this.mono (ZAh _ g.l) (Zy5 _ g.l) (Zx7 _)
theorem PB.mul {p q:Po} {n j e m k f:Nat} (h:PB p n j e) (g:PB q m k f):PB (mlM p q) (n*m) (m*(j+k+1)) (e+f):=by
 have:=Zqs h g q.length
 rwa [Zy7] at this
theorem sumH_pb {s e n:Nat} (l:List Po) (h:∀p∈l,PB p n s e):PB (sumH ltM l) (l.length*n) (l.length*(s+1) - 1) e:=by
 fun_induction sumH ltM l with
 | case1=>exact .nil
 | case2 p=>exact(h p (.head _)).mono zs zs (Zx7 _)
 | case3 p q l ih1 ih2 =>
   have h1:=ih1 λu hu=>h u (Zzh hu);have h2:=ih2 λu hu=>h u (Zz8 hu);rw [Zyp] at h1;rw [Zzx] at h2;have hL:2≤(p :: q :: l).length:=by simp
   generalize (p :: q :: l).length=L at *;rw [ZAf zo] at h1;have e1:L/2+(L - L/2)=L:=zo;have a1:1≤L/2*(s+1):=Zye zo (ZBa (L/2) (show 0 < s+1 by omega));have a2:1≤(L - L/2)*(s+1):=Zye (show 1≤L - L/2 by omega) (ZBa (L - L/2) (show 0 < s+1 by omega));refine(h1.add h2).mono ?_ ?_ zo
   ·rw [←Zy4,e1];exact Zx7 _
   ·have e2:L/2*(s+1)+(L - L/2)*(s+1)=L*(s+1):=by rw [←Zy4,e1]
    omega
theorem sum_ok {s e n N:Nat} (l:List Po) (h:∀p∈l,PB p n s e) (hN:l.length≤N) (hb:N*n≤1000000):SumOk l (N*(s+1)) e:=λa b=>by
 have h1:∀p∈(l.drop a).take b,PB p n s e:=λp hp=>h p (Zz8 (Zzh hp));have h2:=sumH_pb _ h1;have h3:((l.drop a).take b).length≤N:=by rw [Zyp,Zzx];omega
 refine⟨h2.k.mono ?_ (Zx7 _),Zye h2.l (Zye (Zy5 _ h3) hb)⟩;have:=Zy5 (s+1) h3;omega
theorem parts_ok {p q:Po} {n j e m k f:Nat} (h:PB p n j e) (g:PB q m k f) (hn:n*m≤1000000):SumOk (Zn9 p q) (min n m*(j+k+1)) (e+f):=by
 unfold Zn9;have l1:=h.l;have l2:=g.l;split
 ·rename_i hlt;have:=sum_ok (q.map λt=>Zai mulM p t) (n:=p.length) (s:=j+k) (e:=e+f) (N:=q.length) (λu hu=>by
   obtain⟨t,ht,rfl⟩:=List.mem_map.1 hu;have h':PB p p.length j e:=⟨h.s,h.k,Zx7 _⟩;exact h'.times (g.one ht) (g.s.1 t ht).1 (g.s.1 t ht).2) (by rw [Zx9];exact Zx7 _) (by rw [Zy9];exact Zye (ZA2 l1 l2) hn)
  exact λa b=>⟨(this a b).1.mono (Zy5 _ zo) (Zx7 _),(this a b).2⟩
 ·rename_i hlt;have:=sum_ok (p.map λt=>Zai mulM q t) (n:=q.length) (s:=k+j) (e:=f+e) (N:=p.length) (λu hu=>by
   obtain⟨t,ht,rfl⟩:=List.mem_map.1 hu;have h':PB q q.length k f:=⟨g.s,g.k,Zx7 _⟩;exact h'.times (h.one ht) (h.s.1 t ht).1 (h.s.1 t ht).2) (by rw [Zx9];exact Zx7 _) (Zye (ZA2 l1 l2) hn)
  refine λa b=>⟨(this a b).1.mono ?_ zo,(this a b).2⟩;rw [ZAx k j];exact Zy5 _ zo
theorem hpAdd {p q:Po} {n j e m k f:Nat} (h:PB p n j e) (g:PB q m k f) (hn:n≤1000000) (hm:m≤1000000) (hj:j≤1000000) (hk:k≤1000000) (he:e≤100) (hf:f≤100) :
 Pure prog 122 [poA p,poA q] (poA (addM p q))∧Pure prog 67 [poA p,poA q] (poA (addM p q)) :=
 have l1:=h.l;have l2:=g.l
 ⟨Zkg p q (h.k.mono (Zx7 _) he) (g.k.mono (Zx7 _) hf) h.s g.s zo zo hj hk zo,Znv p q (h.k.mono (Zx7 _) he) (g.k.mono (Zx7 _) hf) h.s g.s zo zo hj hk zo⟩
theorem hpSub {p q:Po} {n j e m k f:Nat} (h:PB p n j e) (g:PB q m k f) (hn:n≤1000000) (hm:m≤1000000) (hj:j≤1000000) (hk:k≤1000000) (he:e≤100) (hf:f≤100) :
 Pure prog 119 [poA p,poA q] (poA (subM p q))∧Pure prog 27 [poA p,poA q] (poA (subM p q)) :=
 have l1:=h.l;have l2:=g.l
 ⟨Zmk p q (h.k.mono (Zx7 _) he) (g.k.mono (Zx7 _) hf) h.s g.s zo zo hj hk zo,Ztf p q (h.k.mono (Zx7 _) he) (g.k.mono (Zx7 _) hf) h.s g.s zo zo hj hk zo⟩
theorem hpMul {p q:Po} {n j e m k f:Nat} (h:PB p n j e) (g:PB q m k f) (hn:n≤1000000) (hm:m≤1000000) (hj:j≤500000) (hk:k≤500000) (he:e≤100) (hf:f≤100) (hnm:n*m≤1000000) (hK:min n m*(j+k+1)≤1000000) (hR:m*(j+k+1)≤1000000) :
 Pure prog 120 [poA p,poA q] (poA (mlM p q))∧Pure prog 24 [poA p,poA q] (poA (mlM p q)) :=
 have l1:=h.l;have l2:=g.l
 ⟨poMul p q h.k g.k h.s g.s zo zo zo zo zo zo (parts_ok h g hnm) hK zo,
  rpMul p q h.k g.k h.s g.s zo zo hj hk zo zo (λi=>⟨(Zqs h g i).k,Zye (Zqs h g i).l hnm⟩) hR zo⟩
abbrev Pt:=Po × Po
abbrev dfM (a b:Pt):Pt:=(subM b.1 a.1,subM b.2 a.2)
def Zeo (a b c d:Pt):Po:=subM (mlM (subM b.1 a.1) (subM d.2 c.2)) (mlM (subM b.2 a.2) (subM d.1 c.1))
def dotM (a b c d:Pt):Po:=addM (mlM (subM b.1 a.1) (subM d.1 c.1)) (mlM (subM b.2 a.2) (subM d.2 c.2))
def dblM (p:Po):Po:=addM p p
abbrev oneM:Po:=[(1,[])]
def Zhr (t:Po):Po:=addM oneM (mlM t t)
def circM (o a x:Pt) (t:Po):List Po :=
 let s:=dblM (addM (subM o.1 a.1) (mlM t (subM o.2 a.2)))
 [subM (mlM (Zhr t) (subM x.1 a.1)) s,subM (mlM (Zhr t) (subM x.2 a.2)) (mlM t s)]
def otherM (p q o x:Pt):List Po :=
 let n:=dotM p q p q
 let s:=dblM (dotM p o p q)
 [subM (mlM n (subM x.1 p.1)) (mlM s (subM q.1 p.1)),subM (mlM n (subM x.2 p.2)) (mlM s (subM q.2 p.2))]
def Zq5 (a b c d:Pt):Po:=subM (dotM a b a b) (dotM c d c d)
def eqsM (k:Int) (a b c d x:Pt) (t:Po):List Po :=
 if k=6 then circM a b x t
 else if k=7 then [Zeo b c b x,dotM b c a x]
 else if k=8 then [dotM b c a x,addM (Zeo b c b a) (Zeo b c b x)]
 else if k=9 then [Zeo a b a x,Zeo c d c x]
 else if k=10 then otherM a b c x
 else if k=11 then [Zq5 a x b x,Zq5 a x c x]
 else if k=12 then [Zeo a b a x,Zq5 c x c d]
 else if k=13 then [Zq5 a x a b,Zq5 c x c d]
 else if k=14 then [Zq5 a x a b,Zq5 b x a b]
 else []
structure CB (c:Pt):Prop where
 x:PB c.1 8 110 8
 y:PB c.2 8 110 8
theorem CB.df {a b:Pt} (h:CB a) (g:CB b):PB (subM b.1 a.1) 16 221 8∧PB (subM b.2 a.2) 16 221 8:=⟨(g.x.sub h.x).mono zo zo zo,(g.y.sub h.y).mono zo zo zo⟩
theorem PB.m2 {p q:Po} (h:PB p 16 221 8) (g:PB q 16 221 8):PB (mlM p q) 256 7088 16:=(h.mul g).mono zo zo zo
theorem CB.cross {a b c d:Pt} (ha:CB a) (hb:CB b) (hc:CB c) (hd:CB d):PB (Zeo a b c d) 512 14177 16 :=
 (((ha.df hb).1.m2 (hc.df hd).2).sub ((ha.df hb).2.m2 (hc.df hd).1)).mono zo zo zo
theorem CB.dot {a b c d:Pt} (ha:CB a) (hb:CB b) (hc:CB c) (hd:CB d):PB (dotM a b c d) 512 14177 16 :=
 (((ha.df hb).1.m2 (hc.df hd).1).add ((ha.df hb).2.m2 (hc.df hd).2)).mono zo zo zo
theorem Zr4:PB oneM 1 1 0:=by
 refine⟨Srt.nil.cons zd Znb zs,λt ht=>?_,by simp⟩;rw [Zzs] at ht;subst ht;exact⟨Zci 1 zo,by simp,λj=>by rw [Zb3 (Zyi _)];omega⟩
theorem Zug (v:Nat):PB (varM v) 1 1 1:=⟨Zce v,Ziu v,by unfold varM;split<;>simp⟩
theorem one_mul {p:Po} (h:SrtM p):mlM oneM p=p:=by
 rw [Zom zd h];unfold Zaw
 conv=>rhs;rw [←List.map_id p]
 exact ZAj λt ht=>by show(t.1*1,t.2)=t;rw [ZBr]
attribute [go_sem] underlying76 underlying22 underlying78 underlying23 underlying25 zFig zSlI zSlS zSlF
attribute [local go_sem] Zbt Zcd Zcz Zbe Zbh Zcj Zek Zeq Zgk Zcr Zcf Zcq Zgj
theorem irRaw (s:Bool) (l:List Nat) (hl:Lm l) (hs:l.length≤100000000):Pure prog 238 [.agg [.v (.bool s),lim l]] (.v (.bool (RQ.zok s l))):=by
 unfold RQ.zok valL;by_cases h:l.length=0
 ·rw [Zx8 h,Bool.true_or,Zzv,Bool.and_true];cases s
  ·refine pI func238 rfl ntmps238 results238 call238 ?_;exact wklp (w_1 @Zav) w_t w_t (w_r 0) w_z
  ·refine pI func238 rfl ntmps238 results238 call238 ?_;exact wklp (w_1 @Zav) w_t w_t (w_r 0) w_z
 ·rw [Zx6 h,Bool.false_or,ZA3,ZBq,Bool.and_true];have ei:(l.length:Int) - 1=((l.length - 1:Nat):Int):=zo;have hlm:=Zbw hl (l.length - 1);by_cases hg:gN l (l.length - 1)=0
  ·rw [Zx8 hg];cases s
   ·refine pI func238 rfl ntmps238 results238 call238 ?_;exact wklp (w_2 ei @Zav) w_t (w_1 @ZBo) (w_r 0) w_z
   ·refine pI func238 rfl ntmps238 results238 call238 ?_;exact wklp (w_2 ei @Zav) w_t (w_1 @ZBo) (w_r 0) w_z
  ·rw [Zx6 hg];cases s
   ·refine pI func238 rfl ntmps238 results238 call238 ?_;exact wklp (w_2 ei @Zav) w_t (w_1 @ZBq) (w_r 0) w_z
   ·refine pI func238 rfl ntmps238 results238 call238 ?_;exact wklp (w_2 ei @Zav) w_t (w_1 @ZBq) (w_r 0) w_z
theorem Zu8 (r:RQ) (h:r.lm 100000000):Pure prog 215 [r.av] (.v (.bool r.ok)):=by
 obtain⟨s,l,d⟩:=r;obtain⟨h1,h2,h3,h4⟩:=h;simp only at h1 h2 h3 h4;have c1:=irRaw s l h1 h3;unfold RQ.ok;simp only;generalize RQ.zok s l=z at *;by_cases hd:d.length=0
 ·have:decide (0 < d.length)=false:=Zx6 zo;rw [this,ZA3];cases z
  ·refine pI func215 rfl ntmps215 results215 call215 ?_;exact wklp (w_1 @Zav) (w_1 c1) w_t (w_r 0) w_z
  ·refine pI func215 rfl ntmps215 results215 call215 ?_;exact wklp (w_1 @Zav) (w_1 c1) w_t (w_r 0) w_z
 ·have:decide (0 < d.length)=true:=Zx8 zo;rw [this,Bool.and_true];have ei:(d.length:Int) - 1=((d.length - 1:Nat):Int):=zo;have hlm:=Zbw h2 (d.length - 1)
  cases z with
  | false =>
    rw [Zzb,Zzb];refine pI func215 rfl ntmps215 results215 call215 ?_;exact wklp (w_1 @Zav) (w_1 c1) w_t (w_r 0) w_z
  | true =>
    rw [Zzv];by_cases hg:gN d (d.length - 1)=0
    ·have:valL d=false:=by unfold valL;rw [Zx6 hd,Zx8 hg];rfl
     rw [this,Zzb];refine pI func215 rfl ntmps215 results215 call215 ?_;exact wklp (w_2 ei @Zav) (w_1 c1) w_t (w_r 0) w_z
    ·have hv:valL d=true:=by unfold valL;rw [Zx6 hd,Zx6 hg];rfl
     rw [hv,Zzv];have hdt:=(Zl2 h2).1 hv;have l4:(toL (nv d)).length≤100000000:=by rw [←hdt];exact h4
     have c2:=Zlj (nv d) zo;have c3:=natGcd l d zo zo h1 h2
     have n0:nv d≠0:=by
      intro h0;rw [h0,Zas] at hdt;rw [hdt] at hd;exact hd rfl
     have gl:(toL (Nat.gcd (nv l) (nv d))).length≤100000000:=Zye (Zc5 (Nat.gcd_le_right _ zo)) l4;have c4:=Zlj (Nat.gcd (nv l) (nv d)) zo;rw [←hdt] at c2;have hb:(Nat.gcd (nv l) (nv d) == 1)=decide (Nat.gcd (nv l) (nv d)=1):=by rw [Zyn,Zz3,Zy1]
     rw [hb];by_cases h1d:nv d=1
     ·rw [Zx8 h1d] at c2;rw [Zx8 (show Nat.gcd (nv l) (nv d)=1 by rw [h1d,Nat.gcd_one_right])];clear c3 c4 hdt;refine pI func215 rfl ntmps215 results215 call215 ?_;exact wklp (w_2 ei @Zav) (w_2 c1 c2) (w_1 @decide_true) (w_r 0) w_z
     ·rw [Zx6 h1d] at c2;clear hdt hb gl;generalize decide (Nat.gcd (nv l) (nv d)=1)=v at *;generalize toL (Nat.gcd (nv l) (nv d))=lg' at *;refine pI func215 rfl ntmps215 results215 call215 ?_;exact wklp (w_2 ei @Zav) (w_4 c1 c2 c3 c4) w_t (w_r 0) w_z
theorem lwAr (k:Int):Pure prog 212 [iv k] (iv (arS k)):=by
 unfold arS;refine pI func212 rfl ntmps212 results212 call212 ?_;(focus (refine wklp w_t w_t w_t (w_r 0) ?_;(repeat' first|exact w_t|apply w_l);all_goals intros));all_goals (congr 2;repeat' split)
 all_goals (first|rfl|omega)
theorem lwNone (r:RQ):Pure prog 216 [r.av] (.v (.bool r.none)):=by
 obtain⟨s,l,d⟩:=r;unfold RQ.none;simp only;cases s
 ·refine pI func216 rfl ntmps216 results216 call216 ?_;(focus (refine wklp (w_1 @Zav) w_t w_t (w_r 0) ?_;(repeat' first|exact w_t|apply w_l);all_goals intros))
 ·refine pI func216 rfl ntmps216 results216 call216 ?_;(focus (refine wklp (w_1 @Zav) w_t w_t (w_r 0) ?_;(repeat' first|exact w_t|apply w_l);all_goals intros))
theorem rlAr (k:Int):Pure prog 128 [iv k] (iv (arS k)):=by
 unfold arS;refine pI func128 rfl ntmps128 results128 call128 ?_;exact wklp w_t w_t w_t (w_r 0) w_z;all_goals (congr 2;repeat' split)
 all_goals (first|rfl|omega)
theorem rlNone (r:RQ):Pure prog 129 [r.av] (.v (.bool r.none)):=by
 obtain⟨s,l,d⟩:=r;unfold RQ.none;simp only;cases s
 ·refine pI func129 rfl ntmps129 results129 call129 ?_;exact wklp (w_1 @Zav) w_t w_t (w_r 0) w_z
 ·refine pI func129 rfl ntmps129 results129 call129 ?_;exact wklp (w_1 @Zav) w_t w_t (w_r 0) w_z
theorem prAr (k:Int):Pure prog 220 [iv k] (iv (arG k)):=by
 unfold arG;refine pI func220 rfl ntmps220 results220 call220 ?_;(focus (refine wklp w_t w_t w_t (w_r 0) ?_;(repeat' first|exact w_t|apply w_l);all_goals intros));all_goals (congr 2;repeat' split)
 all_goals (first|rfl|omega)
theorem prNone (r:RQ):Pure prog 221 [r.av] (.v (.bool r.none)):=by
 obtain⟨s,l,d⟩:=r;unfold RQ.none;simp only;cases s
 ·refine pI func221 rfl ntmps221 results221 call221 ?_;(focus (refine wklp (w_1 @Zav) w_t w_t (w_r 0) ?_;(repeat' first|exact w_t|apply w_l);all_goals intros))
 ·refine pI func221 rfl ntmps221 results221 call221 ?_;(focus (refine wklp (w_1 @Zav) w_t w_t (w_r 0) ?_;(repeat' first|exact w_t|apply w_l);all_goals intros))
theorem rrAr (k:Int):Pure prog 131 [iv k] (iv (arG k)):=by
 unfold arG;refine pI func131 rfl ntmps131 results131 call131 ?_;exact wklp w_t w_t w_t (w_r 0) w_z;all_goals (congr 2;repeat' split)
 all_goals (first|rfl|omega)
theorem rrNone (r:RQ):Pure prog 132 [r.av] (.v (.bool r.none)):=by
 obtain⟨s,l,d⟩:=r;unfold RQ.none;simp only;cases s
 ·refine pI func132 rfl ntmps132 results132 call132 ?_;exact wklp (w_1 @Zav) w_t w_t (w_r 0) w_z
 ·refine pI func132 rfl ntmps132 results132 call132 ?_;exact wklp (w_1 @Zav) w_t w_t (w_r 0) w_z
theorem Zlw {α:Type} (F:α→Bool) (l:List α):∃n,n≤l.length∧(∀j (h:j < l.length),j < n→F l[j]=false)∧(∀h:n < l.length,F l[n]=true)∧l.any F=decide (n < l.length):=by
 induction l with
 | nil=>exact⟨0,by simp,by simp,by simp,by simp⟩
 | cons a l ih =>
   obtain⟨n,h1,h2,h3,h4⟩:=ih
   cases ha:F a with
   | true=>exact⟨0,by simp,λj h h'=>zo,λ_=>ha,by simp [ha]⟩
   | false =>
     refine⟨n+1,by simpa using h1,λj h h'=>?_,λh=>h3 (by simpa using h),by simp [ha,h4]⟩
     cases j with
     | zero=>exact ha
     | succ j=>exact h2 j (by simpa using h) zo
theorem ck1 (a i:Int):Pure prog 214 [iv a,.pimm [iv i]] (.v (.bool (decide (a < 0) || decide (i≤a)))):=by
 refine pI func214 rfl ntmps214 results214 call214 ?_;(focus (refine wklp w_t w_t w_t (w_r 0) ?_;(repeat' first|exact w_t|apply w_l);all_goals intros))
theorem slIdx1 (l:List Int) (i:Int) (hl:l.length≤1000000000):∃z:Int,Pure prog 237 [ivs l,.fn 214 [.pimm [iv i]]] (iv z)∧decide (0≤z)=outB i l:=by
 obtain⟨n,h1,h2,h3,h4⟩:=Zlw (λa=>decide (a < 0) || decide (i≤a)) l;refine⟨if n < l.length then (n:Int) else -1,?_,?_⟩
 ·refine pI func237 rfl ntmps237 results237 call237 ?_;(focus (refine wkap (w_1 @Zbv) w_t (w_r 0) ?_;(repeat' first|exact w_t|apply w_l);all_goals intros));refine Zad (ι:=Nat) (λk e m=>k≤n∧e 0=ivs l∧e 1=.fn 214 [.pimm [iv i]]∧e 7=iv l.length∧e 8=iv k) (λk=>n - k) 0 zr ?_ ?_
  ·rintro k e m ⟨hk,e0,e1,e7,e8⟩
   by_cases hlt:k < l.length
   ·have hg:=Zaj iv hlt;by_cases hkn:k < n
    ·have hb:=h2 k hlt hkn;have c:=ck1 l[k] i;rw [hb] at c;clear hb;generalize l[k]=a at *;(focus (refine wkap (w_6 e0 e1 e7 e8 hg @Zbv) (w_1 c) (w_r 0) ?_;(repeat' first|exact w_t|apply w_l);all_goals intros));exact⟨k+1,⟨zo,gW e0,gW e1,gW e7,gS⟩,zo⟩
    ·have hkn:k=n:=zo;subst hkn;have hb:=h3 hlt;have c:=ck1 l[k] i;rw [hb] at c;rw [Zx5 hlt];clear hb;generalize l[k]=a at *;(focus (refine wklp (w_6 e0 e1 e7 e8 hg @Zbv) (w_1 c) w_t (w_r 0) ?_;(repeat' first|exact w_t|apply w_l);all_goals intros))
   ·rw [Zx4 zo];(focus (refine wklp (w_5 e0 e1 e7 e8 @Zbv) w_t w_t (w_r 0) ?_;(repeat' first|exact w_t|apply w_l);all_goals intros))
  ·exact⟨Zyi _,gC,gC,by(simp (disch:=omega) only [go_sem,Zx9]<;>repeat' first|rfl|refine⟨?_,?_⟩),gC⟩
 ·unfold outB;rw [h4,Zyn,Zy1,Zy1];split<;>omega
theorem slCon1 (l:List Int) (i:Int) (hl:l.length≤1000000000):Pure prog 213 [ivs l,.fn 214 [.pimm [iv i]]] (.v (.bool (outB i l))):=by
 obtain⟨z,c,hz⟩:=slIdx1 l i hl;rw [←hz];refine pI func213 rfl ntmps213 results213 call213 ?_;(focus (refine wklp w_t (w_1 c) w_t (w_r 0) ?_;(repeat' first|exact w_t|apply w_l);all_goals intros))
theorem ck2 (t s:RS):Pure prog 219 [t.av,.pimm [iv s.k,strA s.nm,ivs s.ar,.v (.bool s.r.s),lim s.r.l,lim s.r.d]] (.v (.bool (t.nm.toList == s.nm.toList))):=by
 obtain⟨a,b,c,d⟩:=t;obtain⟨a',b',c',d'⟩:=s;refine pI func219 rfl ntmps219 results219 call219 ?_;(focus (refine wklp w_t w_t w_t (w_r 0) ?_;(repeat' first|exact w_t|apply w_l);all_goals intros))
theorem slIdx2 (l:List RS) (s:RS) (hl:l.length≤1000000000):∃z:Int,Pure prog 242 [.sl 6 (l.map RS.av),.fn 219 [.pimm [iv s.k,strA s.nm,ivs s.ar,.v (.bool s.r.s),lim s.r.l,lim s.r.d]]] (iv z)∧decide (0≤z)=l.any (λt=>t.nm.toList == s.nm.toList):=by
 obtain⟨n,h1,h2,h3,h4⟩:=Zlw (λt:RS=>t.nm.toList == s.nm.toList) l;refine⟨if n < l.length then (n:Int) else -1,?_,?_⟩
 ·refine pI func242 rfl ntmps242 results242 call242 ?_;(focus (refine wkap (w_1 @Zbv) w_t (w_r 0) ?_;(repeat' first|exact w_t|apply w_l);all_goals intros));refine Zad (ι:=Nat) (λk e m=>k≤n∧e 0=.sl 6 (l.map RS.av)∧e 1=.fn 219 [.pimm [iv s.k,strA s.nm,ivs s.ar,.v (.bool s.r.s),lim s.r.l,lim s.r.d]]∧e 7=iv l.length∧e 8=iv k) (λk=>n - k) 0 zr ?_ ?_
  ·rintro k e m ⟨hk,e0,e1,e7,e8⟩
   by_cases hlt:k < l.length
   ·have hg:=Zaj RS.av hlt;by_cases hkn:k < n
    ·have hb:=h2 k hlt hkn;have c:=ck2 l[k] s;rw [hb] at c;clear hb;generalize l[k]=a at *;obtain⟨a1,a2,a3,a4⟩:=a;(focus (refine wkap (w_6 e0 e1 e7 e8 hg @Zbv) (w_1 c) (w_r 0) ?_;(repeat' first|exact w_t|apply w_l);all_goals intros));exact⟨k+1,⟨zo,gW e0,gW e1,gW e7,gS⟩,zo⟩
    ·have hkn:k=n:=zo;subst hkn;have hb:=h3 hlt;have c:=ck2 l[k] s;rw [hb] at c;rw [Zx5 hlt];clear hb;generalize l[k]=a at *;obtain⟨a1,a2,a3,a4⟩:=a;(focus (refine wklp (w_6 e0 e1 e7 e8 hg @Zbv) (w_1 c) w_t (w_r 0) ?_;(repeat' first|exact w_t|apply w_l);all_goals intros))
   ·rw [Zx4 zo];(focus (refine wklp (w_5 e0 e1 e7 e8 @Zbv) w_t w_t (w_r 0) ?_;(repeat' first|exact w_t|apply w_l);all_goals intros))
  ·exact⟨Zyi _,gC,gC,by(simp (disch:=omega) only [go_sem,Zx9]<;>repeat' first|rfl|refine⟨?_,?_⟩),gC⟩
 ·rw [h4,Zyn,Zy1,Zy1];split<;>omega
theorem slCon2 (l:List RS) (s:RS) (hl:l.length≤1000000000):Pure prog 218 [.sl 6 (l.map RS.av),.fn 219 [.pimm [iv s.k,strA s.nm,ivs s.ar,.v (.bool s.r.s),lim s.r.l,lim s.r.d]]] (.v (.bool (l.any (λt=>t.nm.toList == s.nm.toList)))):=by
 obtain⟨z,c,hz⟩:=slIdx2 l s hl;rw [←hz];refine pI func218 rfl ntmps218 results218 call218 ?_;(focus (refine wklp w_t (w_1 c) w_t (w_r 0) ?_;(repeat' first|exact w_t|apply w_l);all_goals intros))
def RS.sm (s:RS):Prop:=s.r.lm 100000000∧s.nm.size≤1000000000∧s.ar.length≤1000000000
def RG.sm (g:RG):Prop:=g.r.lm 100000000∧g.ar.length≤1000000000
theorem lwCheck (ss:List RS) (i:Nat) (hi:i < ss.length) (hl:ss.length≤1000000000) (hs:∀s∈ss,s.sm):Pure prog 158 [.sl 6 (ss.map RS.av),iv i] (iv (errS ss i)):=by
 have hg:=Zaj RS.av hi;have hsm:=hs _ (Zyl hi);have e0:errS ss i=errS ss i:=rfl;unfold errS at e0 ⊢;rw [show ss.getD i RS.zero=ss[i] from by rw [Zyg,Zyf hi];rfl];clear e0;have htk:(ss.map RS.av).take i=(ss.take i).map RS.av:=(List.map_take ..).symm;have c2:=slCon2 (ss.take i) ss[i] (by rw [Zyp];omega);rw [←htk] at c2;have hlm:(ss.map RS.av).length=ss.length:=Zx9 ..;generalize ss.map RS.av=M at *;generalize ss[i]=s at *;clear htk;clear hs;obtain⟨h1,h2,h3⟩:=hsm;have ca:=lwAr s.k;have cr:=Zu8 s.r h1;have cn:=lwNone s.r
 have cm:=nmName s.nm h2;have c1:=slCon1 s.ar i h3;have hst:=Zl6 s.nm;have hla:(s.ar.map iv).length=s.ar.length:=Zx9 ..;obtain⟨k,nm,ar,r,rl,rd⟩:=s;simp only at *;generalize (ss.take i).any (λt=>t.nm.toList == nm.toList)=any at *;generalize arS k=a at *;generalize outB (i:Int) ar=o at *;generalize RQ.ok ⟨r,rl,rd⟩=ok at *;generalize RQ.none ⟨r,rl,rd⟩=no at *;generalize namB nm=nb at *;by_cases w1:a < 0
 ·rw [Zx5 w1];refine pI func158 rfl ntmps158 results158 call158 ?_;(focus (refine wklp (w_3 hg hlm hla) (w_1 ca) w_t (w_r 0) ?_;(repeat' first|exact w_t|apply w_l);all_goals intros))
 ·rw [Zx4 w1];by_cases w2:(ar.length:Int)≠a
  ·rw [Zx5 w2];refine pI func158 rfl ntmps158 results158 call158 ?_;(focus (refine wklp (w_3 hg hlm hla) (w_1 ca) w_t (w_r 0) ?_;(repeat' first|exact w_t|apply w_l);all_goals intros))
  ·rw [Zx4 w2]
   cases o with
   | true =>
     rw [Zx5 rfl];refine pI func158 rfl ntmps158 results158 call158 ?_;(focus (refine wkax (w_3 hg hlm hla) (w_1 ca) w_t (w_1 c1) w_t w_t w_y (w_r 0) ?_;(repeat' first|exact w_t|apply w_l);all_goals intros))
     (all_goals (try simp (disch:=omega) only [go_sem,Zx8,Zx6,Zx5,Zx4,Int.reduceAdd,Int.reduceSub,Int.reduceToNat,Zyh]));(all_goals first|done|rfl|(congr 2;first|done|omega|(rw [Zyn];simp only [bool_to_prop,Zyj,Zyw,Zyx,Zyy,Zyz];omega))|skip)
   | false =>
     rw [Zx4 zd];by_cases w3:(k=2∧ok=false)∨(k≠2∧no=false)
     ·rw [Zx5 w3];rcases w3 with⟨hk,rfl⟩ | ⟨hk,rfl⟩
      ·subst hk;refine pI func158 rfl ntmps158 results158 call158 ?_;(focus (refine wkax (w_3 hg hlm hla) (w_2 ca cr) w_t (w_1 c1) w_t w_t w_y (w_r 0) ?_;(repeat' first|exact w_t|apply w_l);all_goals intros))
       (all_goals (try simp (disch:=omega) only [go_sem,Zx8,Zx6,Zx5,Zx4,Int.reduceAdd,Int.reduceSub,Int.reduceToNat,Zyh]));(all_goals first|done|rfl|(congr 2;first|done|omega|(rw [Zyn];simp only [bool_to_prop,Zyj,Zyw,Zyx,Zyy,Zyz];omega))|skip)
      ·refine pI func158 rfl ntmps158 results158 call158 ?_;(focus (refine wkax (w_3 hg hlm hla) (w_2 ca cn) w_t (w_1 c1) w_t w_t w_y (w_r 0) ?_;(repeat' first|exact w_t|apply w_l);all_goals intros))
       (all_goals (try simp (disch:=omega) only [go_sem,Zx8,Zx6,Zx5,Zx4,Int.reduceAdd,Int.reduceSub,Int.reduceToNat,Zyh]));(all_goals first|done|rfl|(congr 2;first|done|omega|(rw [Zyn];simp only [bool_to_prop,Zyj,Zyw,Zyx,Zyy,Zyz];omega))|skip)
     ·rw [Zx4 w3]
      have w4:(k=2∧ok=true)∨(k≠2∧no=true):=by
       by_cases hk:k=2
       ·cases ok
        ·exact absurd (.inl ⟨hk,rfl⟩) w3
        ·exact .inl ⟨hk,rfl⟩
       ·cases no
        ·exact absurd (.inr ⟨hk,rfl⟩) w3
        ·exact .inr ⟨hk,rfl⟩
      clear w3;by_cases w5:nm.size=0
      ·rw [Zx5 w5];rw [Zx8 w5] at hst;rcases w4 with⟨hk,rfl⟩ | ⟨hk,rfl⟩
       ·subst hk;refine pI func158 rfl ntmps158 results158 call158 ?_;(focus (refine wkax (w_4 hg hlm hla hst) (w_2 ca cr) w_t (w_1 c1) w_t w_t w_y (w_r 0) ?_;(repeat' first|exact w_t|apply w_l);all_goals intros))
        (all_goals (try simp (disch:=omega) only [go_sem,Zx8,Zx6,Zx5,Zx4,Int.reduceAdd,Int.reduceSub,Int.reduceToNat,Zyh]));(all_goals first|done|rfl|(congr 2;first|done|omega|(rw [Zyn];simp only [bool_to_prop,Zyj,Zyw,Zyx,Zyy,Zyz];omega))|skip)
       ·refine pI func158 rfl ntmps158 results158 call158 ?_;(focus (refine wkax (w_4 hg hlm hla hst) (w_2 ca cn) w_t (w_1 c1) w_t w_t w_y (w_r 0) ?_;(repeat' first|exact w_t|apply w_l);all_goals intros))
        (all_goals (try simp (disch:=omega) only [go_sem,Zx8,Zx6,Zx5,Zx4,Int.reduceAdd,Int.reduceSub,Int.reduceToNat,Zyh]));(all_goals first|done|rfl|(congr 2;first|done|omega|(rw [Zyn];simp only [bool_to_prop,Zyj,Zyw,Zyx,Zyy,Zyz];omega))|skip)
      ·rw [Zx4 w5];rw [Zx6 w5] at hst
       cases nb with
       | false =>
         rw [Zx5 rfl];rcases w4 with⟨hk,rfl⟩ | ⟨hk,rfl⟩
         ·subst hk;refine pI func158 rfl ntmps158 results158 call158 ?_;(focus (refine wkax (w_4 hg hlm hla hst) (w_3 ca cr cm) w_t (w_1 c1) w_t w_t w_y (w_r 0) ?_;(repeat' first|exact w_t|apply w_l);all_goals intros))
          (all_goals (try simp (disch:=omega) only [go_sem,Zx8,Zx6,Zx5,Zx4,Int.reduceAdd,Int.reduceSub,Int.reduceToNat,Zyh]));(all_goals first|done|rfl|(congr 2;first|done|omega|(rw [Zyn];simp only [bool_to_prop,Zyj,Zyw,Zyx,Zyy,Zyz];omega))|skip)
         ·refine pI func158 rfl ntmps158 results158 call158 ?_;(focus (refine wkax (w_4 hg hlm hla hst) (w_3 ca cn cm) w_t (w_1 c1) w_t w_t w_y (w_r 0) ?_;(repeat' first|exact w_t|apply w_l);all_goals intros))
          (all_goals (try simp (disch:=omega) only [go_sem,Zx8,Zx6,Zx5,Zx4,Int.reduceAdd,Int.reduceSub,Int.reduceToNat,Zyh]));(all_goals first|done|rfl|(congr 2;first|done|omega|(rw [Zyn];simp only [bool_to_prop,Zyj,Zyw,Zyx,Zyy,Zyz];omega))|skip)
       | true =>
         rw [Zx4 zd];rcases w4 with⟨hk,rfl⟩ | ⟨hk,rfl⟩
         ·subst hk;cases any
          ·refine pI func158 rfl ntmps158 results158 call158 ?_;(focus (refine wkax (w_5 hg hlm hla hst @Zf9) (w_3 ca cr cm) w_t (w_2 c1 c2) w_t w_t w_y (w_r 0) ?_;(repeat' first|exact w_t|apply w_l);all_goals intros))
           (all_goals (try simp (disch:=omega) only [go_sem,Zx8,Zx6,Zx5,Zx4,Int.reduceAdd,Int.reduceSub,Int.reduceToNat,Zyh]));(all_goals first|done|rfl|(congr 2;first|done|omega|(rw [Zyn];simp only [bool_to_prop,Zyj,Zyw,Zyx,Zyy,Zyz];omega))|skip)
          ·refine pI func158 rfl ntmps158 results158 call158 ?_;(focus (refine wkax (w_5 hg hlm hla hst @Zf9) (w_3 ca cr cm) w_t (w_2 c1 c2) w_t w_t w_y (w_r 0) ?_;(repeat' first|exact w_t|apply w_l);all_goals intros))
           (all_goals (try simp (disch:=omega) only [go_sem,Zx8,Zx6,Zx5,Zx4,Int.reduceAdd,Int.reduceSub,Int.reduceToNat,Zyh]));(all_goals first|done|rfl|(congr 2;first|done|omega|(rw [Zyn];simp only [bool_to_prop,Zyj,Zyw,Zyx,Zyy,Zyz];omega))|skip)
         ·cases any
          ·refine pI func158 rfl ntmps158 results158 call158 ?_;(focus (refine wkax (w_5 hg hlm hla hst @Zf9) (w_3 ca cn cm) w_t (w_2 c1 c2) w_t w_t w_y (w_r 0) ?_;(repeat' first|exact w_t|apply w_l);all_goals intros))
           (all_goals (try simp (disch:=omega) only [go_sem,Zx8,Zx6,Zx5,Zx4,Int.reduceAdd,Int.reduceSub,Int.reduceToNat,Zyh]));(all_goals first|done|rfl|(congr 2;first|done|omega|(rw [Zyn];simp only [bool_to_prop,Zyj,Zyw,Zyx,Zyy,Zyz];omega))|skip)
          ·refine pI func158 rfl ntmps158 results158 call158 ?_;(focus (refine wkax (w_5 hg hlm hla hst @Zf9) (w_3 ca cn cm) w_t (w_2 c1 c2) w_t w_t w_y (w_r 0) ?_;(repeat' first|exact w_t|apply w_l);all_goals intros))
           (all_goals (try simp (disch:=omega) only [go_sem,Zx8,Zx6,Zx5,Zx4,Int.reduceAdd,Int.reduceSub,Int.reduceToNat,Zyh]));(all_goals first|done|rfl|(congr 2;first|done|omega|(rw [Zyn];simp only [bool_to_prop,Zyj,Zyw,Zyx,Zyy,Zyz];omega))|skip)
theorem Zki {n:Int} {l:List Int} {k:Nat} (hk:k < l.length):outB n (l.take (k+1))=(outB n (l.take k) || (decide (l[k] < 0) || decide (n≤l[k]))):=by
 unfold outB;rw [ZAy hk,List.any_append,List.any_cons,List.any_nil,Bool.or_false]
theorem Zqj {n:Int} {l:List Int} {k:Nat} (hk:k < l.length) (h:(decide (l[k] < 0) || decide (n≤l[k]))=true):outB n l=true:=List.any_eq_true.2 ⟨l[k],Zyl hk,h⟩
theorem prRight (g:RG) (n:Nat) (hn:n≤1000000000) (hs:g.sm):Pure prog 159 [g.av,iv n] (iv (errG g n)):=by
 obtain⟨h1,h3⟩:=hs;unfold errG;have ca:=prAr g.k;have cr:Pure prog 215 [g.r.av] (.v (.bool g.r.ok)):=Zu8 g.r h1;have cn:=prNone g.r;have hla:(g.ar.map iv).length=g.ar.length:=Zx9 ..;obtain⟨k,ar,r,rl,rd⟩:=g;simp only at *;generalize arG k=a at *;generalize RQ.ok ⟨r,rl,rd⟩=ok at *;generalize RQ.none ⟨r,rl,rd⟩=no at *;by_cases w1:a=0
 ·rw [Zx5 w1];subst w1;refine pI func159 rfl ntmps159 results159 call159 ?_;(focus (refine wklp (w_1 hla) (w_1 ca) w_t (w_r 0) ?_;(repeat' first|exact w_t|apply w_l);all_goals intros))
 ·rw [Zx4 w1];by_cases w2:(ar.length:Int)≠a
  ·rw [Zx5 w2];refine pI func159 rfl ntmps159 results159 call159 ?_;(focus (refine wklp (w_1 hla) (w_1 ca) w_t (w_r 0) ?_;(repeat' first|exact w_t|apply w_l);all_goals intros))
  ·rw [Zx4 w2];refine pI func159 rfl ntmps159 results159 call159 ?_;(focus (refine wkap (w_1 hla) (w_1 ca) (w_r 0) ?_;(repeat' first|exact w_t|apply w_l);all_goals intros));rename_i g2;refine Zad (ι:=Nat) (λi e m=>i≤ar.length∧e 1=iv n∧e 2=.pbox 2 g2 0∧m 2=some (.box g2 78 [iv k,ivs ar,.v (.bool r),lim rl,lim rd] false)∧e 19=ivs ar∧e 20=iv ar.length∧e 21=iv i∧outB n (ar.take i)=false) (λi=>ar.length - i) 0 zr ?_ ?_
   ·rintro i e m ⟨hi,e1,e2,m2,ea,en,ei,hno⟩
    by_cases hlt:i < ar.length
    ·have hg:=Zaj iv hlt;have hst:=Zki (n:=n) hlt;have hat:=Zqj (n:=n) hlt;rw [hno,Bool.false_or] at hst;generalize ar[i]=x at *;by_cases hx:x < 0∨(n:Int)≤x
     ·have hb:(decide (x < 0) || decide ((n:Int)≤x))=true:=by simpa using hx
      rw [Zx5 (hat hb)];clear hat hst hb;rcases hx with hx | hx
      ·(focus (refine wklp (w_8 e1 e2 m2 ea en ei hg hla) w_t w_t (w_r 0) ?_;(repeat' first|exact w_t|apply w_l);all_goals intros))
      ·(focus (refine wklp (w_8 e1 e2 m2 ea en ei hg hla) w_t w_t (w_r 0) ?_;(repeat' first|exact w_t|apply w_l);all_goals intros))
     ·have hb:(decide (x < 0) || decide ((n:Int)≤x))=false:=by simpa using hx
      rw [hb] at hst;clear hat hb;(focus (refine wkap (w_8 e1 e2 m2 ea en ei hg hla) w_t (w_r 0) ?_;(repeat' first|exact w_t|apply w_l);all_goals intros));exact⟨i+1,⟨zo,gW e1,gW e2,gW m2,gW ea,gW en,gS,hst⟩,zo⟩
    ·have hi2:i=ar.length:=zo;subst hi2;rw [Zy7] at hno;rw [hno,Zx4 zd];by_cases hk:k=9
     ·subst hk;cases ok
      ·rw [Zx5 zs];(focus (refine wklp (w_7 e1 e2 m2 ea en ei hla) (w_2 cr cn) w_t (w_r 0) ?_;(repeat' first|exact w_t|apply w_l);all_goals intros))
      ·rw [Zx4 zs];(focus (refine wklp (w_7 e1 e2 m2 ea en ei hla) (w_2 cr cn) w_t (w_r 0) ?_;(repeat' first|exact w_t|apply w_l);all_goals intros))
     ·cases no
      ·rw [Zx5 (by simp [hk])];(focus (refine wklp (w_7 e1 e2 m2 ea en ei hla) (w_2 cr cn) w_t (w_r 0) ?_;(repeat' first|exact w_t|apply w_l);all_goals intros))
      ·rw [Zx4 (by simp [hk])];(focus (refine wklp (w_7 e1 e2 m2 ea en ei hla) (w_2 cr cn) w_t (w_r 0) ?_;(repeat' first|exact w_t|apply w_l);all_goals intros))
   ·exact⟨Zyi _,gC,gC,gC,gC,gW hla,gC,by simp [outB]⟩
theorem rrRight (g:RG) (n:Nat) (hn:n≤1000000000) (hs:g.sm):Pure prog 60 [g.av,iv n] (iv (errG g n)):=by
 obtain⟨h1,h3⟩:=hs;unfold errG;have ca:=rrAr g.k;have cr:Pure prog 21 [g.r.av] (.v (.bool g.r.ok)):=Zvr g.r.s g.r.l g.r.d h1.1 h1.2.1 (Zye h1.2.2.1 zd) (Zye h1.2.2.2 zd);have cn:=rrNone g.r;have hla:(g.ar.map iv).length=g.ar.length:=Zx9 ..;obtain⟨k,ar,r,rl,rd⟩:=g;simp only at *;generalize arG k=a at *;generalize RQ.ok ⟨r,rl,rd⟩=ok at *;generalize RQ.none ⟨r,rl,rd⟩=no at *;by_cases w1:a=0
 ·rw [Zx5 w1];subst w1;refine pI func60 rfl ntmps60 results60 call60 ?_;exact wkld (w_1 hla) (w_1 ca) w_t w_t w_z
 ·rw [Zx4 w1];by_cases w2:(ar.length:Int)≠a
  ·rw [Zx5 w2];refine pI func60 rfl ntmps60 results60 call60 ?_;exact wkld (w_1 hla) (w_1 ca) w_t (w_1 (w_d 3 [(5,iv a)] [] [])) w_z
  ·rw [Zx4 w2];refine pI func60 rfl ntmps60 results60 call60 ?_
   (refine wkad (w_1 hla) (w_1 ca) (w_1 (w_d 3 [(5,iv a)] [] [])) (w_s ?_);intros)
   rename_i g2;refine Zad (ι:=Nat) (λi e m=>i≤ar.length∧e 1=iv n∧e 2=.pbox 2 g2 0∧m 2=some (.box g2 78 [iv k,ivs ar,.v (.bool r),lim rl,lim rd] false)∧e 19=ivs ar∧e 20=iv ar.length∧e 21=iv i∧outB n (ar.take i)=false) (λi=>ar.length - i) 0 zr ?_ ?_
   ·rintro i e m ⟨hi,e1,e2,m2,ea,en,ei,hno⟩
    by_cases hlt:i < ar.length
    ·have hg:=Zaj iv hlt;have hst:=Zki (n:=n) hlt;have hat:=Zqj (n:=n) hlt;rw [hno,Bool.false_or] at hst;generalize ar[i]=x at *;by_cases hx:x < 0∨(n:Int)≤x
     ·have hb:(decide (x < 0) || decide ((n:Int)≤x))=true:=by simpa using hx
      rw [Zx5 (hat hb)];clear hat hst hb;rcases hx with hx | hx
      ·exact wkld (w_8 e1 e2 m2 ea en ei hg hla) w_t w_t w_t w_z
      ·exact wkld (w_8 e1 e2 m2 ea en ei hg hla) w_t w_t w_t w_z
     ·have hb:(decide (x < 0) || decide ((n:Int)≤x))=false:=by simpa using hx
      rw [hb] at hst;clear hat hb
      (refine wkad (w_8 e1 e2 m2 ea en ei hg hla) w_t w_t (w_s ?_);intros)
      exact⟨i+1,⟨zo,gW e1,gW e2,gW m2,gW ea,gW en,gS,hst⟩,zo⟩
    ·have hi2:i=ar.length:=zo;subst hi2;rw [Zy7] at hno;rw [hno,Zx4 zd];by_cases hk:k=9
     ·subst hk;cases ok
      ·rw [Zx5 zs];exact wkld (w_7 e1 e2 m2 ea en ei hla) (w_2 cr cn) w_t w_t w_z
      ·rw [Zx4 zs];exact wkld (w_7 e1 e2 m2 ea en ei hla) (w_2 cr cn) w_t w_t w_z
     ·cases no
      ·rw [Zx5 (by simp [hk])];exact wkld (w_7 e1 e2 m2 ea en ei hla) (w_2 cr cn) w_t w_t w_z
      ·rw [Zx4 (by simp [hk])];exact wkld (w_7 e1 e2 m2 ea en ei hla) (w_2 cr cn) w_t w_t w_z
   ·exact⟨Zyi _,gC,gC,gC,gC,gW hla,gC,by simp [outB]⟩
theorem Zws (ss:List RS) (gs:List RG) (h1:ss.length≤1000000000) (h2:gs.length≤1000000000) (hs:∀s∈ss,s.sm) (hg:∀g∈gs,g.sm):Pure prog 103 [figA ss gs] (iv (figE ss gs)):=by
 have hls:(ss.map RS.av).length=ss.length:=Zx9 ..;have hlg:(gs.map RG.av).length=gs.length:=Zx9 ..;have eg:∀i (h:i < gs.length),(gs.map RG.av).getD i .u=gs[i].av:=λi h=>Zaj RG.av h;have eg2:∀i (h:i < gs.length),gs.getD i ⟨0,[],⟨false,[],[]⟩⟩=gs[i]:=λi h=>by rw [Zyg,Zyf h];rfl
 have cc:∀i,i < ss.length→Pure prog 158 [.sl 6 (ss.map RS.av),iv i] (iv (errS ss i)):=λi hi=>lwCheck ss i hi h1 hs;have cg:∀i (h:i < gs.length),Pure prog 159 [gs[i].av,iv ss.length] (iv (errG gs[i] ss.length)):=λi h=>prRight gs[i] ss.length h1 (hg _ (Zyl h));unfold figE;show Pure _ _ [.agg [.sl 6 (ss.map RS.av),.sl 5 (gs.map RG.av)]] _;generalize ss.map RS.av=M at *;generalize gs.map RG.av=N at *;by_cases hb:40 < ss.length∨8 < gs.length
 ·rw [Zx5 hb];refine pI func103 rfl ntmps103 results103 call103 ?_;(focus (refine wklp (w_2 hls hlg) w_t w_t (w_r 0) ?_;(repeat' first|exact w_t|apply w_l);all_goals intros))
 ·rw [Zx4 hb];refine pI func103 rfl ntmps103 results103 call103 ?_;(focus (refine wkap (w_2 hls hlg) w_t (w_r 0) ?_;(repeat' first|exact w_t|apply w_l);all_goals intros));rename_i g1;refine Zad (ι:=Nat) (λi e m=>i≤ss.length∧e 1=.pbox 1 g1 0∧m 1=some (.box g1 25 [.sl 6 M,.sl 5 N] false)∧e 20=iv ss.length∧e 21=iv i∧∀j,j < i→errS ss j=0) (λi=>ss.length - i) 0 zr ?_ ?_
  ·rintro i e m ⟨hi,e1,m1,e20,e21,hz⟩
   by_cases hlt:i < ss.length
   ·have c:=cc i hlt;by_cases he:errS ss i=0
    ·rw [he] at c;(focus (refine wkap (w_6 e1 m1 e20 e21 hls hlg) (w_1 c) (w_r 0) ?_;(repeat' first|exact w_t|apply w_l);all_goals intros));exact⟨i+1,⟨zo,gW e1,gW m1,gW e20,gS,λj hj=>by by_cases e:j=i;rw [e];exact he;exact hz j zo⟩,zo⟩
    ·rw [Zks hz he hlt,Zx5 he];generalize errS ss i=z at *;(focus (refine wklp (w_6 e1 m1 e20 e21 hls hlg) (w_1 c) w_t (w_r 0) ?_;(repeat' first|exact w_t|apply w_l);all_goals intros))
   ·have hi2:i=ss.length:=zo;subst hi2;rw [Zf0 hz,Zx4 zs];(focus (refine wkap (w_6 e1 m1 e20 e21 hls hlg) w_t (w_r 0) ?_;(repeat' first|exact w_t|apply w_l);all_goals intros));refine Zad (ι:=Nat) (λi e m=>i≤gs.length∧e 1=.pbox 1 g1 0∧m 1=some (.box g1 25 [.sl 6 M,.sl 5 N] false)∧e 33=.sl 5 N∧e 34=iv gs.length∧e 35=iv i∧∀j,j < i→errG (gs.getD j ⟨0,[],⟨false,[],[]⟩⟩) ss.length=0) (λi=>gs.length - i) 0 zr ?_ ?_
    ·rintro i e m ⟨hi,e1,m1,e33,e34,e35,hz⟩
     by_cases hlt:i < gs.length
     ·have c:=cg i hlt;have hgi:=eg i hlt;have hgj:=eg2 i hlt;have hfa:=@Zks (λi=>errG (gs.getD i ⟨0,[],⟨false,[],[]⟩⟩) ss.length) i hz;simp only [hgj] at hfa;generalize gs[i]=G at *;by_cases he:errG G ss.length=0
      ·rw [he] at c;clear hfa;obtain⟨k,ar,r,rl,rd⟩:=G;(focus (refine wkap (w_8 e1 m1 e33 e34 e35 hls hlg hgi) (w_1 c) (w_r 0) ?_;(repeat' first|exact w_t|apply w_l);all_goals intros));exact⟨i+1,⟨zo,gW e1,gW m1,gW e33,gW e34,gS,λj hj=>by by_cases e:j=i;rw [e,hgj];exact he;exact hz j zo⟩,zo⟩
      ·rw [hfa he hlt];clear hfa;generalize errG G ss.length=z at *;obtain⟨k,ar,r,rl,rd⟩:=G;(focus (refine wklp (w_8 e1 m1 e33 e34 e35 hls hlg hgi) (w_1 c) w_t (w_r 0) ?_;(repeat' first|exact w_t|apply w_l);all_goals intros))
     ·have hi2:i=gs.length:=zo;subst hi2;rw [Zf0 hz];(focus (refine wklp (w_7 e1 m1 e33 e34 e35 hls hlg) w_t w_t (w_r 0) ?_;(repeat' first|exact w_t|apply w_l);all_goals intros))
    ·exact⟨Zyi _,gW e1,gW m1,gC,gW hlg,gC,λj hj=>zo⟩
  ·exact⟨Zyi _,gC,gC,gW hls,gC,λj hj=>zo⟩
theorem rlCheck (ss:List RS) (i:Nat) (hi:i < ss.length) (hl:ss.length≤1000000000) (hs:∀s∈ss,s.sm):Pure prog 59 [.sl 6 (ss.map RS.av),iv i] (iv (errS ss i)):=by
 have hg:=Zaj RS.av hi;have hsm:=hs _ (Zyl hi);unfold errS;rw [show ss.getD i RS.zero=ss[i] from by rw [Zyg,Zyf hi];rfl];have hgt:∀k,k < i→∃t:RS,((ss.map RS.av).take i).getD k .u=t.av∧(ss.take i)[k]?=some t:=λk hk=>by
  refine⟨ss[k],?_,?_⟩
  ·rw [Zyg,ZAc,Zx5 hk,Zzt,Zyf zo];rfl
  ·rw [ZAc,Zx5 hk,Zyf zo]
 have hlm:(ss.map RS.av).length=ss.length:=Zx9 ..;have hlt:(ss.take i).length=i:=by rw [Zyp];omega
 generalize ss.map RS.av=M at *;generalize ss[i]=s at *;generalize ss.take i=T at *;clear hs;obtain⟨h1,h2,h3⟩:=hsm;have ca:=rlAr s.k;have cr:Pure prog 21 [s.r.av] (.v (.bool s.r.ok)):=Zvr s.r.s s.r.l s.r.d h1.1 h1.2.1 (Zye h1.2.2.1 zd) (Zye h1.2.2.2 zd);have cn:=rlNone s.r;have cm:=rnName s.nm h2;have hst:=Zl6 s.nm;have hla:(s.ar.map iv).length=s.ar.length:=Zx9 ..;obtain⟨k,nm,ar,r,rl,rd⟩:=s;simp only at *;generalize arS k=a at *;generalize RQ.ok ⟨r,rl,rd⟩=ok at *;generalize RQ.none ⟨r,rl,rd⟩=no at *;generalize namB nm=nb at *;by_cases w1:a < 0
 ·rw [Zx5 w1];refine pI func59 rfl ntmps59 results59 call59 ?_;exact wkld (w_3 hg hlm hla) (w_1 ca) w_t w_t w_z
 ·rw [Zx4 w1];by_cases w2:(ar.length:Int)≠a
  ·rw [Zx5 w2];refine pI func59 rfl ntmps59 results59 call59 ?_;exact wkld (w_3 hg hlm hla) (w_1 ca) w_t (w_1 (w_d 4 [(5,iv a)] [] [])) w_z
  ·rw [Zx4 w2];refine pI func59 rfl ntmps59 results59 call59 ?_
   (refine wkad (w_3 hg hlm hla) (w_1 ca) (w_1 (w_d 4 [(5,iv a)] [] [])) (w_s ?_);intros)
   rename_i g5;refine Zad (ι:=Nat) (λx e m=>x≤ar.length∧e 0=.sl 6 M∧e 1=iv i∧e 5=.pbox 5 g5 0∧m 5=some (.box g5 76 [iv k,strA nm,ivs ar,.v (.bool r),lim rl,lim rd] false)∧e 26=ivs ar∧e 27=iv ar.length∧e 28=iv x∧outB i (ar.take x)=false) (λx=>ar.length - x) 0 zr ?_ ?_
   ·rintro x e m ⟨hx,e0,e1,e5,m5,e26,e27,e28,hno⟩
    by_cases hlt2:x < ar.length
    ·have hga:=Zaj iv hlt2;have hso:=Zki (n:=(i:Int)) hlt2;have hat:=Zqj (n:=(i:Int)) hlt2;rw [hno,Bool.false_or] at hso;generalize ar[x]=y at *;by_cases hy:y < 0∨(i:Int)≤y
     ·have hb:(decide (y < 0) || decide ((i:Int)≤y))=true:=by simpa using hy
      rw [Zx5 (hat hb)];clear hat hso hb;rcases hy with hy | hy
      ·exact wkld (w_9 e0 e1 e5 m5 e26 e27 e28 hga hla) w_t w_t w_t w_z
      ·exact wkld (w_9 e0 e1 e5 m5 e26 e27 e28 hga hla) w_t w_t w_t w_z
     ·have hb:(decide (y < 0) || decide ((i:Int)≤y))=false:=by simpa using hy
      rw [hb] at hso;clear hat hb
      (refine wkad (w_9 e0 e1 e5 m5 e26 e27 e28 hga hla) w_t w_t (w_s ?_);intros)
      exact⟨x+1,⟨zo,gW e0,gW e1,gW e5,gW m5,gW e26,gW e27,gS,hso⟩,zo⟩
    ·have hi2:x=ar.length:=zo;subst hi2;rw [Zy7] at hno;rw [hno,Zx4 zd];by_cases w3:(k=2∧ok=false)∨(k≠2∧no=false)
     ·rw [Zx5 w3];rcases w3 with⟨hk,rfl⟩ | ⟨hk,rfl⟩
      ·subst hk;exact wkld (w_8 e0 e1 e5 m5 e26 e27 e28 hla) (w_1 cr) w_t w_t w_z
      ·exact wkld (w_8 e0 e1 e5 m5 e26 e27 e28 hla) (w_1 cn) w_t w_t w_z
     ·rw [Zx4 w3]
      have w4:(k=2∧ok=true)∨(k≠2∧no=true):=by
       by_cases hk:k=2
       ·cases ok
        ·exact absurd (.inl ⟨hk,rfl⟩) w3
        ·exact .inl ⟨hk,rfl⟩
       ·cases no
        ·exact absurd (.inr ⟨hk,rfl⟩) w3
        ·exact .inr ⟨hk,rfl⟩
      clear w3;have rest:∀(e:Nat→AV) (m:Mem),e 0=.sl 6 M→e 1=iv i→e 5=.pbox 5 g5 0→m 5=some (.box g5 76 [iv k,strA nm,ivs ar,.v (.bool r),lim rl,lim rd] false)→True:=λ_ _ _ _ _ _=>trivial;clear rest;by_cases w5:nm.size=0
      ·rw [Zx5 w5];rw [Zx8 w5] at hst;rcases w4 with⟨hk,rfl⟩ | ⟨hk,rfl⟩
       ·subst hk;exact wkld (w_9 e0 e1 e5 m5 e26 e27 e28 hla hst) (w_1 cr) w_t w_t w_z
       ·exact wkld (w_9 e0 e1 e5 m5 e26 e27 e28 hla hst) (w_1 cn) w_t w_t w_z
      ·rw [Zx4 w5];rw [Zx6 w5] at hst
       cases nb with
       | false =>
         rw [Zx5 rfl];rcases w4 with⟨hk,rfl⟩ | ⟨hk,rfl⟩
         ·subst hk;exact wkld (w_9 e0 e1 e5 m5 e26 e27 e28 hla hst) (w_2 cr cm) w_t w_t w_z
         ·exact wkld (w_9 e0 e1 e5 m5 e26 e27 e28 hla hst) (w_2 cn cm) w_t w_t w_z
       | true =>
         rw [Zx4 zd];rcases w4 with⟨hk,rfl⟩ | ⟨hk,rfl⟩
         all_goals first|(subst hk;(refine wkad (w_12 e0 e1 e5 m5 e26 e27 e28 hla hlm hst @Zf9 @Zsk) (w_2 cr cm) w_t (w_s ?_);intros))|(refine wkad (w_12 e0 e1 e5 m5 e26 e27 e28 hla hlm hst @Zf9 @Zsk) (w_2 cn cm) w_t (w_s ?_);intros)
         all_goals
          refine Zad (ι:=Nat) (λx e m=>x≤i∧e 5=.pbox 5 g5 0∧(∃k,m 5=some (.box g5 76 [iv k,strA nm,ivs ar,.v (.bool r),lim rl,lim rd] false))∧e 69=.sl 6 (M.take i)∧e 70=iv i∧e 71=iv x∧(T.take x).any (λt=>t.nm.toList == nm.toList)=false) (λx=>i - x) 0 zr ?_ ?_
          ·rintro x e m ⟨hx,e5,⟨k,m5⟩,e69,e70,e71,hnq⟩
           by_cases hlt2:x < i
           ·obtain⟨t,ht,ht2⟩:=hgt x hlt2;have htl:x < T.length:=zo;have htx:T[x]=t:=by rw [Zyf htl] at ht2;cases ht2;rfl
            have hsn:T.take (x+1)=T.take x++[t]:=by rw [ZAy htl,htx]
            have hmem:t∈T:=by rw [←htx];exact Zyl htl
            obtain⟨tk,tn,ta,tr,tl,td⟩:=t;have hll:(M.take i).length=i:=by rw [Zyp];omega
            cases hw:(tn.toList == nm.toList) with
            | true =>
              have hany:T.any (λt=>t.nm.toList == nm.toList)=true:=List.any_eq_true.2 ⟨_,hmem,hw⟩;rw [Zx5 hany];exact wkld (w_8 e5 m5 e69 e70 e71 ht hw hll) w_t w_t w_t w_z
            | false =>
              (refine wkad (w_8 e5 m5 e69 e70 e71 ht hw hll) w_t w_t (w_s ?_);intros)
              exact⟨x+1,⟨zo,gW e5,⟨k,gW m5⟩,gW e69,gW e70,gS,by rw [hsn,List.any_append,hnq];simp [hw]⟩,zo⟩
           ·have hxi:x=i:=zo;subst hxi;rw [show T.take x=T from by rw [←hlt,Zy7]] at hnq;rw [hnq,Zx4 zd];exact wkld (w_5 e5 m5 e69 e70 e71) w_t w_t w_t w_z
          ·exact⟨Zyi _,gW e5,⟨_,gW m5⟩,gC,by(simp (disch:=omega) only [go_sem,Zyp,hlm,ZAf]<;>repeat' first|rfl|refine⟨?_,?_⟩),gC,by simp⟩
   ·exact⟨Zyi _,gC,gC,gC,gC,gC,gW hla,gC,by simp [outB]⟩
theorem rlRight (ss:List RS) (gs:List RG) (h1:ss.length≤1000000000) (h2:gs.length≤1000000000) (hs:∀s∈ss,s.sm) (hg:∀g∈gs,g.sm):Pure prog 19 [figA ss gs] (iv (figE ss gs)):=by
 have hls:(ss.map RS.av).length=ss.length:=Zx9 ..;have hlg:(gs.map RG.av).length=gs.length:=Zx9 ..;have eg:∀i (h:i < gs.length),(gs.map RG.av).getD i .u=gs[i].av:=λi h=>Zaj RG.av h;have eg2:∀i (h:i < gs.length),gs.getD i ⟨0,[],⟨false,[],[]⟩⟩=gs[i]:=λi h=>by rw [Zyg,Zyf h];rfl
 have cc:∀i,i < ss.length→Pure prog 59 [.sl 6 (ss.map RS.av),iv i] (iv (errS ss i)):=λi hi=>rlCheck ss i hi h1 hs;have cg:∀i (h:i < gs.length),Pure prog 60 [gs[i].av,iv ss.length] (iv (errG gs[i] ss.length)):=λi h=>rrRight gs[i] ss.length h1 (hg _ (Zyl h));unfold figE;show Pure _ _ [.agg [.sl 6 (ss.map RS.av),.sl 5 (gs.map RG.av)]] _;generalize ss.map RS.av=M at *;generalize gs.map RG.av=N at *;by_cases hb:40 < ss.length∨8 < gs.length
 ·rw [Zx5 hb];refine pI func19 rfl ntmps19 results19 call19 ?_;exact wklp (w_2 hls hlg) w_t w_t (w_r 0) w_z
 ·rw [Zx4 hb];refine pI func19 rfl ntmps19 results19 call19 ?_
  (refine wkap (w_2 hls hlg) w_t (w_r 0) (w_s ?_);intros)
  rename_i g1;refine Zad (ι:=Nat) (λi e m=>i≤ss.length∧e 1=.pbox 1 g1 0∧m 1=some (.box g1 25 [.sl 6 M,.sl 5 N] false)∧e 20=iv ss.length∧e 21=iv i∧∀j,j < i→errS ss j=0) (λi=>ss.length - i) 0 zr ?_ ?_
  ·rintro i e m ⟨hi,e1,m1,e20,e21,hz⟩
   by_cases hlt:i < ss.length
   ·have c:=cc i hlt;by_cases he:errS ss i=0
    ·rw [he] at c
     (refine wkap (w_6 e1 m1 e20 e21 hls hlg) (w_1 c) (w_r 0) (w_s ?_);intros)
     exact⟨i+1,⟨zo,gW e1,gW m1,gW e20,gS,λj hj=>by by_cases e:j=i;rw [e];exact he;exact hz j zo⟩,zo⟩
    ·rw [Zks hz he hlt,Zx5 he];generalize errS ss i=z at *;exact wklp (w_6 e1 m1 e20 e21 hls hlg) (w_1 c) w_t (w_r 0) w_z
   ·have hi2:i=ss.length:=zo;subst hi2;rw [Zf0 hz,Zx4 zs]
    (refine wkap (w_6 e1 m1 e20 e21 hls hlg) w_t (w_r 0) (w_s ?_);intros)
    refine Zad (ι:=Nat) (λi e m=>i≤gs.length∧e 1=.pbox 1 g1 0∧m 1=some (.box g1 25 [.sl 6 M,.sl 5 N] false)∧e 33=.sl 5 N∧e 34=iv gs.length∧e 35=iv i∧∀j,j < i→errG (gs.getD j ⟨0,[],⟨false,[],[]⟩⟩) ss.length=0) (λi=>gs.length - i) 0 zr ?_ ?_
    ·rintro i e m ⟨hi,e1,m1,e33,e34,e35,hz⟩
     by_cases hlt:i < gs.length
     ·have c:=cg i hlt;have hgi:=eg i hlt;have hgj:=eg2 i hlt;have hfa:=@Zks (λi=>errG (gs.getD i ⟨0,[],⟨false,[],[]⟩⟩) ss.length) i hz;simp only [hgj] at hfa;generalize gs[i]=G at *;by_cases he:errG G ss.length=0
      ·rw [he] at c;clear hfa;obtain⟨k,ar,r,rl,rd⟩:=G
       (refine wkap (w_8 e1 m1 e33 e34 e35 hls hlg hgi) (w_1 c) (w_r 0) (w_s ?_);intros)
       exact⟨i+1,⟨zo,gW e1,gW m1,gW e33,gW e34,gS,λj hj=>by by_cases e:j=i;rw [e,hgj];exact he;exact hz j zo⟩,zo⟩
      ·rw [hfa he hlt];clear hfa;generalize errG G ss.length=z at *;obtain⟨k,ar,r,rl,rd⟩:=G;exact wklp (w_8 e1 m1 e33 e34 e35 hls hlg hgi) (w_1 c) w_t (w_r 0) w_z
     ·have hi2:i=gs.length:=zo;subst hi2;rw [Zf0 hz];exact wklp (w_7 e1 m1 e33 e34 e35 hls hlg) w_t w_t (w_r 0) w_z
    ·exact⟨Zyi _,gW e1,gW m1,gC,gW hlg,gC,λj hj=>zo⟩
  ·exact⟨Zyi _,gC,gC,gW hls,gC,λj hj=>zo⟩
attribute [go_sem] underlying106 underlying38 underlying98 underlying37 underlying40 underlying165 underlying167 underlying163 underlying200 zVar zSlV zSlC zFnC
attribute [local go_sem] Zdb Zdd Zcp Za4 Za6 Zb1 Zc1 Zaz Zbk Zc3 Zc9 Ze4 Zc2 Zc8 Ze3 Zde Zff Zfg
theorem Sub.nil (m:Nat):Sub (.v (.slice none 0 0)) (.sl m []):=λw imm x h=>by
 rw [h.v_inv];exact .pure ((Wk.nil m).rd (.v _))
theorem Zec (σ:Mem) (KB KC KV g:Nat) (svC svV:Value) (vs:List Vt) (fr:Nat) (kind step number:Int) (hB:σ KB=some (.box g 165 [.own KC svC,.own KV svV,iv fr] false)) (hV:σ KV=some (.row svV 106 3 (vs.map Vt.av) 0)) (hl:vs.length≤200) (hBV:KB≠KV) :
 ACall prog 169 [.pbox KB g 0,iv kind,iv step,iv number] σ λr σ'=>∃sv,r=poA (varM vs.length)∧σ'=upd (upd σ KV (some (.row sv 106 3 ((vs++[(kind,step,number)]).map Vt.av) 0))) KB (some (.box g 165 [.own KC svC,.own KV sv,iv fr] false)):=by
 have mB:=Zah hB;have mV:=Zah hV;have cv:=poVar vs.length zo;have hln:(vs.map Vt.av).length=vs.length:=Zx9 ..;have hm1:((vs.length+1:Nat):Int) - 1=(vs.length:Int):=zo;simp only [Ent.sh,AV.shL,AV.sh] at mB mV;simp only [Zys,Zzc,Zy6];refine Zap func169 rfl ntmps169 results169 call169 zr zs ?_;(focus (refine wkap (w_5 mB mV hln hm1 @l_app) (w_1 cv) (w_r 0) ?_;(repeat' first|exact w_t|apply w_l);all_goals intros));simp (disch:=omega) only [go_sem];rename_i sv0 sv1;refine Zd4 (Sub.refl _) ⟨sv1,rfl,rfl⟩ ?_
 (repeat' (first|exact Agr.start _|(refine Agr.own ?_ zo)|(refine Agr.put ?_ rfl rfl)|(refine Agr.mark ?_ zo)|(rw [Zys];rfl)))
theorem Sub.agg2 {a b a' b':AV} (h:Sub a a') (k:Sub b b'):Sub (.agg [a,b]) (.agg [a',b']):=Sub.agg _ _ rfl λj x y h1 h2=>by
 match j with
 | 0=>simp at h1 h2;subst h1;subst h2;exact h
 | 1=>simp at h1 h2;subst h1;subst h2;exact k
 | j+2=>simp at h1
theorem Zc0 {σ:Mem} {k:Nat} {e:Ent} (h:σ k=some e):upd σ k (some e)=σ:=by
 funext j;rw [Zau];split
 ·subst_vars;exact h.symm
 ·rfl
theorem cbPoint (σ:Mem) (KB KC KV g:Nat) (svC svV:Value) (vs:List Vt) (fr:Nat) (i:Nat) (hB:σ KB=some (.box g 165 [.own KC svC,.own KV svV,iv fr] false)) (hV:σ KV=some (.row svV 106 3 (vs.map Vt.av) 0)) (hl:vs.length≤100) (hBV:KB≠KV) (hf:fr≤1000) :
 ACall prog 165 [.pbox KB g 0,iv i] σ λr σ'=>∃sv,r=coA (if fr=0 then ([],[]) else if fr=1 then (varM vs.length,[]) else (varM vs.length,varM (vs.length+1))) ∧
  σ'=upd (upd σ KV (some (.row sv 106 3 ((vs++(if fr=0 then [] else if fr=1 then [(1,(i:Int),0)] else [(1,(i:Int),0),(1,(i:Int),1)])).map Vt.av) 0))) KB (some (.box g 165 [.own KC svC,.own KV sv,iv (fr+1:Nat)] false)):=by
 have mB:=Zah hB;have mV:=Zah hV;simp only [Ent.sh,AV.shL,AV.sh] at mB mV;by_cases h0:fr=0
 ·subst h0;simp only [Zy2,Zzy];refine Zap func165 rfl ntmps165 results165 call165 zr zs ?_;(focus (refine wkap (w_2 mB mV) w_t (w_r 0) ?_;(repeat' first|exact w_t|apply w_l);all_goals intros));simp (disch:=omega) only [go_sem];refine Zd4 (Sub.agg2 (Sub.nil 4) (Sub.nil 4)) ⟨svV,rfl,rfl⟩ ?_;rw [Zc0 hV]
  (repeat' (first|exact Agr.start _|(refine Agr.own ?_ zo)|(refine Agr.put ?_ rfl rfl)|(refine Agr.mark ?_ zo)|(rw [Zys];rfl)))
 ·by_cases h1:fr=1
  ·subst h1;simp only [Zx4 h0,Zy2];refine Zap func165 rfl ntmps165 results165 call165 zr zs ?_;(focus (refine wkap (w_2 mB mV) w_t (w_r 0) ?_;(repeat' first|exact w_t|apply w_l);all_goals intros));refine Zb9 (Zec _ (KB+1000) (KC+1000) (KV+1000) g svC svV vs 2 1 (i:Int) 0 (by(simp (disch:=omega) only [go_sem,mB,mV,Zx4,Zx5]<;>repeat' first|rfl|refine⟨?_,?_⟩)) (by(simp (disch:=omega) only [go_sem,mB,mV,Zx4,Zx5,Zys,Zzc,Zy6]<;>repeat' first|rfl|refine⟨?_,?_⟩)) (by first|omega|(simp;omega)) zo) ?_;intro sv1;(focus (refine wkap (w_2 mB mV) w_t (w_r 0) ?_;(repeat' first|exact w_t|apply w_l);all_goals intros))
   simp (disch:=omega) only [go_sem];refine Zd4 (Sub.agg2 (Sub.refl _) (Sub.nil 4)) ⟨sv1,rfl,rfl⟩ ?_;simp only [Zys,Zzc,Zy6];intro k;by_cases hk1:k=KB
   ·rw [hk1];simp (disch:=omega) only [Zau,Zx5,Zx4,Zze,Ent.sh,AV.shL,AV.sh]
    try rfl
   ·by_cases hk2:k=KV
    ·rw [hk2];simp (disch:=omega) only [Zau,Zx5,Zx4,Zze,Ent.sh,AV.shL,AV.sh]
     try rfl
    ·simp (disch:=omega) only [Zau,Zx4];exact Agr.start σ k
  ·simp only [Zx4 h0,Zx4 h1];have hl1:(vs++[((1:Int),(i:Int),(0:Int))]).length=vs.length+1:=by simp
   refine Zap func165 rfl ntmps165 results165 call165 zr zs ?_;(focus (refine wkap (w_3 mB mV @Zbm) w_t (w_r 0) ?_;(repeat' first|exact w_t|apply w_l);all_goals intros));refine Zb9 (Zec _ (KB+1000) (KC+1000) (KV+1000) g svC svV vs (fr+1) 1 (i:Int) 0 (by(simp (disch:=omega) only [go_sem,mB,mV,Zx4,Zx5]<;>repeat' first|rfl|refine⟨?_,?_⟩)) (by(simp (disch:=omega) only [go_sem,mB,mV,Zx4,Zx5,Zys,Zzc,Zy6]<;>repeat' first|rfl|refine⟨?_,?_⟩)) (by first|omega|(simp;omega)) zo) ?_;intro sv1;(focus (refine wkap (w_3 mB mV @Zbm) w_t (w_r 0) ?_;(repeat' first|exact w_t|apply w_l);all_goals intros))
   refine Zb9 (Zec _ (KB+1000) (KC+1000) (KV+1000) g svC sv1 (vs++[(1,(i:Int),0)]) (fr+1) 1 (i:Int) 1 (by(simp (disch:=omega) only [go_sem,mB,mV,Zx4,Zx5]<;>repeat' first|rfl|refine⟨?_,?_⟩)) (by(simp (disch:=omega) only [go_sem,mB,mV,Zx4,Zx5,Zys,Zzc,Zy6]<;>repeat' first|rfl|refine⟨?_,?_⟩)) (by first|omega|(simp;omega)) zo) ?_;intro sv2;(focus (refine wkap (w_3 mB mV hl1) w_t (w_r 0) ?_;(repeat' first|exact w_t|apply w_l);all_goals intros));simp (disch:=omega) only [go_sem,hl1];refine Zd4 (Sub.refl _) ⟨sv2,rfl,rfl⟩ ?_;simp only [Zzd,ZAu,ZBg]
   intro k;by_cases hk1:k=KB
   ·rw [hk1];simp (disch:=omega) only [Zau,Zx5,Zx4,Zze,Ent.sh,AV.shL,AV.sh]
    try rfl
   ·by_cases hk2:k=KV
    ·rw [hk2];simp (disch:=omega) only [Zau,Zx5,Zx4,Zze,Ent.sh,AV.shL,AV.sh]
     try rfl
    ·simp (disch:=omega) only [Zau,Zx4];exact Agr.start σ k
theorem cbDep (σ:Mem) (KB KC KV g:Nat) (svC svV:Value) (vs:List Vt) (fr:Nat) (i:Nat) (num:Int) (hB:σ KB=some (.box g 165 [.own KC svC,.own KV svV,iv fr] false)) (hV:σ KV=some (.row svV 106 3 (vs.map Vt.av) 0)) (hl:vs.length≤100) (hBV:KB≠KV) (hn:0≤num∧num≤10) :
 ACall prog 171 [.pbox KB g 0,iv i,iv num] σ λr σ'=>∃sv,r=coA (varM vs.length,varM (vs.length+1)) ∧
  σ'=upd (upd σ KV (some (.row sv 106 3 ((vs++[(2,(i:Int),num),(2,(i:Int),num+1)]).map Vt.av) 0))) KB (some (.box g 165 [.own KC svC,.own KV sv,iv fr] false)):=by
 have mB:=Zah hB;have mV:=Zah hV;simp only [Ent.sh,AV.shL,AV.sh] at mB mV;have hl1:(vs++[((2:Int),(i:Int),num)]).length=vs.length+1:=by simp
 refine Zap func171 rfl ntmps171 results171 call171 zr zs ?_;(focus (refine wkap (w_2 mB mV) w_t (w_r 0) ?_;(repeat' first|exact w_t|apply w_l);all_goals intros));refine Zb9 (Zec _ (KB+1000) (KC+1000) (KV+1000) g svC svV vs fr 2 (i:Int) num (by(simp (disch:=omega) only [go_sem,mB,mV,Zx4,Zx5]<;>repeat' first|rfl|refine⟨?_,?_⟩)) (by(simp (disch:=omega) only [go_sem,mB,mV,Zx4,Zx5,Zys,Zzc,Zy6]<;>repeat' first|rfl|refine⟨?_,?_⟩)) (by first|omega|(simp;omega)) zo) ?_;intro sv1;(focus (refine wkap (w_2 mB mV) w_t (w_r 0) ?_;(repeat' first|exact w_t|apply w_l);all_goals intros))
 refine Zb9 (Zec _ (KB+1000) (KC+1000) (KV+1000) g svC sv1 (vs++[(2,(i:Int),num)]) fr 2 (i:Int) (num+1) (by(simp (disch:=omega) only [go_sem,mB,mV,Zx4,Zx5]<;>repeat' first|rfl|refine⟨?_,?_⟩)) (by(simp (disch:=omega) only [go_sem,mB,mV,Zx4,Zx5,Zys,Zzc,Zy6]<;>repeat' first|rfl|refine⟨?_,?_⟩)) (by first|omega|(simp;omega)) zo) ?_;intro sv2;(focus (refine wkap (w_3 mB mV hl1) w_t (w_r 0) ?_;(repeat' first|exact w_t|apply w_l);all_goals intros));simp (disch:=omega) only [go_sem,hl1];refine Zd4 (Sub.refl _) ⟨sv2,rfl,rfl⟩ ?_;simp only [Zzd,ZAu,ZBg]
 intro k;by_cases hk1:k=KB
 ·rw [hk1];simp (disch:=omega) only [Zau,Zx5,Zx4,Zze,Ent.sh,AV.shL,AV.sh]
  try rfl
 ·by_cases hk2:k=KV
  ·rw [hk2];simp (disch:=omega) only [Zau,Zx5,Zx4,Zze,Ent.sh,AV.shL,AV.sh]
   try rfl
  ·simp (disch:=omega) only [Zau,Zx4];exact Agr.start σ k
theorem Zat {K c:Nat} (h:c < 1000):(K+1000 == c)=false:=by rw [ZDa];omega
theorem Zri {a b:List Nat} (h:u16s a=u16s b):a=b:=by
 induction a generalizing b with
 | nil=>cases b with
   | nil=>rfl
   | cons y b=>simp [u16s] at h
 | cons x a ih=>cases b with
   | nil=>simp [u16s] at h
   | cons y b =>
     rw [Zur,Zur] at h;simp only [List.cons.injEq,AV.v.injEq,Value.int.injEq,true_and] at h;rw [ih h.2,show x=y by omega]
theorem RQ.ok_eq {r:RQ} {k:Nat} (hl:r.lm k) (h:r.ok=true):r=⟨decide (r.q.num < 0),toL r.q.num.natAbs,toL r.q.den⟩:=by
 have h1:=(RQ.ok_av hl h).1;simp only [RQ.av,ratQ,AV.agg.injEq,List.cons.injEq,AV.v.injEq,Value.bool.injEq,lim,AV.sl.injEq,true_and,and_true] at h1;obtain⟨s,l,d⟩:=r;simp only at h1;rw [RQ.mk.injEq];exact⟨h1.1,Zri h1.2.1,Zri h1.2.2⟩
theorem coOf (c:Po × Po):Pure prog 164 [coA c] (coA c):=by
 obtain⟨p,q⟩:=c;refine pI func164 rfl ntmps164 results164 call164 ?_;(focus (refine wklp w_t w_t w_t (w_r 0) ?_;(repeat' first|exact w_t|apply w_l);all_goals intros))
theorem Zg1 (f:Nat) (a b r:Po × Po) (c1:Pure prog f [poA a.1,poA b.1] (poA r.1)) (c2:Pure prog f [poA a.2,poA b.2] (poA r.2)):Pure prog 163 [coA a,coA b,.fn f []] (coA r):=by
 obtain⟨a1,a2⟩:=a;obtain⟨b1,b2⟩:=b;obtain⟨r1,r2⟩:=r;simp only at c1 c2;refine pI func163 rfl ntmps163 results163 call163 ?_;(focus (refine wkld w_t (w_2 c1 c2) w_t (w_1 (w_d 1 [(5,poA r1),(11,poA r2)] [] [6])) ?_;(repeat' first|exact w_t|apply w_l);all_goals intros))
theorem Zir (a b:Po × Po) (h1:Pure prog 119 [poA b.1,poA a.1] (poA (subM b.1 a.1))) (h2:Pure prog 119 [poA b.2,poA a.2] (poA (subM b.2 a.2))):Pure prog 162 [coA a,coA b] (coA (subM b.1 a.1,subM b.2 a.2)):=by
 have c:=Zg1 119 b a (subM b.1 a.1,subM b.2 a.2) h1 h2;have oa:=coOf a;have ob:=coOf b;obtain⟨a1,a2⟩:=a;obtain⟨b1,b2⟩:=b;simp only at *;generalize subM b1 a1=x at *;generalize subM b2 a2=y at *;refine pI func162 rfl ntmps162 results162 call162 ?_;(focus (refine wkld w_t (w_3 oa ob c) w_t (w_1 (w_d 1 [(1,coA (b1,b2)),(3,coA (a1,a2)),(4,coA (x,y))] [] [4])) ?_;(repeat' first|exact w_t|apply w_l);all_goals intros))
theorem Zxr (K4 g4:Nat) (k:Int) (nm:ByteArray) (ar:List Int) (q:Rat) (p r:Po) (c:Pure prog 167 [poA p,ratQ q] (poA r)) :
 RdC prog [(K4,.box g4 76 [iv k,strA nm,ivs ar,.v (.bool (decide (q.num < 0))),lim (toL q.num.natAbs),lim (toL q.den)] false)] 166 [poA p,.pbox K4 g4 0] (poA r):=by
 intro σ hL;have m4:=Zah hL.1;simp only [Ent.sh,AV.shL,AV.sh] at m4;refine Zap func166 rfl ntmps166 results166 call166 zr zs ?_;(focus (refine wkap (w_1 m4) (w_1 c) (w_r 0) ?_;(repeat' first|exact w_t|apply w_l);all_goals intros));simp (disch:=omega) only [go_sem];exact Zd4 (Sub.refl _) ⟨rfl,rfl⟩ (Agr.start σ)
theorem cbMulV (K g:Nat) (t p r:Po) (c:Pure prog 120 [poA p,poA t] (poA r)) :
 RdC prog [(K,.box g 53 [poA t] false)] 170 [poA p,.pbox K g 0] (poA r):=by
 intro σ hL;have m4:=Zah hL.1;simp only [Ent.sh,AV.shL,AV.sh] at m4;refine Zap func170 rfl ntmps170 results170 call170 zr zs ?_;(focus (refine wkap (w_1 m4) (w_1 c) (w_r 0) ?_;(repeat' first|exact w_t|apply w_l);all_goals intros));simp (disch:=omega) only [go_sem];exact Zd4 (Sub.refl _) ⟨rfl,rfl⟩ (Agr.start σ)
def atL (K3 K4 KB KC KV g3 g4 gB:Nat) (svC svV:Value) (z:AV) (sc:List AV) (cs:List (Po × Po)):List (Nat × Ent) :=
 [(K3,.box g3 163 [.pbox KB gB 0] false),(K4,.box g4 76 sc false),(KB,.box gB 165 [.own KC svC,.own KV svV,z] false),(KC,.row svC 98 2 (cs.map coA) 0)]
theorem Zdi (K3 K4 KB KC KV g3 g4 gB:Nat) (svC svV:Value) (z:AV) (sc:List AV) (cs:List (Po × Po)):atL K3 K4 KB KC KV g3 g4 gB svC svV z sc cs =
 [(K3,.box g3 163 [.pbox KB gB 0] false),(K4,.box g4 76 sc false),(KB,.box gB 165 [.own KC svC,.own KV svV,z] false),(KC,.row svC 98 2 (cs.map coA) 0)]:=rfl
theorem cbAt (K3 K4 KB KC KV g3 g4 gB:Nat) (svC svV:Value) (fr:Nat) (k0:Int) (nm:ByteArray) (ar:List Int) (x y w:AV) (cs:List (Po × Po)) (k:Nat) (hx:x.sh=x∧y.sh=y∧w.sh=w) (hk:k < ar.length) (h0:0≤gI ar k∧gI ar k < (cs.length:Int)) :
 RdC prog (atL K3 K4 KB KC KV g3 g4 gB svC svV (iv fr) [iv k0,strA nm,ivs ar,x,y,w] cs) 160 [iv k,.pbox K3 g3 0,.pbox K4 g4 0] (coA (cs.getD (gI ar k).toNat ([],[]))):=by
 intro σ hL;simp only [atL,Zgb,Zhg] at hL;obtain⟨h3,h4,hB,hC,-⟩:=hL;have m3:=Zah h3;have m4:=Zah h4;have mB:=Zah hB;have mC:=Zah hC;simp only [Ent.sh,AV.shL,AV.sh,hx.1,hx.2.1,hx.2.2] at m3 m4 mB mC;have hga:(ar.map iv).getD k .u=iv (gI ar k):=by rw [Zaj iv hk,Zdr hk]
 have hgc:(cs.map coA).getD (gI ar k).toNat .u=coA (cs.getD (gI ar k).toNat ([],[])):=Zo4 zo;have hll:(ar.map iv).length=ar.length:=Zx9 ..;have hcl:(cs.map coA).length=cs.length:=Zx9 ..;generalize cs.getD (gI ar k).toNat ([],[])=c at *;generalize gI ar k=a at *;obtain⟨c1,c2⟩:=c;refine Zap func160 rfl ntmps160 results160 call160 zr zs ?_;(focus (refine wkad (w_10 m3 m4 mB mC hga hgc hll hcl @Zam @Zat) w_t (w_1 (w_d 1 [] [] [4])) ?_;(repeat' first|exact w_t|apply w_l);all_goals intros));simp (disch:=omega) only [go_sem];refine Zd4 (Sub.refl _) ⟨rfl,rfl⟩ ?_
 exact((Agr.start σ).own zo).own zo
theorem cbAlongS (K3 K4 K7 KB KC KV g3 g4 g7 gB:Nat) (svC svV:Value) (fr:Nat) (k0:Int) (nm:ByteArray) (ar:List Int) (q:Rat) (cs:List (Po × Po)) (a b x r:Po × Po) (hk:2≤ar.length) (h0:0≤gI ar 0∧gI ar 0 < (cs.length:Int)) (h1:0≤gI ar 1∧gI ar 1 < (cs.length:Int)) (ha:cs.getD (gI ar 0).toNat ([],[])=a) (hb:cs.getD (gI ar 1).toNat ([],[])=b)
 (s1:Pure prog 119 [poA b.1,poA a.1] (poA (subM b.1 a.1))) (s2:Pure prog 119 [poA b.2,poA a.2] (poA (subM b.2 a.2)))
 (c1:Pure prog 167 [poA (subM b.1 a.1),ratQ q] (poA x.1)) (c2:Pure prog 167 [poA (subM b.2 a.2),ratQ q] (poA x.2))
 (a1:Pure prog 122 [poA a.1,poA x.1] (poA r.1)) (a2:Pure prog 122 [poA a.2,poA x.2] (poA r.2)) :
 RdC prog ((K7,.box g7 200 [.fn 160 [.pbox K3 g3 0,.pbox K4 g4 0]] false) :: atL K3 K4 KB KC KV g3 g4 gB svC svV (iv fr) [iv k0,strA nm,ivs ar,.v (.bool (decide (q.num < 0))),lim (toL q.num.natAbs),lim (toL q.den)] cs) 161 [.fn 166 [.pbox K4 g4 0],.pbox K7 g7 0] (coA r):=by
 intro σ hL;have t0:=cbAt (K3+1000) (K4+1000) (KB+1000) (KC+1000) (KV+1000) g3 g4 gB svC svV fr k0 nm ar (.v (.bool (decide (q.num < 0)))) (lim (toL q.num.natAbs)) (lim (toL q.den)) cs 0 ⟨rfl,rfl,rfl⟩ zo h0;have t1:=cbAt (K3+1000) (K4+1000) (KB+1000) (KC+1000) (KV+1000) g3 g4 gB svC svV fr k0 nm ar (.v (.bool (decide (q.num < 0)))) (lim (toL q.num.natAbs)) (lim (toL q.den)) cs 1 ⟨rfl,rfl,rfl⟩ zo h1;rw [ha] at t0;rw [hb] at t1;have cB:=Zir a b s1 s2;have oa:=coOf a;have cC:=Zg1 122 a x r a1 a2;have p1:=Zxr (K4+1000) g4 k0 nm ar q (subM b.1 a.1) x.1 c1;have p2:=Zxr (K4+1000) g4 k0 nm ar q (subM b.2 a.2) x.2 c2
 simp only [atL,Zgb,Zhg] at hL;obtain⟨h7,h3,h4,hB,hC,-⟩:=hL;have m3:=Zah h3;have m4:=Zah h4;have m7:=Zah h7;have mB:=Zah hB;have mC:=Zah hC
 skip
 simp only [Ent.sh,AV.shL,AV.sh] at m3 m4 m7 mB mC;clear a1 a2 s1 s2 ha hb h0 h1;obtain⟨aa,ab⟩:=a;obtain⟨ba,bb⟩:=b;obtain⟨xa,xb⟩:=x;obtain⟨ra,rb⟩:=r;simp only at *;generalize subM ba aa=da at *;generalize subM bb ab=db at *;refine Zap func161 rfl ntmps161 results161 call161 zr zs ?_;(focus (refine wkax (w_8 m3 m4 m7 mB mC @Zam @Zat @Zdi) (w_3 cB oa cC) (w_2 (w_d 1 [(1,coA (aa,ab)),(3,coA (ba,bb)),(4,coA (da,db))] [] []) (w_d 2 [(1,coA (aa,ab)),(2,coA (aa,ab)),(6,poA xa),(10,poA xb),(12,coA (ra,rb))] [] [3])) w_t w_t (w_4 t0 t1 p1 p2) w_y (w_r 0) ?_;(repeat' first|exact w_t|apply w_l);all_goals intros))
 simp (disch:=omega) only [go_sem];refine Zd4 (Sub.refl _) ⟨rfl,rfl⟩ ?_
 (repeat' (first|exact Agr.start _|(refine Agr.own ?_ zo)))
theorem cbAlongM (K3 K4 K7 KB KC KV g3 g4 g7 gB:Nat) (svC svV:Value) (fr:Nat) (k0:Int) (nm:ByteArray) (ar:List Int) (rs:Bool) (rl rd:List Nat) (K10 g10:Nat) (t:Po) (cs:List (Po × Po)) (a b x r:Po × Po) (hk:2≤ar.length) (h0:0≤gI ar 0∧gI ar 0 < (cs.length:Int)) (h1:0≤gI ar 1∧gI ar 1 < (cs.length:Int)) (ha:cs.getD (gI ar 0).toNat ([],[])=a) (hb:cs.getD (gI ar 1).toNat ([],[])=b)
 (s1:Pure prog 119 [poA b.1,poA a.1] (poA (subM b.1 a.1))) (s2:Pure prog 119 [poA b.2,poA a.2] (poA (subM b.2 a.2)))
 (c1:Pure prog 120 [poA (subM b.1 a.1),poA t] (poA x.1)) (c2:Pure prog 120 [poA (subM b.2 a.2),poA t] (poA x.2))
 (a1:Pure prog 122 [poA a.1,poA x.1] (poA r.1)) (a2:Pure prog 122 [poA a.2,poA x.2] (poA r.2)) :
 RdC prog ((K10,.box g10 53 [poA t] false) :: (K7,.box g7 200 [.fn 160 [.pbox K3 g3 0,.pbox K4 g4 0]] false) :: atL K3 K4 KB KC KV g3 g4 gB svC svV (iv fr) [iv k0,strA nm,ivs ar,.v (.bool rs),lim rl,lim rd] cs) 161 [.fn 170 [.pbox K10 g10 0],.pbox K7 g7 0] (coA r):=by
 intro σ hL;have t0:=cbAt (K3+1000) (K4+1000) (KB+1000) (KC+1000) (KV+1000) g3 g4 gB svC svV fr k0 nm ar (.v (.bool rs)) (lim rl) (lim rd) cs 0 ⟨rfl,rfl,rfl⟩ zo h0;have t1:=cbAt (K3+1000) (K4+1000) (KB+1000) (KC+1000) (KV+1000) g3 g4 gB svC svV fr k0 nm ar (.v (.bool rs)) (lim rl) (lim rd) cs 1 ⟨rfl,rfl,rfl⟩ zo h1;rw [ha] at t0;rw [hb] at t1;have cB:=Zir a b s1 s2;have oa:=coOf a;have cC:=Zg1 122 a x r a1 a2;have p1:=cbMulV (K10+1000) g10 t (subM b.1 a.1) x.1 c1;have p2:=cbMulV (K10+1000) g10 t (subM b.2 a.2) x.2 c2;simp only [atL,Zgb,Zhg] at hL;obtain⟨h10,h7,h3,h4,hB,hC,-⟩:=hL
 have m3:=Zah h3;have m4:=Zah h4;have m7:=Zah h7;have mB:=Zah hB;have mC:=Zah hC;have m10:=Zah h10;simp only [Ent.sh,AV.shL,AV.sh] at m3 m4 m7 mB mC m10;clear a1 a2 s1 s2 ha hb h0 h1;obtain⟨aa,ab⟩:=a;obtain⟨ba,bb⟩:=b;obtain⟨xa,xb⟩:=x;obtain⟨ra,rb⟩:=r;simp only at *;generalize subM ba aa=da at *;generalize subM bb ab=db at *;refine Zap func161 rfl ntmps161 results161 call161 zr zs ?_;(focus (refine wkax (w_9 m3 m4 m7 mB mC m10 @Zam @Zat @Zdi) (w_3 cB oa cC) (w_2 (w_d 1 [(1,coA (aa,ab)),(3,coA (ba,bb)),(4,coA (da,db))] [] []) (w_d 2 [(1,coA (aa,ab)),(2,coA (aa,ab)),(6,poA xa),(10,poA xb),(12,coA (ra,rb))] [] [3])) w_t w_t (w_4 t0 t1 p1 p2) w_y (w_r 0) ?_;(repeat' first|exact w_t|apply w_l);all_goals intros))
 simp (disch:=omega) only [go_sem];refine Zd4 (Sub.refl _) ⟨rfl,rfl⟩ ?_
 (repeat' (first|exact Agr.start _|(refine Agr.own ?_ zo)))
theorem PK.sub {p q:Po} {j k e:Nat} (hp:PK p j e) (hq:PK q k e):PK (subM p q) (j+k+1) e:=hp.add hq.neg
theorem PK.scl {p:Po} {j k e:Nat} {a:Rat} (hp:PK p j e) (ha:Sz a k):PK (sclM a p) (j+k) e:=by
 unfold sclM;split
 ·exact .nil
 ·exact hp.scale ha
theorem PK.mulV {p:Po} {j e v:Nat} (hp:PK p j e):PK (mlM p (varM v)) (j+1) (e+1):=by
 rw [Zqq];split
 ·refine hp.times (t:=(1,Zdf v)) λu hu=>?_;rw [Zzs] at hu;subst hu;have h:=Ziu v (1,Zdf v) (by unfold varM;rw [Zx5 (by assumption)];exact .head _);exact h
 ·exact .nil
theorem Zh1 {a:Rat} {p:Po} (h:SrtM p):SrtM (sclM a p):=by
 unfold sclM;split
 ·exact .nil
 ·exact Zca h ‹_›
theorem Zj7 (a:Rat) (p:Po):(sclM a p).length≤p.length:=by
 unfold sclM;split
 ·simp
 ·rw [Zfw];exact Zx7 _
theorem Zhd (p:Po) (v:Nat):(mlM p (varM v)).length≤p.length:=by
 rw [Zqq];split
 ·rw [Zdt];exact Zx7 _
 ·simp
theorem Zdg (p q:Po):(subM p q).length≤p.length+q.length:=by
 have:=Zjw (lt:=ltM) p (Zaw (-1) q);rw [Zfw] at this;exact this
structure Co (p:Po):Prop where
 pk:PK p 110 1
 st:SrtM p
 ln:p.length≤4000
structure StOk (cs:List (Po × Po)) (s:RS):Prop where
 k0:0≤arS s.k
 al:(s.ar.length:Int)=arS s.k
 ai:∀k,k < s.ar.length→0≤gI s.ar k∧gI s.ar k < (cs.length:Int)
 r2:s.k=2→s.r.ok=true
 rl:s.r.lm 2
theorem cbStep1 (σ:Mem) (KB KC KV g:Nat) (svC svV:Value) (cs:List (Po × Po)) (vs:List Vt) (fr:Nat) (i:Nat) (s:RS) (hB:σ KB=some (.box g 165 [.own KC svC,.own KV svV,iv fr] false)) (hV:σ KV=some (.row svV 106 3 (vs.map Vt.av) 0)) (hC:σ KC=some (.row svC 98 2 (cs.map coA) 0)) (hBV:KB≠KV) (hBC:KB≠KC) (hVC:KV≠KC) (hl:vs.length≤64) (hf:fr≤100) (hk:s.k=1):ACall prog 104 [.pbox KB g 0,s.av,iv i] σ λr σ'=>∃sv,r=coA (FS.nxt ⟨cs,vs,fr⟩ i s).2 ∧
 σ'=upd (upd σ KV (some (.row sv 106 3 ((vs++(FS.nxt ⟨cs,vs,fr⟩ i s).1).map Vt.av) 0))) KB (some (.box g 165 [.own KC svC,.own KV sv,iv (if s.k=1 then fr+1 else fr:Nat)] false)):=by
 have mB:=Zah hB;have mV:=Zah hV;have mC:=Zah hC;simp only [Ent.sh,AV.shL,AV.sh] at mB mV mC
 have en:FS.nxt ⟨cs,vs,fr⟩ i s=((if fr=0 then [] else if fr=1 then [(1,(i:Int),0)] else [(1,(i:Int),0),(1,(i:Int),1)]),(if fr=0 then ([],[]) else if fr=1 then (varM vs.length,[]) else (varM vs.length,varM (vs.length+1)))):=by
  unfold FS.nxt;simp only;rw [Zx5 hk];split
  ·rfl
  ·split<;>rfl
 rw [en];simp only [Zx5 hk];generalize hnv:(if fr=0 then [] else if fr=1 then [((1:Int),(i:Int),(0:Int))] else [(1,(i:Int),0),(1,(i:Int),1)])=nv at *;generalize hnc:(if fr=0 then (([]:Po),([]:Po)) else if fr=1 then (varM vs.length,[]) else (varM vs.length,varM (vs.length+1)))=nc at *;obtain⟨k,nm,ar,r,rl,rd⟩:=s;simp only at hk;subst hk;refine Zap func104 rfl ntmps104 results104 call104 zr zs ?_;(focus (refine wkad (w_4 mB mV mC @Zam) w_t w_t ?_;(repeat' first|exact w_t|apply w_l);all_goals intros));refine Zb9 ((cbPoint _ (KB+1000) (KC+1000) (KV+1000) g svC svV vs fr i (by(simp (disch:=omega) only [go_sem,mB,mV,Zx4,Zx5]<;>repeat' first|rfl|refine⟨?_,?_⟩)) (by(simp (disch:=omega) only [go_sem,mB,mV,Zx4,Zx5]<;>repeat' first|rfl|refine⟨?_,?_⟩)) zo zo zo)) ?_
 rw [hnv,hnc];intro sv1;obtain⟨n1,n2⟩:=nc;(focus (refine wkad (w_4 mB mV mC @Zam) w_t w_t ?_;(repeat' first|exact w_t|apply w_l);all_goals intros));simp (disch:=omega) only [go_sem];refine Zd4 (Sub.refl _) ⟨sv1,rfl,rfl⟩ ?_;intro k;by_cases hk1:k=KB
 ·rw [hk1];simp (disch:=omega) only [Zau,Zx5,Zx4,Zze,Ent.sh,AV.shL,AV.sh]
  try rfl
 ·by_cases hk2:k=KV
  ·rw [hk2];simp (disch:=omega) only [Zau,Zx5,Zx4,Zze,Ent.sh,AV.shL,AV.sh]
   try rfl
  ·simp (disch:=omega) only [Zau,Zx4];exact Agr.start σ k
theorem cbStep6 (σ:Mem) (KB KC KV g:Nat) (svC svV:Value) (cs:List (Po × Po)) (vs:List Vt) (fr:Nat) (i:Nat) (s:RS) (hB:σ KB=some (.box g 165 [.own KC svC,.own KV svV,iv fr] false)) (hV:σ KV=some (.row svV 106 3 (vs.map Vt.av) 0)) (hC:σ KC=some (.row svC 98 2 (cs.map coA) 0)) (hBV:KB≠KV) (hBC:KB≠KC) (hVC:KV≠KC) (hl:vs.length≤64) (hf:fr≤100) (hk:s.k=6):ACall prog 104 [.pbox KB g 0,s.av,iv i] σ λr σ'=>∃sv,r=coA (FS.nxt ⟨cs,vs,fr⟩ i s).2 ∧
 σ'=upd (upd σ KV (some (.row sv 106 3 ((vs++(FS.nxt ⟨cs,vs,fr⟩ i s).1).map Vt.av) 0))) KB (some (.box g 165 [.own KC svC,.own KV sv,iv (if s.k=1 then fr+1 else fr:Nat)] false)):=by
 have mB:=Zah hB;have mV:=Zah hV;have mC:=Zah hC;simp only [Ent.sh,AV.shL,AV.sh] at mB mV mC
 have en:FS.nxt ⟨cs,vs,fr⟩ i s=([(1,(i:Int),0),(2,(i:Int),1),(2,(i:Int),2)],(varM (vs.length+1),varM (vs.length+2))):=by
  unfold FS.nxt;simp only [hk];rfl
 rw [en];simp only [Zx4 (show ¬s.k=1 by omega)];have hl1:(vs++[((1:Int),(i:Int),(0:Int))]).length=vs.length+1:=by simp
 obtain⟨k,nm,ar,r,rl,rd⟩:=s;simp only at hk;subst hk;refine Zap func104 rfl ntmps104 results104 call104 zr zs ?_;(focus (refine wkad (w_4 mB mV mC @Zam) w_t w_t ?_;(repeat' first|exact w_t|apply w_l);all_goals intros));refine Zb9 ((Zec _ (KB+1000) (KC+1000) (KV+1000) g svC svV vs fr 1 (i:Int) 0 (by(simp (disch:=omega) only [go_sem,mB,mV,Zx4,Zx5]<;>repeat' first|rfl|refine⟨?_,?_⟩)) (by(simp (disch:=omega) only [go_sem,mB,mV,Zx4,Zx5]<;>repeat' first|rfl|refine⟨?_,?_⟩)) zo zo)) ?_;intro sv1;(focus (refine wkad (w_4 mB mV mC @Zam) w_t w_t ?_;(repeat' first|exact w_t|apply w_l);all_goals intros))
 refine Zb9 ((cbDep _ (KB+1000) (KC+1000) (KV+1000) g svC sv1 (vs++[(1,(i:Int),0)]) fr i 1 (by(simp (disch:=omega) only [go_sem,mB,mV,Zx4,Zx5]<;>repeat' first|rfl|refine⟨?_,?_⟩)) (by(simp (disch:=omega) only [go_sem,mB,mV,Zx4,Zx5,Zys,Zzc,Zy6]<;>repeat' first|rfl|refine⟨?_,?_⟩)) (by rw [hl1];omega) zo zo)) ?_;intro sv2;rw [hl1];(focus (refine wkad (w_4 mB mV mC @Zam) w_t w_t ?_;(repeat' first|exact w_t|apply w_l);all_goals intros));simp (disch:=omega) only [go_sem];refine Zd4 (Sub.refl _) ⟨sv2,rfl,rfl⟩ ?_;simp only [Zzd,ZAu,ZBg]
 intro k;by_cases hk1:k=KB
 ·rw [hk1];simp (disch:=omega) only [Zau,Zx5,Zx4,Zze,Ent.sh,AV.shL,AV.sh]
  try rfl
 ·by_cases hk2:k=KV
  ·rw [hk2];simp (disch:=omega) only [Zau,Zx5,Zx4,Zze,Ent.sh,AV.shL,AV.sh]
   try rfl
  ·simp (disch:=omega) only [Zau,Zx4];exact Agr.start σ k
theorem cbStep7 (σ:Mem) (KB KC KV g:Nat) (svC svV:Value) (cs:List (Po × Po)) (vs:List Vt) (fr:Nat) (i:Nat) (s:RS) (hB:σ KB=some (.box g 165 [.own KC svC,.own KV svV,iv fr] false)) (hV:σ KV=some (.row svV 106 3 (vs.map Vt.av) 0)) (hC:σ KC=some (.row svC 98 2 (cs.map coA) 0)) (hBV:KB≠KV) (hBC:KB≠KC) (hVC:KV≠KC) (hl:vs.length≤64) (hf:fr≤100) (hk:s.k≠1∧s.k≠2∧s.k≠3∧s.k≠4∧s.k≠5∧s.k≠6):ACall prog 104 [.pbox KB g 0,s.av,iv i] σ λr σ'=>∃sv,r=coA (FS.nxt ⟨cs,vs,fr⟩ i s).2 ∧
 σ'=upd (upd σ KV (some (.row sv 106 3 ((vs++(FS.nxt ⟨cs,vs,fr⟩ i s).1).map Vt.av) 0))) KB (some (.box g 165 [.own KC svC,.own KV sv,iv (if s.k=1 then fr+1 else fr:Nat)] false)):=by
 have mB:=Zah hB;have mV:=Zah hV;have mC:=Zah hC;simp only [Ent.sh,AV.shL,AV.sh] at mB mV mC
 have en:FS.nxt ⟨cs,vs,fr⟩ i s=([(2,(i:Int),0),(2,(i:Int),1)],(varM vs.length,varM (vs.length+1))):=by
  unfold FS.nxt;simp only;rw [Zx4 hk.1,Zx4 hk.2.1,Zx4 hk.2.2.1,Zx4 hk.2.2.2.1,Zx4 hk.2.2.2.2.1,Zx4 hk.2.2.2.2.2]
 rw [en];simp only [Zx4 hk.1];obtain⟨k,nm,ar,r,rl,rd⟩:=s;simp only at hk;obtain⟨k1,k2,k3,k4,k5,k6⟩:=hk;refine Zap func104 rfl ntmps104 results104 call104 zr zs ?_;(focus (refine wkad (w_4 mB mV mC @Zam) w_t w_t ?_;(repeat' first|exact w_t|apply w_l);all_goals intros));refine Zb9 ((cbDep _ (KB+1000) (KC+1000) (KV+1000) g svC svV vs fr i 0 (by(simp (disch:=omega) only [go_sem,mB,mV,Zx4,Zx5]<;>repeat' first|rfl|refine⟨?_,?_⟩)) (by(simp (disch:=omega) only [go_sem,mB,mV,Zx4,Zx5]<;>repeat' first|rfl|refine⟨?_,?_⟩)) zo zo zo)) ?_;intro sv2;(focus (refine wkad (w_4 mB mV mC @Zam) w_t w_t ?_;(repeat' first|exact w_t|apply w_l);all_goals intros))
 simp (disch:=omega) only [go_sem];refine Zd4 (Sub.refl _) ⟨sv2,rfl,rfl⟩ ?_;simp only [Zyh];intro k;by_cases hk1:k=KB
 ·rw [hk1];simp (disch:=omega) only [Zau,Zx5,Zx4,Zze,Ent.sh,AV.shL,AV.sh]
  try rfl
 ·by_cases hk2:k=KV
  ·rw [hk2];simp (disch:=omega) only [Zau,Zx5,Zx4,Zze,Ent.sh,AV.shL,AV.sh]
   try rfl
  ·simp (disch:=omega) only [Zau,Zx4];exact Agr.start σ k
theorem cbStep2 (σ:Mem) (KB KC KV g:Nat) (svC svV:Value) (cs:List (Po × Po)) (vs:List Vt) (fr:Nat) (i:Nat) (s:RS) (hB:σ KB=some (.box g 165 [.own KC svC,.own KV svV,iv fr] false)) (hV:σ KV=some (.row svV 106 3 (vs.map Vt.av) 0)) (hC:σ KC=some (.row svC 98 2 (cs.map coA) 0)) (hBV:KB≠KV) (hBC:KB≠KC) (hVC:KV≠KC) (hl:vs.length≤64) (hf:fr≤100) (hok:StOk cs s) (hco:∀c∈cs,Co c.1∧Co c.2) (hk:s.k=2):ACall prog 104 [.pbox KB g 0,s.av,iv i] σ λr σ'=>∃sv,r=coA (FS.nxt ⟨cs,vs,fr⟩ i s).2 ∧
 σ'=upd (upd σ KV (some (.row sv 106 3 ((vs++(FS.nxt ⟨cs,vs,fr⟩ i s).1).map Vt.av) 0))) KB (some (.box g 165 [.own KC svC,.own KV sv,iv (if s.k=1 then fr+1 else fr:Nat)] false)):=by
 have mB:=Zah hB;have mV:=Zah hV;have mC:=Zah hC;simp only [Ent.sh,AV.shL,AV.sh] at mB mV mC;have har:arS s.k=2:=by rw [hk];rfl
 have hal:=hok.al;have h0:=hok.ai 0 zo;obtain⟨a1,a2⟩:Co (cs.getD (gI s.ar 0).toNat ([],[])).1∧Co (cs.getD (gI s.ar 0).toNat ([],[])).2:=hco _ (Za2 zo);have h1:=hok.ai 1 zo;obtain⟨b1,b2⟩:Co (cs.getD (gI s.ar 1).toNat ([],[])).1∧Co (cs.getD (gI s.ar 1).toNat ([],[])).2:=hco _ (Za2 zo)
 have en:FS.nxt ⟨cs,vs,fr⟩ i s=([],(addM (cs.getD (gI s.ar 0).toNat ([],[])).1 (sclM s.r.q (subM (cs.getD (gI s.ar 1).toNat ([],[])).1 (cs.getD (gI s.ar 0).toNat ([],[])).1)),addM (cs.getD (gI s.ar 0).toNat ([],[])).2 (sclM s.r.q (subM (cs.getD (gI s.ar 1).toNat ([],[])).2 (cs.getD (gI s.ar 0).toNat ([],[])).2)))):=by
  unfold FS.nxt;simp only [hk];rfl
 rw [en];simp only [Zx4 (show ¬s.k=1 by omega)];clear en;generalize ha:cs.getD (gI s.ar 0).toNat ([],[])=a at *;generalize hb:cs.getD (gI s.ar 1).toNat ([],[])=b at *;have ro:=hok.r2 hk;have zr:=(RQ.ok_av hok.rl ro).2;have s1:=Zmk b.1 a.1 b1.pk a1.pk b1.st a1.st (by have:=b1.ln;omega) (by have:=a1.ln;omega) zo zo zo;have s2:=Zmk b.2 a.2 b2.pk a2.pk b2.st a2.st (by have:=b2.ln;omega) (by have:=a2.ln;omega) zo zo zo;have d1:=b1.pk.sub a1.pk;have d2:=b2.pk.sub a2.pk;have t1:=Zbu ordM b1.st a1.st;have t2:=Zbu ordM b2.st a2.st;have l1:=Zdg b.1 a.1;have l2:=Zdg b.2 a.2;have n1:=a1.ln
 have n2:=a2.ln;have n3:=b1.ln;have n4:=b2.ln;have c1:=Zqg (subM b.1 a.1) s.r.q d1 zr t1 zo zo zo zo;have c2:=Zqg (subM b.2 a.2) s.r.q d2 zr t2 zo zo zo zo;have e1:=Zkg a.1 (sclM s.r.q (subM b.1 a.1)) a1.pk (d1.scl zr) a1.st (Zh1 t1) zo (by have:=Zj7 s.r.q (subM b.1 a.1);omega) zo zo zo;have e2:=Zkg a.2 (sclM s.r.q (subM b.2 a.2)) a2.pk (d2.scl zr) a2.st (Zh1 t2) zo (by have:=Zj7 s.r.q (subM b.2 a.2);omega) zo zo zo;have re:=RQ.ok_eq hok.rl ro;obtain⟨k,nm,ar,r⟩:=s;simp only at *;subst hk;generalize hq:r.q=q at *;rw [re];have al:=λg3 g4 g7=>cbAlongS 3 4 7 (KB+1000) (KC+1000) (KV+1000) g3 g4 g7 g svC svV fr 2 nm ar q cs a b (sclM q (subM b.1 a.1),sclM q (subM b.2 a.2)) (addM a.1 (sclM q (subM b.1 a.1)),addM a.2 (sclM q (subM b.2 a.2))) zo h0 h1 ha hb s1 s2 c1 c2 e1 e2
 clear s1 s2 c1 c2 e1 e2 d1 d2 t1 t2 l1 l2 a1 a2 b1 b2 hco hok re ro zr hq n1 n2 n3 n4;generalize addM a.1 (sclM q (subM b.1 a.1))=x1 at *;generalize addM a.2 (sclM q (subM b.2 a.2))=x2 at *;refine Zap func104 rfl ntmps104 results104 call104 zr zs ?_;(focus (refine wkad (w_4 mB mV mC @Zam) w_t w_t ?_;(repeat' first|exact w_t|apply w_l);all_goals intros));rename_i g3 g4 g6 g7;have al:=al g3 g4 g7;(focus (refine wkax (w_5 mB mV mC @Zam @Zdi) w_t w_t w_t w_t (w_1 al) w_y (w_r 0) ?_;(repeat' first|exact w_t|apply w_l);all_goals intros));simp (disch:=omega) only [go_sem]
 refine Zd4 (Sub.refl _) ⟨svV,rfl,rfl⟩ ?_;rw [Zc0 hV,Zc0 hB]
 (repeat' (first|exact Agr.start _|(refine Agr.own ?_ zo)))
theorem cbStep3 (σ:Mem) (KB KC KV g:Nat) (svC svV:Value) (cs:List (Po × Po)) (vs:List Vt) (fr:Nat) (i:Nat) (s:RS) (hB:σ KB=some (.box g 165 [.own KC svC,.own KV svV,iv fr] false)) (hV:σ KV=some (.row svV 106 3 (vs.map Vt.av) 0)) (hC:σ KC=some (.row svC 98 2 (cs.map coA) 0)) (hBV:KB≠KV) (hBC:KB≠KC) (hVC:KV≠KC) (hl:vs.length≤64) (hf:fr≤100) (hok:StOk cs s) (hco:∀c∈cs,Co c.1∧Co c.2) (hk:s.k=3):ACall prog 104 [.pbox KB g 0,s.av,iv i] σ λr σ'=>∃sv,r=coA (FS.nxt ⟨cs,vs,fr⟩ i s).2 ∧
 σ'=upd (upd σ KV (some (.row sv 106 3 ((vs++(FS.nxt ⟨cs,vs,fr⟩ i s).1).map Vt.av) 0))) KB (some (.box g 165 [.own KC svC,.own KV sv,iv (if s.k=1 then fr+1 else fr:Nat)] false)):=by
 have mB:=Zah hB;have mV:=Zah hV;have mC:=Zah hC;simp only [Ent.sh,AV.shL,AV.sh] at mB mV mC;have har:arS s.k=3:=by rw [hk];rfl
 have hal:=hok.al;have h0:=hok.ai 0 zo;obtain⟨a1,a2⟩:Co (cs.getD (gI s.ar 0).toNat ([],[])).1∧Co (cs.getD (gI s.ar 0).toNat ([],[])).2:=hco _ (Za2 zo);have h1:=hok.ai 1 zo;obtain⟨b1,b2⟩:Co (cs.getD (gI s.ar 1).toNat ([],[])).1∧Co (cs.getD (gI s.ar 1).toNat ([],[])).2:=hco _ (Za2 zo);have h2:=hok.ai 2 zo;obtain⟨c1,c2⟩:Co (cs.getD (gI s.ar 2).toNat ([],[])).1∧Co (cs.getD (gI s.ar 2).toNat ([],[])).2:=hco _ (Za2 zo)
 have en:FS.nxt ⟨cs,vs,fr⟩ i s=([],(addM (cs.getD (gI s.ar 0).toNat ([],[])).1 (subM (cs.getD (gI s.ar 2).toNat ([],[])).1 (cs.getD (gI s.ar 1).toNat ([],[])).1),addM (cs.getD (gI s.ar 0).toNat ([],[])).2 (subM (cs.getD (gI s.ar 2).toNat ([],[])).2 (cs.getD (gI s.ar 1).toNat ([],[])).2))):=by
  unfold FS.nxt;simp only [hk];rfl
 rw [en];simp only [Zx4 (show ¬s.k=1 by omega)];clear en;generalize ha:cs.getD (gI s.ar 0).toNat ([],[])=a at *;generalize hb:cs.getD (gI s.ar 1).toNat ([],[])=b at *;generalize hc:cs.getD (gI s.ar 2).toNat ([],[])=c at *;have n1:=a1.ln;have n2:=a2.ln;have n3:=b1.ln;have n4:=b2.ln;have n5:=c1.ln;have n6:=c2.ln;have s1:=Zmk c.1 b.1 c1.pk b1.pk c1.st b1.st zo zo zo zo zo;have s2:=Zmk c.2 b.2 c2.pk b2.pk c2.st b2.st zo zo zo zo zo;have l1:=Zdg c.1 b.1;have l2:=Zdg c.2 b.2;have e1:=Zkg a.1 (subM c.1 b.1) a1.pk (c1.pk.sub b1.pk) a1.st (Zbu ordM c1.st b1.st) zo zo zo zo zo;have e2:=Zkg a.2 (subM c.2 b.2) a2.pk (c2.pk.sub b2.pk) a2.st (Zbu ordM c2.st b2.st) zo zo zo zo zo
 have cB:=Zir b c s1 s2;have oa:=coOf a;have cC:=Zg1 122 a (subM c.1 b.1,subM c.2 b.2) (addM a.1 (subM c.1 b.1),addM a.2 (subM c.2 b.2)) e1 e2;obtain⟨k,nm,ar,⟨rs,rl,rd⟩⟩:=s;simp only at *;subst hk;have t0:=λg3 g4=>cbAt 3 4 (KB+1000) (KC+1000) (KV+1000) g3 g4 g svC svV fr 3 nm ar (.v (.bool rs)) (lim rl) (lim rd) cs 0 ⟨rfl,rfl,rfl⟩ zo h0;have t1:=λg3 g4=>cbAt 3 4 (KB+1000) (KC+1000) (KV+1000) g3 g4 g svC svV fr 3 nm ar (.v (.bool rs)) (lim rl) (lim rd) cs 1 ⟨rfl,rfl,rfl⟩ zo h1;have t2:=λg3 g4=>cbAt 3 4 (KB+1000) (KC+1000) (KV+1000) g3 g4 g svC svV fr 3 nm ar (.v (.bool rs)) (lim rl) (lim rd) cs 2 ⟨rfl,rfl,rfl⟩ zo h2
 rw [ha] at t0;rw [hb] at t1;rw [hc] at t2;clear s1 s2 e1 e2 l1 l2 a1 a2 b1 b2 c1 c2 hco hok n1 n2 n3 n4 n5 n6 ha hb hc;generalize addM a.1 (subM c.1 b.1)=x1 at *;generalize addM a.2 (subM c.2 b.2)=x2 at *;generalize subM c.1 b.1=y1 at *;generalize subM c.2 b.2=y2 at *;obtain⟨aa,ab⟩:=a;obtain⟨ba,bb⟩:=b;obtain⟨ca,cb⟩:=c;refine Zap func104 rfl ntmps104 results104 call104 zr zs ?_
 (repeat' (first|(with_reducible first|refine stp ?_|apply gx1|apply gx2|apply gx3|apply gx4|apply gx5|apply gx6|apply gx7|apply gy8|apply gz2|apply gz3|refine gwr (t0 _ _) ?_ ?_|refine gwr (t1 _ _) ?_ ?_|refine gwr (t2 _ _) ?_ ?_|refine gw0 (oa) ?_ ?_|refine gw3 (oa) ?_ ?_ ?_|refine gw0 (cB) ?_ ?_|refine gw3 (cB) ?_ ?_ ?_|refine gw0 (cC) ?_ ?_|refine gw3 (cC) ?_ ?_ ?_)|((with_reducible apply gyr (t2 _ _));(focus rfl);(focus rfl);iterate 3 focus ((with_reducible refine gE ?_);(try simp (disch:=omega) only [go_sem,mB,mV,mC,Zam,Zat,Zdi,Zx8,Zx6,Zx5,Zx4,Int.reduceAdd,Int.reduceSub,Int.reduceToNat,Zyh])<;>first|rfl|done))|((with_reducible apply gyr (t1 _ _));(focus rfl);(focus rfl);iterate 3 focus ((with_reducible refine gE ?_);(try simp (disch:=omega) only [go_sem,mB,mV,mC,Zam,Zat,Zdi,Zx8,Zx6,Zx5,Zx4,Int.reduceAdd,Int.reduceSub,Int.reduceToNat,Zyh])<;>first|rfl|done))|((with_reducible apply gyr (t0 _ _));(focus rfl);(focus rfl);iterate 3 focus ((with_reducible refine gE ?_);(try simp (disch:=omega) only [go_sem,mB,mV,mC,Zam,Zat,Zdi,Zx8,Zx6,Zx5,Zx4,Int.reduceAdd,Int.reduceSub,Int.reduceToNat,Zyh])<;>first|rfl|done))|(with_reducible refine Zcv ?_;intro _)|((with_reducible refine gE ?_);(try simp (disch:=omega) only [go_sem,mB,mV,mC,Zam,Zat,Zdi,Zx8,Zx6,Zx5,Zx4,Int.reduceAdd,Int.reduceSub,Int.reduceToNat,Zyh])<;>first|rfl|omega)|with_reducible refine Zag zd ?_|((with_reducible apply gy1);iterate 3 focus rfl)|((with_reducible apply gy2);iterate 3 focus rfl)|((with_reducible apply gy3);iterate 2 focus rfl)|((with_reducible apply gy4);iterate 1 focus rfl)|((with_reducible apply gy5);iterate 4 focus rfl)|((with_reducible apply gy5c);iterate 4 focus rfl)|((with_reducible apply gy6);iterate 4 focus rfl)|((with_reducible apply Zgz);iterate 3 focus rfl)|((with_reducible apply Zgo);iterate 1 focus rfl)|((with_reducible apply gy7);iterate 1 focus rfl)|((with_reducible apply gy9);(focus ((with_reducible refine gE ?_);(try simp (disch:=omega) only [go_sem,mB,mV,mC,Zam,Zat,Zdi,Zx8,Zx6,Zx5,Zx4,Int.reduceAdd,Int.reduceSub,Int.reduceToNat,Zyh])<;>rfl)))|((with_reducible apply gz1);(focus first|rfl|(simp (disch:=omega) only [go_sem,mB,mV,mC,Zam,Zat,Zdi,Zx8,Zx6,Zx5,Zx4,Int.reduceAdd,Int.reduceSub,Int.reduceToNat,Zyh];done)))|((with_reducible apply Zbo (id:=9) (Zdv [(1,coA (aa,ab)),(2,coA (aa,ab)),(4,coA (ba,bb)),(6,coA (ca,cb)),(7,coA (y1,y2)),(8,coA (x1,x2))]) [] [6]);(focus kernel_rfl);(focus rfl);(focus kernel_rfl);(focus (simp only [Zyk,Zym,Nat.reduceAdd];rfl)))|((with_reducible first|apply Zcw|apply Zd3|apply Zcy);all_goals (intro hc;(try simp only [bool_to_prop] at hc);try (exfalso;omega)))))
 simp (disch:=omega) only [go_sem];refine Zd4 (Sub.refl _) ⟨svV,rfl,rfl⟩ ?_;rw [Zc0 hV,Zc0 hB]
 (repeat' (first|exact Agr.start _|(refine Agr.own ?_ zo)))
theorem cbStep4 (σ:Mem) (KB KC KV g:Nat) (svC svV:Value) (cs:List (Po × Po)) (vs:List Vt) (fr:Nat) (i:Nat) (s:RS) (hB:σ KB=some (.box g 165 [.own KC svC,.own KV svV,iv fr] false)) (hV:σ KV=some (.row svV 106 3 (vs.map Vt.av) 0)) (hC:σ KC=some (.row svC 98 2 (cs.map coA) 0)) (hBV:KB≠KV) (hBC:KB≠KC) (hVC:KV≠KC) (hl:vs.length≤64) (hf:fr≤100) (hok:StOk cs s) (hco:∀c∈cs,Co c.1∧Co c.2) (hk:s.k=4):ACall prog 104 [.pbox KB g 0,s.av,iv i] σ λr σ'=>∃sv,r=coA (FS.nxt ⟨cs,vs,fr⟩ i s).2 ∧
 σ'=upd (upd σ KV (some (.row sv 106 3 ((vs++(FS.nxt ⟨cs,vs,fr⟩ i s).1).map Vt.av) 0))) KB (some (.box g 165 [.own KC svC,.own KV sv,iv (if s.k=1 then fr+1 else fr:Nat)] false)):=by
 have mB:=Zah hB;have mV:=Zah hV;have mC:=Zah hC;simp only [Ent.sh,AV.shL,AV.sh] at mB mV mC;have har:arS s.k=3:=by rw [hk];rfl
 have hal:=hok.al;have h0:=hok.ai 0 zo;obtain⟨a1,a2⟩:Co (cs.getD (gI s.ar 0).toNat ([],[])).1∧Co (cs.getD (gI s.ar 0).toNat ([],[])).2:=hco _ (Za2 zo);have h1:=hok.ai 1 zo;obtain⟨b1,b2⟩:Co (cs.getD (gI s.ar 1).toNat ([],[])).1∧Co (cs.getD (gI s.ar 1).toNat ([],[])).2:=hco _ (Za2 zo);have h2:=hok.ai 2 zo;obtain⟨c1,c2⟩:Co (cs.getD (gI s.ar 2).toNat ([],[])).1∧Co (cs.getD (gI s.ar 2).toNat ([],[])).2:=hco _ (Za2 zo)
 have en:FS.nxt ⟨cs,vs,fr⟩ i s=([],(addM (cs.getD (gI s.ar 0).toNat ([],[])).1 (subM (cs.getD (gI s.ar 1).toNat ([],[])).2 (cs.getD (gI s.ar 2).toNat ([],[])).2),addM (cs.getD (gI s.ar 0).toNat ([],[])).2 (subM (cs.getD (gI s.ar 2).toNat ([],[])).1 (cs.getD (gI s.ar 1).toNat ([],[])).1))):=by
  unfold FS.nxt;simp only [hk];rfl
 rw [en];simp only [Zx4 (show ¬s.k=1 by omega)];clear en;generalize ha:cs.getD (gI s.ar 0).toNat ([],[])=a at *;generalize hb:cs.getD (gI s.ar 1).toNat ([],[])=b at *;generalize hc:cs.getD (gI s.ar 2).toNat ([],[])=c at *;have n1:=a1.ln;have n2:=a2.ln;have n3:=b1.ln;have n4:=b2.ln;have n5:=c1.ln;have n6:=c2.ln;have s1:=Zmk c.1 b.1 c1.pk b1.pk c1.st b1.st zo zo zo zo zo;have s2:=Zmk c.2 b.2 c2.pk b2.pk c2.st b2.st zo zo zo zo zo;have l1:=Zdg c.1 b.1;have l2:=Zdg c.2 b.2;have l3:=Zdg b.2 c.2;have hn:=poNeg (subM c.2 b.2) (c2.pk.sub b2.pk) (Zbu ordM c2.st b2.st) zo zo zo;rw [show Zaw (-1) (subM c.2 b.2)=subM b.2 c.2 from neg_sub ordM c2.st b2.st] at hn
 have e1:=Zkg a.1 (subM b.2 c.2) a1.pk (b2.pk.sub c2.pk) a1.st (Zbu ordM b2.st c2.st) zo zo zo zo zo;have e2:=Zkg a.2 (subM c.1 b.1) a2.pk (c1.pk.sub b1.pk) a2.st (Zbu ordM c1.st b1.st) zo zo zo zo zo;have cB:=Zir b c s1 s2;have oa:=coOf a;have cC:=Zg1 122 a (subM b.2 c.2,subM c.1 b.1) (addM a.1 (subM b.2 c.2),addM a.2 (subM c.1 b.1)) e1 e2;obtain⟨k,nm,ar,⟨rs,rl,rd⟩⟩:=s;simp only at *;subst hk;have t0:=λg3 g4=>cbAt 3 4 (KB+1000) (KC+1000) (KV+1000) g3 g4 g svC svV fr 4 nm ar (.v (.bool rs)) (lim rl) (lim rd) cs 0 ⟨rfl,rfl,rfl⟩ zo h0;have t1:=λg3 g4=>cbAt 3 4 (KB+1000) (KC+1000) (KV+1000) g3 g4 g svC svV fr 4 nm ar (.v (.bool rs)) (lim rl) (lim rd) cs 1 ⟨rfl,rfl,rfl⟩ zo h1
 have t2:=λg3 g4=>cbAt 3 4 (KB+1000) (KC+1000) (KV+1000) g3 g4 g svC svV fr 4 nm ar (.v (.bool rs)) (lim rl) (lim rd) cs 2 ⟨rfl,rfl,rfl⟩ zo h2;rw [ha] at t0;rw [hb] at t1;rw [hc] at t2;clear s1 s2 e1 e2 l1 l2 l3 a1 a2 b1 b2 c1 c2 hco hok n1 n2 n3 n4 n5 n6 ha hb hc;generalize addM a.1 (subM b.2 c.2)=x1 at *;generalize addM a.2 (subM c.1 b.1)=x2 at *;generalize subM c.1 b.1=y1 at *;generalize subM c.2 b.2=y2 at *;generalize subM b.2 c.2=y3 at *;obtain⟨aa,ab⟩:=a;obtain⟨ba,bb⟩:=b;obtain⟨ca,cb⟩:=c;refine Zap func104 rfl ntmps104 results104 call104 zr zs ?_
 (repeat' (first|(with_reducible first|refine stp ?_|apply gx1|apply gx2|apply gx3|apply gx4|apply gx5|apply gx6|apply gx7|apply gy8|apply gz2|apply gz3|refine gwr (t0 _ _) ?_ ?_|refine gwr (t1 _ _) ?_ ?_|refine gwr (t2 _ _) ?_ ?_|refine gw0 (oa) ?_ ?_|refine gw3 (oa) ?_ ?_ ?_|refine gw0 (cB) ?_ ?_|refine gw3 (cB) ?_ ?_ ?_|refine gw0 (cC) ?_ ?_|refine gw3 (cC) ?_ ?_ ?_|refine gw0 (hn) ?_ ?_|refine gw3 (hn) ?_ ?_ ?_)|((with_reducible apply gyr (t2 _ _));(focus rfl);(focus rfl);iterate 3 focus ((with_reducible refine gE ?_);(try simp (disch:=omega) only [go_sem,mB,mV,mC,Zam,Zat,Zdi,Zx8,Zx6,Zx5,Zx4,Int.reduceAdd,Int.reduceSub,Int.reduceToNat,Zyh])<;>first|rfl|done))|((with_reducible apply gyr (t1 _ _));(focus rfl);(focus rfl);iterate 3 focus ((with_reducible refine gE ?_);(try simp (disch:=omega) only [go_sem,mB,mV,mC,Zam,Zat,Zdi,Zx8,Zx6,Zx5,Zx4,Int.reduceAdd,Int.reduceSub,Int.reduceToNat,Zyh])<;>first|rfl|done))|((with_reducible apply gyr (t0 _ _));(focus rfl);(focus rfl);iterate 3 focus ((with_reducible refine gE ?_);(try simp (disch:=omega) only [go_sem,mB,mV,mC,Zam,Zat,Zdi,Zx8,Zx6,Zx5,Zx4,Int.reduceAdd,Int.reduceSub,Int.reduceToNat,Zyh])<;>first|rfl|done))|(with_reducible refine Zcv ?_;intro _)|((with_reducible refine gE ?_);(try simp (disch:=omega) only [go_sem,mB,mV,mC,Zam,Zat,Zdi,Zx8,Zx6,Zx5,Zx4,Int.reduceAdd,Int.reduceSub,Int.reduceToNat,Zyh])<;>first|rfl|omega)|with_reducible refine Zag zd ?_|((with_reducible apply gy1);iterate 3 focus rfl)|((with_reducible apply gy2);iterate 3 focus rfl)|((with_reducible apply gy3);iterate 2 focus rfl)|((with_reducible apply gy4);iterate 1 focus rfl)|((with_reducible apply gy5);iterate 4 focus rfl)|((with_reducible apply gy5c);iterate 4 focus rfl)|((with_reducible apply gy6);iterate 4 focus rfl)|((with_reducible apply Zgz);iterate 3 focus rfl)|((with_reducible apply Zgo);iterate 1 focus rfl)|((with_reducible apply gy7);iterate 1 focus rfl)|((with_reducible apply gy9);(focus ((with_reducible refine gE ?_);(try simp (disch:=omega) only [go_sem,mB,mV,mC,Zam,Zat,Zdi,Zx8,Zx6,Zx5,Zx4,Int.reduceAdd,Int.reduceSub,Int.reduceToNat,Zyh])<;>rfl)))|((with_reducible apply gz1);(focus first|rfl|(simp (disch:=omega) only [go_sem,mB,mV,mC,Zam,Zat,Zdi,Zx8,Zx6,Zx5,Zx4,Int.reduceAdd,Int.reduceSub,Int.reduceToNat,Zyh];done)))|((with_reducible apply Zbo (id:=11) (Zdv [(1,coA (ba,bb)),(3,coA (ca,cb)),(4,coA (y1,y2))]) [] []);(focus kernel_rfl);(focus rfl);(focus kernel_rfl);(focus (simp only [Zyk,Zym,Nat.reduceAdd];rfl)))|((with_reducible apply Zbo (id:=12) (Zdv [(1,coA (aa,ab)),(2,coA (aa,ab)),(5,poA y3),(9,coA (x1,x2))]) [] [6]);(focus kernel_rfl);(focus rfl);(focus kernel_rfl);(focus (simp only [Zyk,Zym,Nat.reduceAdd];rfl)))|((with_reducible first|apply Zcw|apply Zd3|apply Zcy);all_goals (intro hc;(try simp only [bool_to_prop] at hc);try (exfalso;omega)))))
 simp (disch:=omega) only [go_sem];refine Zd4 (Sub.refl _) ⟨svV,rfl,rfl⟩ ?_;rw [Zc0 hV,Zc0 hB]
 (repeat' (first|exact Agr.start _|(refine Agr.own ?_ zo)))
theorem cbStep5 (σ:Mem) (KB KC KV g:Nat) (svC svV:Value) (cs:List (Po × Po)) (vs:List Vt) (fr:Nat) (i:Nat) (s:RS) (hB:σ KB=some (.box g 165 [.own KC svC,.own KV svV,iv fr] false)) (hV:σ KV=some (.row svV 106 3 (vs.map Vt.av) 0)) (hC:σ KC=some (.row svC 98 2 (cs.map coA) 0)) (hBV:KB≠KV) (hBC:KB≠KC) (hVC:KV≠KC) (hl:vs.length≤64) (hf:fr≤100) (hok:StOk cs s) (hco:∀c∈cs,Co c.1∧Co c.2) (hk:s.k=5):ACall prog 104 [.pbox KB g 0,s.av,iv i] σ λr σ'=>∃sv,r=coA (FS.nxt ⟨cs,vs,fr⟩ i s).2 ∧
 σ'=upd (upd σ KV (some (.row sv 106 3 ((vs++(FS.nxt ⟨cs,vs,fr⟩ i s).1).map Vt.av) 0))) KB (some (.box g 165 [.own KC svC,.own KV sv,iv (if s.k=1 then fr+1 else fr:Nat)] false)):=by
 have mB:=Zah hB;have mV:=Zah hV;have mC:=Zah hC;simp only [Ent.sh,AV.shL,AV.sh] at mB mV mC;have har:arS s.k=2:=by rw [hk];rfl
 have hal:=hok.al;have h0:=hok.ai 0 zo;obtain⟨a1,a2⟩:Co (cs.getD (gI s.ar 0).toNat ([],[])).1∧Co (cs.getD (gI s.ar 0).toNat ([],[])).2:=hco _ (Za2 zo);have h1:=hok.ai 1 zo;obtain⟨b1,b2⟩:Co (cs.getD (gI s.ar 1).toNat ([],[])).1∧Co (cs.getD (gI s.ar 1).toNat ([],[])).2:=hco _ (Za2 zo)
 have en:FS.nxt ⟨cs,vs,fr⟩ i s=([(1,(i:Int),0)],(addM (cs.getD (gI s.ar 0).toNat ([],[])).1 (mlM (subM (cs.getD (gI s.ar 1).toNat ([],[])).1 (cs.getD (gI s.ar 0).toNat ([],[])).1) (varM vs.length)),addM (cs.getD (gI s.ar 0).toNat ([],[])).2 (mlM (subM (cs.getD (gI s.ar 1).toNat ([],[])).2 (cs.getD (gI s.ar 0).toNat ([],[])).2) (varM vs.length)))):=by
  unfold FS.nxt;simp only [hk];rfl
 rw [en];simp only [Zx4 (show ¬s.k=1 by omega)];clear en;generalize ha:cs.getD (gI s.ar 0).toNat ([],[])=a at *;generalize hb:cs.getD (gI s.ar 1).toNat ([],[])=b at *;have s1:=Zmk b.1 a.1 b1.pk a1.pk b1.st a1.st (by have:=b1.ln;omega) (by have:=a1.ln;omega) zo zo zo;have s2:=Zmk b.2 a.2 b2.pk a2.pk b2.st a2.st (by have:=b2.ln;omega) (by have:=a2.ln;omega) zo zo zo;have d1:=b1.pk.sub a1.pk;have d2:=b2.pk.sub a2.pk;have t1:=Zbu ordM b1.st a1.st;have t2:=Zbu ordM b2.st a2.st;have l1:=Zdg b.1 a.1;have l2:=Zdg b.2 a.2;have n1:=a1.ln;have n2:=a2.ln;have n3:=b1.ln;have n4:=b2.ln
 have c1:=Zr1 (subM b.1 a.1) vs.length d1 t1 zo zo zo;have c2:=Zr1 (subM b.2 a.2) vs.length d2 t2 zo zo zo;have e1:=Zkg a.1 (mlM (subM b.1 a.1) (varM vs.length)) (a1.pk.mono (Zx7 _) (show 1≤2 by omega)) d1.mulV a1.st (Zbr ordM mulK t1 (Zce _)) zo (by have:=Zhd (subM b.1 a.1) vs.length;omega) zo zo zo;have e2:=Zkg a.2 (mlM (subM b.2 a.2) (varM vs.length)) (a2.pk.mono (Zx7 _) (show 1≤2 by omega)) d2.mulV a2.st (Zbr ordM mulK t2 (Zce _)) zo (by have:=Zhd (subM b.2 a.2) vs.length;omega) zo zo zo;obtain⟨k,nm,ar,⟨rs,rl,rd⟩⟩:=s;simp only at *
 subst hk;have al:=λsv1 g3 g4 g7 g10=>cbAlongM 3 4 7 (KB+1000) (KC+1000) (KV+1000) g3 g4 g7 g svC sv1 fr 5 nm ar rs rl rd 10 g10 (varM vs.length) cs a b (mlM (subM b.1 a.1) (varM vs.length),mlM (subM b.2 a.2) (varM vs.length)) (addM a.1 (mlM (subM b.1 a.1) (varM vs.length)),addM a.2 (mlM (subM b.2 a.2) (varM vs.length))) zo h0 h1 ha hb s1 s2 c1 c2 e1 e2;clear s1 s2 c1 c2 e1 e2 d1 d2 t1 t2 l1 l2 a1 a2 b1 b2 hco hok n1 n2 n3 n4;generalize addM a.1 (mlM (subM b.1 a.1) (varM vs.length))=x1 at *;generalize addM a.2 (mlM (subM b.2 a.2) (varM vs.length))=x2 at *;refine Zap func104 rfl ntmps104 results104 call104 zr zs ?_
 (focus (refine wkad (w_4 mB mV mC @Zam) w_t w_t ?_;(repeat' first|exact w_t|apply w_l);all_goals intros));refine Zb9 ((Zec _ (KB+1000) (KC+1000) (KV+1000) g svC svV vs fr 1 (i:Int) 0 (by(simp (disch:=omega) only [go_sem,mB,mV,Zx4,Zx5]<;>repeat' first|rfl|refine⟨?_,?_⟩)) (by(simp (disch:=omega) only [go_sem,mB,mV,Zx4,Zx5]<;>repeat' first|rfl|refine⟨?_,?_⟩)) zo zo)) ?_;intro sv1;generalize varM vs.length=t at *;(focus (refine wkad (w_4 mB mV mC @Zam) w_t w_t ?_;(repeat' first|exact w_t|apply w_l);all_goals intros));rename_i g3 g4 g6 g7 g10;have al:=al sv1 g3 g4 g7 g10
 (focus (refine wkax (w_5 mB mV mC @Zam @Zdi) w_t w_t w_t w_t (w_1 al) w_y (w_r 0) ?_;(repeat' first|exact w_t|apply w_l);all_goals intros));simp (disch:=omega) only [go_sem];refine Zd4 (Sub.refl _) ⟨sv1,rfl,rfl⟩ ?_;intro k;by_cases hk1:k=KB
 ·rw [hk1];simp (disch:=omega) only [Zau,Zx5,Zx4,Zze,Ent.sh,AV.shL,AV.sh]
  try rfl
 ·by_cases hk2:k=KV
  ·rw [hk2];simp (disch:=omega) only [Zau,Zx5,Zx4,Zze,Ent.sh,AV.shL,AV.sh]
   try rfl
  ·simp (disch:=omega) only [Zau,Zx4];exact Agr.start σ k
theorem cbStep (σ:Mem) (KB KC KV g:Nat) (svC svV:Value) (cs:List (Po × Po)) (vs:List Vt) (fr:Nat) (i:Nat) (s:RS) (hB:σ KB=some (.box g 165 [.own KC svC,.own KV svV,iv fr] false)) (hV:σ KV=some (.row svV 106 3 (vs.map Vt.av) 0)) (hC:σ KC=some (.row svC 98 2 (cs.map coA) 0)) (hBV:KB≠KV) (hBC:KB≠KC) (hVC:KV≠KC) (hl:vs.length≤64) (hf:fr≤100) (hok:StOk cs s) (hco:∀c∈cs,Co c.1∧Co c.2):ACall prog 104 [.pbox KB g 0,s.av,iv i] σ λr σ'=>∃sv,r=coA (FS.nxt ⟨cs,vs,fr⟩ i s).2 ∧
 σ'=upd (upd σ KV (some (.row sv 106 3 ((vs++(FS.nxt ⟨cs,vs,fr⟩ i s).1).map Vt.av) 0))) KB (some (.box g 165 [.own KC svC,.own KV sv,iv (if s.k=1 then fr+1 else fr:Nat)] false)):=by
 by_cases k1:s.k=1
 ·exact cbStep1 σ KB KC KV g svC svV cs vs fr i s hB hV hC hBV hBC hVC hl hf k1
 ·by_cases k2:s.k=2
  ·exact cbStep2 σ KB KC KV g svC svV cs vs fr i s hB hV hC hBV hBC hVC hl hf hok hco k2
  ·by_cases k3:s.k=3
   ·exact cbStep3 σ KB KC KV g svC svV cs vs fr i s hB hV hC hBV hBC hVC hl hf hok hco k3
   ·by_cases k4:s.k=4
    ·exact cbStep4 σ KB KC KV g svC svV cs vs fr i s hB hV hC hBV hBC hVC hl hf hok hco k4
    ·by_cases k5:s.k=5
     ·exact cbStep5 σ KB KC KV g svC svV cs vs fr i s hB hV hC hBV hBC hVC hl hf hok hco k5
     ·by_cases k6:s.k=6
      ·exact cbStep6 σ KB KC KV g svC svV cs vs fr i s hB hV hC hBV hBC hVC hl hf k6
      ·exact cbStep7 σ KB KC KV g svC svV cs vs fr i s hB hV hC hBV hBC hVC hl hf ⟨k1,k2,k3,k4,k5,k6⟩
abbrev frmA (cs:List (Po × Po)) (vs:List Vt):AV:=.agg [.sl 2 (cs.map coA),.sl 3 (vs.map Vt.av)]
def Zen (l:List Vt) (i:Nat):List Int:=((List.range i).filter λj=>decide ((l.getD j (0,0,0)).1=1)).map λn:Nat=>(n:Int)
theorem Zob (l:List Vt) (i:Nat):(Zen l i).length≤i:=by
 unfold Zen;rw [Zx9];exact Zye (List.length_filter_le _ _) zs
theorem Zml {l:List Vt} {i:Nat} (h:(l.getD i (0,0,0)).1=1):Zen l (i+1)=Zen l i++[(i:Int)]:=by
 unfold Zen;rw [List.range_succ,ZCy,ZCz,Zx5 (Zx8 h),Zys];rfl
theorem Zqh {l:List Vt} {i:Nat} (h:(l.getD i (0,0,0)).1≠1):Zen l (i+1)=Zen l i:=by
 unfold Zen;rw [List.range_succ,ZCy,ZCz,Zx4 (by rw [Zx6 h];simp),Zys];simp
theorem Zru (cs:List (Po × Po)) (l:List Vt) (hl:l.length≤70):Pure prog 39 [frmA cs l] (ivs (Zen l l.length)):=by
 show Pure _ _ [.agg [.sl 2 (cs.map coA),.sl 3 (l.map Vt.av)]] _;generalize cs.map coA=C;refine pI func39 rfl ntmps39 results39 call39 ?_;(focus (refine wkap (w_1 @Zbv) w_t (w_r 0) ?_;(repeat' first|exact w_t|apply w_l);all_goals intros));refine Zf5 (Frz.nilOwn (d:=3) 20 1 3 (gC)) ?_;refine Zad (ι:=Nat) (λi e m=>i≤l.length∧e 7=.sl 3 (l.map Vt.av)∧e 8=iv l.length∧e 9=iv i∧∃sv,e 3=.own 20 sv∧m 20=some (.row sv 3 1 ((Zen l i).map iv) 0)) (λi=>l.length - i) 0 zr ?_ ?_
 ·rintro i e m ⟨hi,e7,e8,e9,sv,e3,em⟩
  have hpl:=Zob l i;by_cases hlt:i < l.length
  ·have hg:(l.map Vt.av).getD i .u=Vt.av (l.getD i (0,0,0)):=by rw [Zyg,Zzt,Zyf hlt,Zyg,Zyf hlt];rfl
   by_cases h1:(l.getD i (0,0,0)).1=1
   ·have hs:=Zml h1;generalize Zen l i=ps at *;generalize l.getD i (0,0,0)=v at *;obtain⟨v1,v2,v3⟩:=v;(focus (refine wkap (w_8 e7 e8 e9 e3 em hg h1 @Zbv) w_t (w_r 0) ?_;(repeat' first|exact w_t|apply w_l);all_goals intros));all_goals refine⟨i+1,⟨zo,gW e7,gW e8,gS,_,gW e3,?_⟩,zo⟩
    all_goals (rw [hs,Zys];exact gC)
   ·have hs:=Zqh h1;generalize Zen l i=ps at *;generalize l.getD i (0,0,0)=v at *;obtain⟨v1,v2,v3⟩:=v;(focus (refine wkap (w_7 e7 e8 e9 e3 em hg @Zbv) w_t (w_r 0) ?_;(repeat' first|exact w_t|apply w_l);all_goals intros));all_goals refine⟨i+1,⟨zo,gW e7,gW e8,gS,_,gW e3,?_⟩,zo⟩
    all_goals (rw [hs];exact gW em)
  ·have hi2:i=l.length:=zo;subst hi2;(focus (refine wkap (w_6 e7 e8 e9 e3 em @Zbv) w_t (w_r 0) ?_;(repeat' first|exact w_t|apply w_l);all_goals intros));simp (disch:=omega) only [go_sem,em,Zx9]
 ·exact⟨zo,gC,by(simp (disch:=omega) only [go_sem,Zx9]<;>repeat' first|rfl|refine⟨?_,?_⟩),gC,_,gC,by(simp (disch:=omega) only [go_sem,Zen,List.range_zero,List.filter_nil]<;>repeat' first|rfl|refine⟨?_,?_⟩)⟩
def cnt1 (l:List Vt):Nat:=(l.filter λv=>decide (v.1=1)).length
def cF (ss:List RS):Nat→Nat
 | 0=>0
 | i+1=>cF ss i+if (ss.getD i RS.zero).k=1 then 1 else 0
def cP (ss:List RS):Nat→Nat
 | 0=>0
 | i+1=>cP ss i+if (ss.getD i RS.zero).k=5∨(ss.getD i RS.zero).k=6 then 1 else 0
def cD (ss:List RS):Nat→Nat
 | 0=>0
 | i+1=>cD ss i+if (ss.getD i RS.zero).k=1∨(ss.getD i RS.zero).k=2∨(ss.getD i RS.zero).k=3∨(ss.getD i RS.zero).k=4∨(ss.getD i RS.zero).k=5 then 0 else 2
theorem Zo5 (ss:List RS):∀i,(frN ss i).fr≤i
 | 0=>Zx7 _
 | i+1=>by
   have:=Zo5 ss i;unfold frN;simp only [FS.push];split<;>omega
theorem Zr9 (ss:List RS):∀i k,nfN ss i≤nfN ss (i+k)
 | i,0=>Zx7 _
 | i,k+1=>Zye (Zr9 ss i k) (by show _≤nfN ss (i+k)+_;omega)
structure FigOk (ss:List RS):Prop where
 len:ss.length≤40
 er:∀i,i < ss.length→errS ss i=0
 lm:∀s∈ss,s.r.lm 2
 nf:nfN ss ss.length≤20
theorem FigOk.fi {ss:List RS} (h:FigOk ss) {i:Nat} (hi:i≤ss.length) (hj:∀j,j < i→bigN ss j=false):∃D,FI (frN ss i) (nfN ss i) D∧nfN ss i≤20:=by
 have hr:∀s∈ss,s.k=2→s.r.ok=true:=λs hs=>by
  obtain⟨j,hj,rfl⟩:=List.mem_iff_getElem.1 hs;exact(Zge hj (h.er j hj)).2.2.2
 obtain⟨D,hD⟩:=frN_ok ss hr (λs hs=>lm_bd (h.lm s hs)) i hi hj;refine⟨D,hD,Zye ?_ h.nf⟩;have:=Zr9 ss i (ss.length - i)
 rwa [show i+(ss.length - i)=ss.length by omega] at this
theorem FI.co {f:FS} {n D:Nat} (h:FI f n D) (hn:n≤20):∀c∈f.cs,Co c.1∧Co c.2:=λc hc=>by
 obtain⟨h1,h2⟩:=h.cs c hc;obtain⟨l1,l2⟩:=h.ln c hc;have hv:=h.nv;exact⟨⟨h1.pk zo h.D0 h.Dl hn,h1.1,l1⟩,⟨h2.pk zo h.D0 h.Dl hn,h2.1,l2⟩⟩
theorem FigOk.st {ss:List RS} (h:FigOk ss) {i:Nat} (hi:i < ss.length):StOk (frN ss i).cs ss[i]:=by
 obtain⟨h1,h2,h3,h4⟩:=Zge hi (h.er i hi);exact⟨h1,h2,λk hk=>by rw [Zeu];exact h3 k hk,h4,h.lm _ (Zyl hi)⟩
theorem Zeg {ss:List RS} {i:Nat} (hi:i < ss.length):frN ss (i+1)=⟨(frN ss i).cs++[((frN ss i).nxt i ss[i]).2],(frN ss i).vs++((frN ss i).nxt i ss[i]).1,if ss[i].k=1 then (frN ss i).fr+1 else (frN ss i).fr⟩:=by
 show(frN ss i).push i (ss.getD i RS.zero)=_;rw [show ss.getD i RS.zero=ss[i] from by rw [Zyg,Zyf hi];rfl];rfl
theorem Zne {ss:List RS} {i:Nat} (hi:i < ss.length):bigN ss i=(decide (64 < ((frN ss i).vs++((frN ss i).nxt i ss[i]).1).length) || decide (4000 < ((frN ss i).nxt i ss[i]).2.1.length) || decide (4000 < ((frN ss i).nxt i ss[i]).2.2.length)):=by
 unfold bigN;rw [Zeg hi,show ss.getD i ⟨0,.empty,[],⟨false,[],[]⟩⟩=ss[i] from by rw [Zyg,Zyf hi];rfl]
theorem Zmo (f:FS) (i:Nat) (s:RS):(f.nxt i s).1.length≤3:=by
 unfold FS.nxt;simp only
 repeat' split
 all_goals simp
def CbStep (i:Nat) (s:RS):Prop:=∀(σ:Mem) (KB KC KV g:Nat) (svC svV:Value) (cs:List (Po × Po)) (vs:List Vt) (fr:Nat),σ KB=some (.box g 165 [.own KC svC,.own KV svV,iv fr] false)→σ KV=some (.row svV 106 3 (vs.map Vt.av) 0)→σ KC=some (.row svC 98 2 (cs.map coA) 0)→KB≠KV→KB≠KC→KV≠KC→vs.length≤64→fr≤100→StOk cs s→(∀c∈cs,Co c.1∧Co c.2)→ACall prog 104 [.pbox KB g 0,s.av,iv i] σ λr σ'=>∃sv,r=coA (FS.nxt ⟨cs,vs,fr⟩ i s).2 ∧
 σ'=upd (upd σ KV (some (.row sv 106 3 ((vs++(FS.nxt ⟨cs,vs,fr⟩ i s).1).map Vt.av) 0))) KB (some (.box g 165 [.own KC svC,.own KV sv,iv (if s.k=1 then fr+1 else fr:Nat)] false))
theorem coFrameG (ss:List RS) (gs:List RG) (cR:Pure prog 103 [figA ss gs] (iv 0)) (ho:FigOk ss) (hcb:∀i (h:i < ss.length),CbStep i ss[i]) :
 Pure prog 40 [figA ss gs] (if (List.range ss.length).any (bigN ss)=true then .tup [.agg [.v (.slice none 0 0),.v (.slice none 0 0)],iv 4] else .tup [frmA (frN ss ss.length).cs (frN ss ss.length).vs,iv 0]):=by
 have cR:Pure prog 103 [.agg [.sl 6 (ss.map RS.av),.sl 5 (gs.map RG.av)]] (iv 0):=cR;show Pure _ _ [.agg [.sl 6 (ss.map RS.av),.sl 5 (gs.map RG.av)]] _;have hg:∀i (h:i < ss.length),(ss.map RS.av).getD i .u=ss[i].av:=λi h=>Zaj RS.av h;have hls:(ss.map RS.av).length=ss.length:=Zx9 ..;have hlen:=ho.len;generalize ss.map RS.av=M at *;generalize gs.map RG.av=N at *;refine pI func40 rfl ntmps40 results40 call40 ?_;(focus (refine wkad (w_1 hls) (w_1 cR) w_t ?_;(repeat' first|exact w_t|apply w_l);all_goals intros));rename_i g1 g2 gb;refine Zf5 (Frz.nilBox (k:=16) 0 20 2 98 (gC) rfl zo) ?_
 refine Zf5 (Frz.nilBox (k:=16) 1 21 3 106 (gC) rfl zo) ?_;refine Zad (ι:=Nat) (λi e m=>i≤ss.length∧e 2=.pbox 2 g2 0∧m 2=some (.box g2 40 [.v (.slice none 0 0),.v (.slice none 0 0)] false)∧e 5=.pbox 16 gb 0∧e 18=.sl 6 M∧e 19=iv ss.length∧e 20=iv i∧(∃svC svV,m 16=some (.box gb 165 [.own 20 svC,.own 21 svV,iv (frN ss i).fr] false)∧m 20=some (.row svC 98 2 ((frN ss i).cs.map coA) 0)∧m 21=some (.row svV 106 3 ((frN ss i).vs.map Vt.av) 0))∧∀j,j < i→bigN ss j=false) (λi=>ss.length - i) 0 zr ?_ ?_
 ·rintro i e m ⟨hi,e2,m2,e5,e18,e19,e20,⟨svC,svV,m16,m20,m21⟩,hbig⟩
  by_cases hlt:i < ss.length
  ·have hgi:=hg i hlt;obtain⟨D,hD,hn⟩:=ho.fi hi hbig;have hco:=hD.co hn;have hst:=ho.st hlt;have hfr:=Zo5 ss i;have hnv:=hD.nv;have hb:=Zne hlt;have hsu:=Zeg hlt;have hn3:=Zmo (frN ss i) i ss[i];have hcl:=Zeu ss i;have hst2:=λm' hB hV hC=>hcb i hlt m' 16 20 21 gb svC svV (frN ss i).cs (frN ss i).vs (frN ss i).fr hB hV hC zo zo zo hnv zo hst hco;rw [show(FS.mk (frN ss i).cs (frN ss i).vs (frN ss i).fr)=frN ss i from rfl] at hst2;clear hD hco hst;generalize hs:ss[i]=s at *;generalize hf:frN ss i=f at *;generalize hx:f.nxt i s=nx at *;obtain⟨nv,c1,c2⟩:=nx;obtain⟨k,nm,ar,⟨rs,rl,rd⟩⟩:=s
   obtain⟨cs,vs,fr⟩:=f;simp only at *;(focus (refine wkad (w_11 e2 m2 e5 e18 e19 e20 m16 m20 m21 hgi hls) w_t w_t ?_;(repeat' first|exact w_t|apply w_l);all_goals intros));refine Zb9 (hst2 _ (gW m16) (gW m21) (gW m20)) ?_;intro sv;generalize hfr2:(if k=1 then fr+1 else fr)=fr2 at *;have hvl:((vs++nv).map Vt.av).length=(vs++nv).length:=Zx9 ..;have hvl2:(vs++nv).length≤67:=by rw [Zy0];omega
   have hnx:∀j,j < i+1→bigN ss i=false→bigN ss j=false:=λj hj h=>by
    by_cases e:j=i
    ·rw [e];exact h
    ·exact hbig j zo
   have hany:bigN ss i=true→(List.range ss.length).any (bigN ss)=true:=λh=>List.any_eq_true.2 ⟨i,List.mem_range.2 hlt,h⟩;generalize vs++nv=vs2 at *;have hc1:(c1.map tmA).length=c1.length:=Zx9 ..;have hc2:(c2.map tmA).length=c2.length:=Zx9 ..;have hcsl:(cs.map coA).length=cs.length:=Zx9 ..;by_cases b1:64 < vs2.length
   ·rw [Zx5 (hany (by rw [hb];simp [b1]))];(focus (refine wkld (w_8 e2 m2 e5 e18 e19 e20 hvl hls) w_t (w_1 e2) w_t ?_;(repeat' first|exact w_t|apply w_l);all_goals intros))
   ·by_cases b2:4000 < c1.length
    ·rw [Zx5 (hany (by rw [hb];simp [b2]))];(focus (refine wkld (w_9 e2 m2 e5 e18 e19 e20 hvl hc1 hls) w_t (w_1 e2) w_t ?_;(repeat' first|exact w_t|apply w_l);all_goals intros))
    ·by_cases b3:4000 < c2.length
     ·rw [Zx5 (hany (by rw [hb];simp [b3]))];(focus (refine wkld (w_10 e2 m2 e5 e18 e19 e20 hvl hc1 hc2 hls) w_t (w_1 e2) w_t ?_;(repeat' first|exact w_t|apply w_l);all_goals intros))
     ·have hbf:bigN ss i=false:=by rw [hb];simp [b1,b2,b3]
      clear hany;(focus (refine wkax (w_12 e2 m2 e5 e18 e19 e20 m20 hvl hc1 hc2 hcsl hls) w_t (w_1 (w_d 11 [] [12,2012,16] [20,60])) w_t w_t w_t w_y (w_r 0) ?_;(repeat' first|exact w_t|apply w_l);all_goals intros));rename_i svC2;refine⟨i+1,⟨zo,gW e2,gW m2,gW e5,gW e18,gW e19,gS,⟨svC2,sv,?_,?_,?_⟩,λj hj=>hnx j hj hbf⟩,zo⟩
      ·rw [hsu];exact gW hfr2
      ·rw [hsu,Zys];exact gC
      ·rw [hsu];exact gC
  ·have hin:i=ss.length:=zo;subst hin
   have hno:¬(List.range ss.length).any (bigN ss)=true:=by
    rw [List.any_eq_true]
    rintro ⟨j,hj,hb⟩
    rw [hbig j (List.mem_range.1 hj)] at hb;cases hb
   rw [Zx4 hno];generalize (frN ss ss.length).fr=fr at *;generalize (frN ss ss.length).cs=cs at *;generalize (frN ss ss.length).vs=vs at *;(focus (refine wkld (w_10 e2 m2 e5 e18 e19 e20 m16 m20 m21 hls) w_t (w_5 e2 m2 m16 m20 m21) w_t ?_;(repeat' first|exact w_t|apply w_l);all_goals intros))
 ·exact⟨Zyi _,gC,gC,gC,gC,gW hls,gC,⟨_,_,by(simp (disch:=omega) only [go_sem,List.set_cons_zero,List.set_cons_succ,frN]<;>repeat' first|rfl|refine⟨?_,?_⟩),by(simp (disch:=omega) only [go_sem,frN,Zy6]<;>repeat' first|rfl|refine⟨?_,?_⟩),by(simp (disch:=omega) only [go_sem,frN,Zy6]<;>repeat' first|rfl|refine⟨?_,?_⟩)⟩,λj hj=>zo⟩
theorem Zsv (ss:List RS) (gs:List RG) (cR:Pure prog 103 [figA ss gs] (iv 0)) (ho:FigOk ss) :
 Pure prog 40 [figA ss gs] (if (List.range ss.length).any (bigN ss)=true then .tup [.agg [.v (.slice none 0 0),.v (.slice none 0 0)],iv 4] else .tup [frmA (frN ss ss.length).cs (frN ss ss.length).vs,iv 0]):=coFrameG ss gs cR ho λi h σ KB KC KV g svC svV cs vs fr hB hV hC a b c hl hf hok hco=>cbStep σ KB KC KV g svC svV cs vs fr i ss[i] hB hV hC a b c hl hf hok hco
def fitS (s:RS):Bool:=!(decide (2 < s.r.l.length) || decide (2 < s.r.d.length) || decide (8 < s.ar.length))
def fitsB (ss:List RS) (gs:List RG):Bool:=ss.all fitS && (decide (nfN ss ss.length≤12) && (decide (ss.length≤42) && decide (gs.length≤10)))
theorem Zpk {α:Type} {p:α→Bool} {l:List α} {i:Nat} (h:i < l.length) (hp:p l[i]=false):l.all p=false:=by
 rw [Bool.eq_false_iff];intro ha;rw [ZAr] at ha;rw [ha _ (Zyl h)] at hp;cases hp
theorem all_of {α:Type} {p:α→Bool} {l:List α} (h:∀j (hj:j < l.length),p l[j]=true):l.all p=true:=by
 rw [ZAr];intro x hx;obtain⟨j,hj,rfl⟩:=List.mem_iff_getElem.1 hx;exact h j hj
theorem Zwd (ss:List RS):∀i,nfN ss i≤i
 | 0=>Zx7 _
 | i+1=>by
   have:=Zwd ss i;unfold nfN;split<;>omega
theorem Zxg {ss:List RS} {gs:List RG} (h:figE ss gs=0):ss.length≤40∧∀i,i < ss.length→errS ss i=0:=by
 unfold figE at h;split at h
 ·omega
 ·rename_i h1;split at h
  ·rename_i h2;exact absurd h h2
  ·rename_i h2;refine⟨zo,Zju ?_⟩;rcases Decidable.em (fstE (errS ss) ss.length=0) with h3 | h3
   ·exact h3
   ·exact absurd h3 h2
theorem Zxf {ss:List RS} (h:(List.range ss.length).any (bigN ss)≠true):(frN ss ss.length).vs.length≤64:=by
 rcases Zzk ss.length with h0 | h0
 ·rw [h0];exact Zyi _
 ·have hb:bigN ss (ss.length - 1)≠true:=λhb=>h (List.any_eq_true.2 ⟨ss.length - 1,List.mem_range.2 zo,hb⟩);unfold bigN at hb;simp only [ne_eq,Zz2,Zy1,not_or,Nat.not_lt] at hb;have:=hb.1.1
  rwa [show ss.length - 1+1=ss.length by omega] at this
theorem ar2 {ar:List Int} {n:Nat} (hl:(ar.length:Int)=2) (h:∀k,k < ar.length→0≤gI ar k∧gI ar k < (n:Int)):∃a b:Nat,ar=[(a:Int),(b:Int)]∧a < n∧b < n:=by
 match ar,hl,h with
 | [x,y],_,h =>
   have h0:=h 0 zs;have h1:=h 1 zs;simp only [gI,Zz0,Zz1] at h0 h1;exact⟨x.toNat,y.toNat,by rw [ZBd h0.1,ZBd h1.1],zo,zo⟩
theorem ar3 {ar:List Int} {n:Nat} (hl:(ar.length:Int)=3) (h:∀k,k < ar.length→0≤gI ar k∧gI ar k < (n:Int)):∃a b c:Nat,ar=[(a:Int),(b:Int),(c:Int)]∧a < n∧b < n∧c < n:=by
 match ar,hl,h with
 | [x,y,z],_,h =>
   have h0:=h 0 zs;have h1:=h 1 zs;have h2:=h 2 zs;simp only [gI,Zz0,Zz1] at h0 h1 h2;exact⟨x.toNat,y.toNat,z.toNat,by rw [ZBd h0.1,ZBd h1.1,ZBd h2.1],zo,zo,zo⟩
theorem ar4 {ar:List Int} {n:Nat} (hl:(ar.length:Int)=4) (h:∀k,k < ar.length→0≤gI ar k∧gI ar k < (n:Int)):∃a b c d:Nat,ar=[(a:Int),(b:Int),(c:Int),(d:Int)]∧a < n∧b < n∧c < n∧d < n:=by
 match ar,hl,h with
 | [x,y,z,w],_,h =>
   have h0:=h 0 zs;have h1:=h 1 zs;have h2:=h 2 zs;have h3:=h 3 zs;simp only [gI,Zz0,Zz1] at h0 h1 h2 h3;exact⟨x.toNat,y.toNat,z.toNat,w.toNat,by rw [ZBd h0.1,ZBd h1.1,ZBd h2.1,ZBd h3.1],zo,zo,zo,zo⟩
def wOf (w:List Int) (s:RS):Int :=
 if s.k=2 then gI w (gI s.ar 0).toNat+gI w (gI s.ar 1).toNat
 else if s.k=3∨s.k=4 then gI w (gI s.ar 0).toNat+gI w (gI s.ar 1).toNat+gI w (gI s.ar 2).toNat
 else if s.k=5 then 2*gI w (gI s.ar 0).toNat+gI w (gI s.ar 1).toNat
 else 1
def wts (ss:List RS):Nat→List Int
 | 0=>[]
 | i+1=>wts ss i++[wOf (wts ss i) (ss.getD i RS.zero)]
theorem Zhx (ss:List RS):∀i,(wts ss i).length=i
 | 0=>rfl
 | i+1=>by show(wts ss i++[_]).length=i+1;rw [Zy0,Zhx ss i];rfl
theorem Zxa (l:List Int) (x:Int) (n:Nat):gI (l++[x]) n=if n < l.length then gI l n else if n=l.length then x else 0:=by
 split
 ·rename_i h;rw [Zdr (by simp;omega),Zdr h,List.getElem_append_left h]
 ·split
  ·rename_i h1 h2;subst h2;rw [Zdr zs];simp
  ·rw [Zb3 (by simp;omega)]
theorem Zla (ss:List RS):∀i n,0≤gI (wts ss i) n∧gI (wts ss i) n≤((3 ^ i:Nat):Int)
 | 0,n=>by rw [Zb3 (Zyi _)];omega
 | i+1,n=>by
   show 0≤gI (wts ss i++[_]) n∧gI (wts ss i++[_]) n≤_;have hp:(3 ^ (i+1):Nat)=3*3 ^ i:=by rw [Zzi,Zy9]
   have hq:1≤3 ^ i:=Nat.one_le_pow _ _ zo;rw [Zxa,hp];have h0:=Zla ss i n;have h1:=Zla ss i (gI (ss.getD i RS.zero).ar 0).toNat;have h2:=Zla ss i (gI (ss.getD i RS.zero).ar 1).toNat;have h3:=Zla ss i (gI (ss.getD i RS.zero).ar 2).toNat;unfold wOf;generalize (3 ^ i:Nat)=z at *;split
   ·omega
   ·split
    ·split
     ·omega
     ·split
      ·omega
      ·split<;>omega
    ·omega
def Zl4 (ss:List RS) (gs:List RG):Bool :=
 (wts ss ss.length).all (λw=>decide (w≤8)) && gs.all λg=>!(decide (g.k=6) || decide (g.k=7)) || g.ar.all λa=>decide (gI (wts ss ss.length) a.toNat≤3)
def rat2 (r:RQ):Bool:=decide (r.l.length≤2) && decide (r.d.length≤2)
def fewB (ss:List RS) (gs:List RG):Bool :=
 decide (ss.length≤8) && (decide (gs.length≤3) && (decide (figE ss gs=0) && (Zl4 ss gs && (ss.all (λs=>rat2 s.r) && gs.all λg=>rat2 g.r))))
end Go.Proofs.YtenfejhaohihoaaGreat
