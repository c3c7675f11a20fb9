/- Contracts of the functions that the law reaches, and the rules by which they are walked. They say what a call hands back for every input within the bounds that each names; no other condition. -/
import Derived.Test.YtenfejhaohihoaaGreatBv6
set_option linter.unusedSimpArgs false
set_option linter.unusedVariables false
set_option maxRecDepth 20000
set_option maxHeartbeats 16000000
namespace Go.Proofs.YtenfejhaohihoaaGreat
open Go Go.RowKit Go.Pg Go.Pol Go.Proofs.Tryz
attribute [-bool_to_prop] Bool.and_eq_decide Bool.or_eq_decide Bool.decide_beq_decide decide_eq_decide
attribute [local go_sem] Zbm Zbo Zbn Zbu Zfv Zc4 Zfb Zqf Zt5 Zbq Zbt Zcw
theorem Zky (p q:Po) {j k e:Nat} (hp:PK p j e) (hq:PK q k e) (sp:SrtM p) (sq:SrtM q) (lp:p.length≤1000000) (lq:q.length≤1000000) (hj:j≤1000000) (hk:k≤1000000) (he:e≤16777216) :
 Pure prog 122 [poA p,poA q] (poA (addM p q)):=by
 have c:=poMerge p q hp hq sp sq lp lq hj hk he;generalize addM p q=r at *;refine pI func122 rfl ntmps122 results122 call122 ?_;(focus (refine wklp w_t (w_1 c) w_t (w_r 0) ?_;(repeat' first|exact w_t|apply w_l);all_goals intros))
theorem Zm9 {p:Po} {t:Tm} {i:Nat} (hi:i < p.length):Zah mulM (p.take (i+1)) t=Zah mulM (p.take i) t++[(p[i].1*t.1,mulM p[i].2 t.2)]:=by
 unfold Zah;rw [ZB7 hi,Zzw];rfl
theorem Zdu (p:Po) (t:Tm):(Zah mulM p t).length=p.length:=by unfold Zah;simp
theorem poTimes (p:Po) (t:Tm) {j k e f:Nat} (hp:PK p j e) (ht:PK [t] k f) (sp:SrtM p) (h0:t.1≠0) (hd:Can t.2) (lp:p.length≤1000000) (hj:j≤1000000) (hk:k≤1000000) (he:e≤16777216) (hf:f≤16777216) :
 Pure prog 181 [poA p,.agg [.v (.bool (decide (t.1.num < 0))),lim (toL t.1.num.natAbs),lim (toL t.1.den),ivs t.2]] (poA (Zah mulM p t)):=by
 refine pI func181 rfl ntmps181 results181 call181 ?_;(focus (refine wkad (w_1 @Zbj) w_t w_t ?_;(repeat' first|exact w_t|apply w_l);all_goals intros));rename_i g3 sv0;refine Zab (ι:=Nat) (λi e m=>i≤p.length∧e 3=.pbox 3 g3 0∧m 3=some (.box g3 111 [.v (.bool (decide (t.1.num < 0))),lim (toL t.1.num.natAbs),lim (toL t.1.den),ivs t.2] false)∧e 12=poA p∧e 13=iv p.length∧e 14=iv i∧∃sv,e 5=.own 11 sv∧m 11=some (.row sv 111 4 ((Zah mulM (p.take i) t).map tmA) 0)) (λi=>p.length - i) 0 zr ?_ ?_
 ·rintro i e m ⟨hi,e3,m3,e12,e13,e14,sv,e5,m11⟩
  by_cases hlt:i < p.length
  ·have hg:=Zaj tmA hlt;have hs:=Zm9 (t:=t) hlt;have ms:=hp _ (Zzt hlt);have m1:=hp.sm he (Zzt hlt);have m2:=ht.sm hf (.head _);have d1:=sp.dom _ (Zzt hlt);have n1:=(sp.1 _ (Zzt hlt)).1;have mt:=(ht t (.head _)).1;have hl:(Zah mulM (p.take i) t).length≤1000000:=by rw [Zdu,Zzv];omega
   generalize p[i]=s at *;have c1:=Zfo s.1 t.1 ms.1 mt zo zo;have c2:=Zgj (s.1*t.1) (ms.1.mul mt) zo;have c3:Pure prog 222 [ivs s.2,ivs t.2] (ivs (Zjd (mulM s.2 t.2))):=monMul s.2 t.2 m1.wd m2.wd;rw [Zsm (mulK.dom _ _ d1 hd)] at c3
   have nz:¬(s.1*t.1).num.sign=0:=by
    rw [Zgv];intro h;rcases Rat.mul_eq_zero.1 h with h | h
    ·exact n1 h
    ·exact h0 h
   have nz2:(!decide ((s.1*t.1).num.sign=0))=true:=by rw [Zzd nz];rfl
   obtain⟨s1,s2⟩:=s;simp only at *;clear ms m1 m2 d1 n1 mt;generalize s1*t.1=z at *;generalize mulM s2 t.2=w at *;generalize Zah mulM (p.take i) t=out at *;(focus (refine wkad (w_10 e3 m3 e12 e13 e14 e5 m11 hg @Zbj nz2) (w_3 c1 c2 c3) (w_1 (w_d 7 [(6,ivs w)] [9,1009] [11,34])) ?_;(repeat' first|exact w_t|apply w_l);all_goals intros));exact⟨i+1,⟨zo,gW e3,gW m3,gW e12,gW e13,gS,_,gC,by rw [hs,Zzw];exact gC⟩,zo⟩
  ·have hi2:i=p.length:=zo;subst hi2;rw [ZAe] at m11;(focus (refine wkld (w_8 e3 m3 e12 e13 e14 e5 m11 @Zbj) w_t (w_1 m11) w_t ?_;(repeat' first|exact w_t|apply w_l);all_goals intros))
 ·exact⟨Zzp _,gC,gC,gC,by(simp (disch:=omega) only [go_sem,Zzg]<;>repeat' first|rfl|refine⟨?_,?_⟩),gC,_,gC,by(simp (disch:=omega) only [go_sem,ZB6,Zah,Zz1,List.replicate_zero]<;>repeat' first|rfl|refine⟨?_,?_⟩)⟩
theorem poTimesN (p:Po) (t:Tm) (hn:t.2=[]) {j k e f:Nat} (hp:PK p j e) (ht:PK [t] k f) (sp:SrtM p) (h0:t.1≠0) (hd:Can t.2) (lp:p.length≤1000000) (hj:j≤1000000) (hk:k≤1000000) (he:e≤16777216) (hf:f≤16777216) :
 Pure prog 181 [poA p,.agg [.v (.bool (decide (t.1.num < 0))),lim (toL t.1.num.natAbs),lim (toL t.1.den),.v (.slice none 0 0)]] (poA (Zah mulM p t)):=by
 refine pI func181 rfl ntmps181 results181 call181 ?_;(focus (refine wkad (w_1 @Zbj) w_t w_t ?_;(repeat' first|exact w_t|apply w_l);all_goals intros));rename_i g3 sv0;refine Zab (ι:=Nat) (λi e m=>i≤p.length∧e 3=.pbox 3 g3 0∧m 3=some (.box g3 111 [.v (.bool (decide (t.1.num < 0))),lim (toL t.1.num.natAbs),lim (toL t.1.den),.v (.slice none 0 0)] false)∧e 12=poA p∧e 13=iv p.length∧e 14=iv i∧∃sv,e 5=.own 11 sv∧m 11=some (.row sv 111 4 ((Zah mulM (p.take i) t).map tmA) 0)) (λi=>p.length - i) 0 zr ?_ ?_
 ·rintro i e m ⟨hi,e3,m3,e12,e13,e14,sv,e5,m11⟩
  by_cases hlt:i < p.length
  ·have hg:=Zaj tmA hlt;have hs:=Zm9 (t:=t) hlt;have ms:=hp _ (Zzt hlt);have m1:=hp.sm he (Zzt hlt);have m2:=ht.sm hf (.head _);have d1:=sp.dom _ (Zzt hlt);have n1:=(sp.1 _ (Zzt hlt)).1;have mt:=(ht t (.head _)).1;have hl:(Zah mulM (p.take i) t).length≤1000000:=by rw [Zdu,Zzv];omega
   generalize p[i]=s at *;have c1:=Zfo s.1 t.1 ms.1 mt zo zo;have c2:=Zgj (s.1*t.1) (ms.1.mul mt) zo;have c3:Pure prog 222 [ivs s.2,ivs t.2] (ivs (Zjd (mulM s.2 t.2))):=monMul s.2 t.2 m1.wd m2.wd;rw [Zsm (mulK.dom _ _ d1 hd)] at c3
   have nz:¬(s.1*t.1).num.sign=0:=by
    rw [Zgv];intro h;rcases Rat.mul_eq_zero.1 h with h | h
    ·exact n1 h
    ·exact h0 h
   have nz2:(!decide ((s.1*t.1).num.sign=0))=true:=by rw [Zzd nz];rfl
   have c3:Pure prog 222 [ivs s.2,.v (.slice none 0 0)] (ivs (mulM s.2 t.2)):=by
    rw [hn] at c3 ⊢;exact Zj9 c3 (.cons (.refl _) (.cons (.nil 1) .nil))
   obtain⟨s1,s2⟩:=s;simp only at *;clear ms m1 m2 d1 n1 mt;generalize s1*t.1=z at *;generalize mulM s2 t.2=w at *;generalize Zah mulM (p.take i) t=out at *;(focus (refine wkad (w_10 e3 m3 e12 e13 e14 e5 m11 hg @Zbj nz2) (w_3 c1 c2 c3) (w_1 (w_d 7 [(6,ivs w)] [9,1009] [11,34])) ?_;(repeat' first|exact w_t|apply w_l);all_goals intros));exact⟨i+1,⟨zo,gW e3,gW m3,gW e12,gW e13,gS,_,gC,by rw [hs,Zzw];exact gC⟩,zo⟩
  ·have hi2:i=p.length:=zo;subst hi2;rw [ZAe] at m11;(focus (refine wkld (w_8 e3 m3 e12 e13 e14 e5 m11 @Zbj) w_t (w_1 m11) w_t ?_;(repeat' first|exact w_t|apply w_l);all_goals intros))
 ·exact⟨Zzp _,gC,gC,gC,by(simp (disch:=omega) only [go_sem,Zzg]<;>repeat' first|rfl|refine⟨?_,?_⟩),gC,_,gC,by(simp (disch:=omega) only [go_sem,ZB6,Zah,Zz1,List.replicate_zero]<;>repeat' first|rfl|refine⟨?_,?_⟩)⟩
def SumOk (l:List Po) (K e:Nat):Prop:=∀a b,PK (sumH ltM ((l.drop a).take b)) K e∧(sumH ltM ((l.drop a).take b)).length≤1000000
theorem SumOk.take {l:List Po} {K e:Nat} (h:SumOk l K e) (k:Nat):SumOk (l.take k) K e:=λa b=>by
 rw [List.drop_take,List.take_take];exact h a _
theorem SumOk.drop {l:List Po} {K e:Nat} (h:SumOk l K e) (k:Nat):SumOk (l.drop k) K e:=λa b=>by
 rw [ZCk];exact h _ b
theorem SumOk.all {l:List Po} {K e:Nat} (h:SumOk l K e):PK (sumH ltM l) K e∧(sumH ltM l).length≤1000000:=by
 have:=h 0 l.length
 rwa [ZBd,ZAe] at this
theorem poSumN:∀(n:Nat) (l:List Po) {K e:Nat},l.length=n→(∀p∈l,SrtM p)→SumOk l K e→l.length≤1000000→K≤1000000→e≤16777216→Pure prog 182 [.sl 1 (l.map poA)] (poA (sumH ltM l)):=by
 intro n
 induction n using Nat.strongRecOn with
 | _ n ih =>
   intro l K e hn hs ho hl hK he
   match l,hn,hs,ho,hl with
   | [],hn,hs,ho,hl =>
     rw [show sumH ltM []=[] from by simp [sumH]];refine Zdh (r:=.v (.slice none 0 0)) ?_ (.nil 4);refine pI func182 rfl ntmps182 results182 call182 ?_;(focus (refine wkld w_t w_t w_t w_t ?_;(repeat' first|exact w_t|apply w_l);all_goals intros))
   | [p],hn,hs,ho,hl =>
     rw [show sumH ltM [p]=p from by simp [sumH]];refine pI func182 rfl ntmps182 results182 call182 ?_;(focus (refine wkld w_t w_t w_t w_t ?_;(repeat' first|exact w_t|apply w_l);all_goals intros))
   | p :: q :: r,hn,hs,ho,hl =>
     obtain⟨L,hL⟩:∃L,L=p :: q :: r:=⟨_,rfl⟩;have h2:2≤L.length:=by rw [hL];simp
     have e1:sumH ltM (p :: q :: r)=addM (sumH ltM (L.take (L.length/2))) (sumH ltM (L.drop (L.length/2))):=by rw [sumH,←hL]
     rw [e1];rw [←hL] at hn hs ho hl ⊢;clear e1 hL;have s1:∀u∈L.take (L.length/2),SrtM u:=λu hu=>hs u (ZAq hu);have s2:∀u∈L.drop (L.length/2),SrtM u:=λu hu=>hs u (ZBg hu);have o1:=(ho.take (L.length/2)).all;have o2:=(ho.drop (L.length/2)).all;have c1:=ih (L.take (L.length/2)).length (by rw [Zzv];omega) (L.take (L.length/2)) rfl s1 (ho.take _) (by rw [Zzv];omega) hK he;have c2:=ih (L.drop (L.length/2)).length (by rw [ZA1];omega) (L.drop (L.length/2)) rfl s2 (ho.drop _) (by rw [ZA1];omega) hK he;have c3:=Zky (sumH ltM (L.take (L.length/2))) (sumH ltM (L.drop (L.length/2))) o1.1 o2.1 (Zip ordM _ s1) (Zip ordM _ s2) o1.2 o2.2 hK hK he
     clear ih s1 s2 o1 o2 ho hs;have hd:(L.length:Int).tdiv 2=((L.length/2:Nat):Int):=Zc9 _ 2;have hh:L.length/2≤L.length:=zo;rw [List.map_take] at c1;rw [List.map_drop] at c2;have hlm:(L.map poA).length=L.length:=Zzg ..;have htk:(L.map poA).take L.length=L.map poA:=by rw [←hlm,ZAe]
     generalize sumH ltM (L.take (L.length/2))=x at *;generalize sumH ltM (L.drop (L.length/2))=y at *;generalize addM x y=z at *;generalize L.length/2=h at *;generalize L.map poA=M at *;generalize L.length=len at *;refine pI func182 rfl ntmps182 results182 call182 ?_;(focus (refine wkld (w_4 hlm hd htk @Zgo) (w_3 c1 c2 c3) w_t (w_1 (w_d 7 [(3,poA x),(7,poA y),(8,poA z)] [] [])) ?_;(repeat' first|exact w_t|apply w_l);all_goals intros))
theorem poSum (l:List Po) {K e:Nat} (hs:∀p∈l,SrtM p) (ho:SumOk l K e) (hl:l.length≤1000000) (hK:K≤1000000) (he:e≤16777216):Pure prog 182 [.sl 1 (l.map poA)] (poA (sumH ltM l)):=poSumN _ l rfl hs ho hl hK he
theorem poMul0 (p q:Po) (a b:Po) (hab:(q.length < p.length∧a=q∧b=p)∨(¬q.length < p.length∧a=p∧b=q)) {j k e f K E:Nat} (hp:PK a j e) (hq:PK b k f) (sp:SrtM a) (sq:SrtM b) (lp:a.length≤1000000) (lq:b.length≤1000000) (hj:j≤1000000) (hk:k≤1000000) (he:e≤16777216) (hf:f≤16777216)
 (ho:SumOk (a.map λt=>Zah mulM b t) K E) (hK:K≤1000000) (hE:E≤16777216) :
 Pure prog 120 [poA p,poA q] (poA (mlM b a)):=by
 have hs:∀u∈a.map (λt=>Zah mulM b t),SrtM u:=λu hu=>by
  obtain⟨t,ht,rfl⟩:=List.mem_map.1 hu;exact Zfa mulK sq (sp.1 t ht).1 (sp.1 t ht).2
 have cs:=poSum _ hs ho (by rw [Zzg];exact lp) hK hE;rw [show sumH ltM (a.map λt=>Zah mulM b t)=mlM b a from mulH_eq ordM mulK sp sq] at cs;clear ho hs;have loop:∀(e1:Nat→AV) (m1:Mem) (Q:AE→St→Prop),True→True:=λ_ _ _ _=>trivial;rcases hab with⟨hlt,rfl,rfl⟩ | ⟨hlt,rfl,rfl⟩
 all_goals
  refine pI func120 rfl ntmps120 results120 call120 ?_;(focus (refine wkap (w_1 @Zbj) w_t (w_r 0) ?_;(repeat' first|exact w_t|apply w_l);all_goals intros));rename_i sv0;refine Zab (ι:=Nat) (λi e' m=>i≤a.length∧e' 1=poA b∧e' 18=poA a∧e' 19=iv a.length∧e' 20=iv i∧∃sv,e' 5=.own 17 sv∧m 17=some (.row sv 53 1 (((a.take i).map λt=>Zah mulM b t).map poA) 0)) (λi=>a.length - i) 0 zr ?_ ?_
  ·rintro i e' m ⟨hi,e1,e18,e19,e20,sv,e5,m17⟩
   by_cases hlt:i < a.length
   ·have hg:=Zaj tmA hlt;have ht:PK [a[i]] j e:=λu hu=>by rw [ZAs] at hu;subst hu;exact hp _ (Zzt hlt)
    have c1:=poTimes b a[i] hq ht sq (sp.1 _ (Zzt hlt)).1 (sp.1 _ (Zzt hlt)).2 lq hk hj hf he
    have hsn:((a.take (i+1)).map λt=>Zah mulM b t).map poA=((a.take i).map λt=>Zah mulM b t).map poA++[poA (Zah mulM b a[i])]:=by
     rw [ZB7 hlt,Zzw,Zzw];rfl
    have hl:(((a.take i).map λt=>Zah mulM b t).map poA).length=i:=by rw [Zzg,Zzg,Zzv];omega
    generalize a[i]=t at *;generalize ((a.take i).map λt=>Zah mulM b t).map poA=out at *;generalize Zah mulM b t=tm at *;(focus (refine wkap (w_9 e1 e18 e19 e20 e5 m17 hg hl @Zbj) (w_1 c1) (w_r 0) ?_;(repeat' first|exact w_t|apply w_l);all_goals intros));exact⟨i+1,⟨zo,gW e1,gW e18,gW e19,gS,_,gC,by rw [hsn];exact gC⟩,zo⟩
   ·have hi2:i=a.length:=zo;subst hi2;rw [ZAe] at m17;generalize (a.map λt=>Zah mulM b t).map poA=out at *;(focus (refine wkax (w_7 e1 e18 e19 e20 e5 m17 @Zbj) w_t w_t (w_1 cs) w_t w_t w_y (w_r 0) ?_;(repeat' first|exact w_t|apply w_l);all_goals intros))
    (all_goals (try simp (disch:=omega) only [go_sem,Zzf,Zzd,Zzc,Zzb,Int.reduceAdd,Int.reduceSub,Int.reduceToNat,Zzh]));(all_goals first|done|rfl|(congr 2;first|done|omega|(rw [Zzz];simp only [bool_to_prop,Zzr,ZAa,ZAb,ZAc,ZAd];omega))|skip)
  ·exact⟨Zzp _,gC,gC,by(simp (disch:=omega) only [go_sem,Zzg]<;>repeat' first|rfl|refine⟨?_,?_⟩),gC,_,gC,by(simp (disch:=omega) only [go_sem,ZB6,Zz1,List.replicate_zero]<;>repeat' first|rfl|refine⟨?_,?_⟩)⟩
def Zo6 (p q:Po):List Po:=if q.length < p.length then q.map λt=>Zah mulM p t else p.map λt=>Zah mulM q t
theorem poMul (p q:Po) {j k e f K E:Nat} (hp:PK p j e) (hq:PK q k f) (sp:SrtM p) (sq:SrtM q) (lp:p.length≤1000000) (lq:q.length≤1000000) (hj:j≤1000000) (hk:k≤1000000) (he:e≤16777216) (hf:f≤16777216)
 (ho:SumOk (Zo6 p q) K E) (hK:K≤1000000) (hE:E≤16777216) :
 Pure prog 120 [poA p,poA q] (poA (mlM p q)):=by
 unfold Zo6 at ho;by_cases h:q.length < p.length
 ·rw [Zzc h] at ho;exact poMul0 p q q p (.inl ⟨h,rfl,rfl⟩) hq hp sq sp lq lp hk hj hf he ho hK hE
 ·rw [Zzb h] at ho;have:=poMul0 p q p q (.inr ⟨h,rfl,rfl⟩) hp hq sp sq lp lq hj hk he hf ho hK hE
  rwa [show mlM q p=mlM p q from Zix ordM mulK sq sp] at this
theorem SumOk.one {l:List Po} {K e:Nat} (hl:l.length≤1) (h:∀p∈l,PK p K e∧p.length≤1000000):SumOk l K e:=λa b=>by
 have h0:PK (sumH ltM []) K e∧(sumH ltM []).length≤1000000:=by rw [show sumH ltM []=[] from by simp [sumH]];exact⟨.nil,by simp⟩
 match l,hl,h with
 | [],_,_=>simpa using h0
 | [p],_,h =>
   match a,b with
   | 0,0=>simpa using h0
   | 0,b+1=>simp only [ZBd,List.take_succ_cons,List.take_nil];rw [show sumH ltM [p]=p from by simp [sumH]];exact h p (.head _)
   | a+1,b=>simpa using h0
theorem Zs5 (p:Po) (v:Nat) {j e:Nat} (hp:PK p j e) (sp:SrtM p) (lp:p.length≤1000000) (hj:j≤999999) (he:e≤16777215):Pure prog 120 [poA p,poA (varM v)] (poA (mlM p (varM v))):=by
 have hv:(varM v).length≤1:=by unfold varM;split<;>simp
 refine poMul p (varM v) hp (Zjb v) sp (Zb1 v) lp zo zo zo zo zo (K:=j+1) (E:=e+1) ?_ zo zo;unfold Zo6;split
 ·refine SumOk.one (by rw [Zzg];exact hv) λu hu=>?_;obtain⟨t,ht,rfl⟩:=List.mem_map.1 hu;exact⟨hp.times (λw hw=>by rw [ZAs] at hw;subst hw;exact Zjb v _ ht),by rw [Zdu];exact lp⟩
 ·rename_i h;refine SumOk.one (by rw [Zzg];omega) λu hu=>?_;obtain⟨t,ht,rfl⟩:=List.mem_map.1 hu;refine⟨((Zjb v).times (λw hw=>by rw [ZAs] at hw;subst hw;exact hp _ ht)).mono zo zo,by rw [Zdu];omega⟩
theorem Znb (p:Po) (a:Rat) {j k e:Nat} (hp:PK p j e) (ha:Sz a k) (sp:SrtM p) (lp:p.length≤1000000) (hj:j≤1000000) (hk:k≤1000000) (he:e≤16777216):Pure prog 167 [poA p,ratQ a] (poA (sclM a p)):=by
 have cs:=Zgj a ha zo;unfold sclM;by_cases h:a=0
 ·rw [Zzc h];have hz:a.num.sign=0:=by rw [Zgv];exact h
  refine Zdh (r:=.v (.slice none 0 0)) ?_ (.nil 4);refine pI func167 rfl ntmps167 results167 call167 ?_;(focus (refine wklp (w_1 hz) (w_1 cs) w_t (w_r 0) ?_;(repeat' first|exact w_t|apply w_l);all_goals intros))
 ·rw [Zzb h];have hz:¬a.num.sign=0:=by rw [Zgv];exact h
  have ct:=poTimesN p (a,[]) rfl (j:=j) (k:=k) (e:=e) (f:=0) hp (λu hu=>by rw [ZAs] at hu;subst hu;exact⟨ha,by simp,λi=>by show 0≤gI [] i∧gI [] i≤_;rw [Zb9 (Zzp _)];omega⟩) sp h Zn0 lp hj hk he zo;rw [Zua] at ct;simp only at ct;generalize Zas a p=r at *;generalize a.num.sign=z at *;refine pI func167 rfl ntmps167 results167 call167 ?_;(focus (refine wklp w_t (w_2 cs ct) w_t (w_r 0) ?_;(repeat' first|exact w_t|apply w_l);all_goals intros))
theorem poNeg (p:Po) {j e:Nat} (hp:PK p j e) (sp:SrtM p) (lp:p.length≤1000000) (hj:j≤1000000) (he:e≤16777216):Pure prog 168 [poA p] (poA (Zas (-1) p)):=by
 have c:=Znb p (-1) hp ((Zco 1 zo).neg) sp lp hj zo he;have co:=ratOfM;rw [show sclM (-1) p=Zas (-1) p from Zzb neg1] at c;generalize Zas (-1) p=r at *;generalize (-1:Rat)=q at *;refine pI func168 rfl ntmps168 results168 call168 ?_;(focus (refine wklp w_t (w_2 co c) w_t (w_r 0) ?_;(repeat' first|exact w_t|apply w_l);all_goals intros))
theorem PK.neg {q:Po} {k e:Nat} (hq:PK q k e):PK (Zas (-1) q) k e:=λt ht=>by
 obtain⟨s,hs,rfl⟩:=List.mem_map.1 ht;refine⟨?_,(hq s hs).2⟩;show Sz (s.1*-1) k;rw [show s.1*-1=-s.1 by grind];exact(hq s hs).1.neg
theorem Zf4 (a:Rat) (p:Po):(Zas a p).length=p.length:=by unfold Zas;simp
theorem Zna (p q:Po) {j k e:Nat} (hp:PK p j e) (hq:PK q k e) (sp:SrtM p) (sq:SrtM q) (lp:p.length≤1000000) (lq:q.length≤1000000) (hj:j≤1000000) (hk:k≤1000000) (he:e≤16777216) :
 Pure prog 119 [poA p,poA q] (poA (subM p q)):=by
 have c1:=poNeg q hq sq lq hk he;have c2:=Zky p (Zas (-1) q) hp hq.neg sp (Zbd sq neg1) lp (by rw [Zf4];exact lq) hj hk he;show Pure _ _ _ (poA (addM p (Zas (-1) q)));generalize Zas (-1) q=n at *;generalize addM p n=r at *;refine pI func119 rfl ntmps119 results119 call119 ?_;(focus (refine wklp w_t (w_2 c1 c2) w_t (w_r 0) ?_;(repeat' first|exact w_t|apply w_l);all_goals intros))
theorem Zsg (v:Nat):((List.replicate (v+1) (iv 0)).set v (iv 1))=(Zc5 v).map iv:=by
 unfold Zc5;rw [Zzw,List.map_replicate,List.replicate_succ',List.set_append_right _ _ zs];simp
theorem Zs4 (c:Rat) (m:List Int) (h:c≠0) {k:Nat} (hc:Sz c k) (hk:k≤1000000):Pure prog 183 [ratQ c,ivs m] (poA [(c,m)]):=by
 have cs:=Zgj c hc zo;have hz:¬c.num.sign=0:=by rw [Zgv];exact h
 generalize c.num.sign=z at *;refine pI func183 rfl ntmps183 results183 call183 ?_;(focus (refine wklp w_t (w_1 cs) w_t (w_r 0) ?_;(repeat' first|exact w_t|apply w_l);all_goals intros))
theorem poVar (v:Nat) (hv:v < 1000):Pure prog 123 [iv v] (poA (varM v)):=by
 unfold varM;by_cases h:v < 64
 ·rw [Zzc h];have c1:=Zum 1 zo;rw [show((1:Nat):Rat)=1 from rfl] at c1;have c2:=Zs4 1 (Zc5 v) zd (Zco 1 zo) zo;have hu:(iv 0 :: List.replicate v (iv 0)).set v (iv 1)=(Zc5 v).map iv:=by rw [←List.replicate_succ];exact Zsg v
  generalize (1:Rat)=q at *;have hl:(List.replicate (v+1) (iv 0)).length=v+1:=by simp
  refine pI func123 rfl ntmps123 results123 call123 ?_;(focus (refine wkax (w_2 hl hu) (w_1 c1) w_t (w_1 c2) w_t w_t w_y (w_r 0) ?_;(repeat' first|exact w_t|apply w_l);all_goals intros))
  (all_goals (try simp (disch:=omega) only [go_sem,Zzf,Zzd,Zzc,Zzb,Int.reduceAdd,Int.reduceSub,Int.reduceToNat,Zzh]));(all_goals first|done|rfl|(congr 2;first|done|omega|(rw [Zzz];simp only [bool_to_prop,Zzr,ZAa,ZAb,ZAc,ZAd];omega))|skip)
 ·rw [Zzb h];refine Zdh (r:=.v (.slice none 0 0)) ?_ (.nil 4);refine pI func123 rfl ntmps123 results123 call123 ?_;(focus (refine wklp w_t w_t w_t (w_r 0) ?_;(repeat' first|exact w_t|apply w_l);all_goals intros))
theorem Zra (q:Rat) {k:Nat} (h:Sz q k) (hk:k≤100000000000):Pure prog 14 [ratQ q] (.v (.int .i64 q.num.sign)):=by
 have c:=zSign q.num (by have:=h.1;omega);have cn:=Zm6 q h hk;generalize q.num.sign=z at *;refine pI func14 rfl ntmps14 results14 call14 ?_;exact wklp w_t (w_2 cn c) w_t (w_r 0) w_z
theorem rpLex (a b:List Int) (hs:Sm a) (ht:Sm b):Pure prog 135 [ivs a,ivs b,iv 0] (iv (lexC a b (max a.length b.length))):=by
 have c:Pure prog 135 [ivs a,ivs b,iv 0] (iv (cmpI a b 0)):=mrCmp a b 0 hs ht;have e:cmpI a b 0=lexC a b (max a.length b.length):=by unfold cmpI;rw [Zzb zo]
 rwa [e] at c
theorem Zon (p q:Po) {j k e:Nat} (hp:PK p j e) (hq:PK q k e) (sp:SrtM p) (sq:SrtM q) (lp:p.length≤1000000) (lq:q.length≤1000000) (hj:j≤1000000) (hk:k≤1000000) (he:e≤16777216) :
 Pure prog 67 [poA p,poA q] (poA (addM p q)):=by
 refine pI func67 rfl ntmps67 results67 call67 ?_;(focus (refine wkad (w_1 @Zbj) w_t w_t ?_;(repeat' first|exact w_t|apply w_l);all_goals intros));refine Zf5 (Frz.nilOwn (d:=5) 100 4 111 (gC)) ?_;refine Zab (ι:=Nat × Nat) (λx e m=>x.1≤p.length∧x.2≤q.length∧e 0=poA p∧e 1=poA q∧e 6=iv x.1∧e 7=iv x.2∧∃sv out,e 5=.own 100 sv∧m 100=some (.row sv 111 4 (out.map tmA) 0)∧out.length≤x.1+x.2∧addM p q=out++addM (p.drop x.1) (q.drop x.2)) (λx=>p.length+q.length - (x.1+x.2)) (0,0) zr ?_ ?_
 ·rintro ⟨i,l⟩ e m ⟨hi,hl,e0,e1,e6,e7,sv,out,e5,em,ho,hs⟩
  simp only at hi hl e6 e7 ho hs;by_cases hil:i < p.length∧l < q.length
  ·obtain⟨hi2,hl2⟩:=hil;have hg:=Zaj tmA hi2;have hh:=Zaj tmA hl2;have st:=Zqk hi2 hl2;have ms:=hp _ (Zzt hi2);have mt:=hq _ (Zzt hl2);have m1:=hp.sm he (Zzt hi2);have m2:=hq.sm he (Zzt hl2);have d1:=sp.dom _ (Zzt hi2);have d2:=sq.dom _ (Zzt hl2);generalize p[i]=s at *;generalize q[l]=t at *;have cl:=rpLex s.2 t.2 m1 m2;have ca:=qAdd s.1 t.1 ms.1 mt.1 zo zo;have cz:=Zra (s.1+t.1) (ms.1.add mt.1) zo;have hlen:(out.map tmA).length=out.length:=Zzg ..;rw [st] at hs;obtain⟨s1,s2⟩:=s;obtain⟨t1,t2⟩:=t
   simp only at *;rcases Zjg d1 d2 with⟨h1,h2⟩ | ⟨h1,h1',h2,h3⟩ | ⟨h1,h1',h2⟩
   ·have h3:¬ltM t2 s2:=λh=>ordM.irr _ (ordM.tr _ _ _ h h1);rw [Zzb h3,Zzc h1] at hs;rw [h2] at cl;clear st ms mt m1 m2 d1 d2 ca cz;(focus (refine wkad (w_9 e0 e1 e6 e7 e5 em hg hh @Zbj) (w_1 cl) (w_1 (w_d 8 [(10,iv (-1))] [] [])) ?_;(repeat' first|exact w_t|apply w_l);all_goals intros));refine⟨(i,l+1),⟨by simp only;omega,by simp only;omega,gW e0,gW e1,gW e6,gS,_,out++[(t1,t2)],gC,by(simp (disch:=omega) only [go_sem,Zzw]<;>repeat' first|rfl|refine⟨?_,?_⟩),by simp only [Zz0,Zzq,Zzs];omega,by rw [hs,ZAk];rfl⟩,by simp only;omega⟩
   ·rw [Zzb h1',Zzb h1] at hs;rw [h3] at cl;by_cases hz:s1+t1=0
    ·rw [Zzc hz] at hs;have hz2:(s1+t1).num.sign=0:=by rw [Zgv];exact hz
     clear st ms mt m1 m2 d1 d2;generalize (s1+t1)=z at *;(focus (refine wkad (w_10 e0 e1 e6 e7 e5 em hg hh @Zbj hz2) (w_3 cl ca cz) (w_2 (w_d 8 [(10,iv 0)] [] []) (w_d 9 [(10,ratQ z)] [] [9])) ?_;(repeat' first|exact w_t|apply w_l);all_goals intros));refine⟨(i+1,l+1),⟨by simp only;omega,by simp only;omega,gW e0,gW e1,gS,gS,_,out,gW e5,gW em,by simp only;omega,hs⟩,by simp only;omega⟩
    ·rw [Zzb hz] at hs;have hz2:¬(s1+t1).num.sign=0:=by rw [Zgv];exact hz
     clear st ms mt m1 m2 d1 d2;generalize (s1+t1)=z at *;(focus (refine wkax (w_9 e0 e1 e6 e7 e5 em hg hh @Zbj) (w_3 cl ca cz) (w_3 (w_d 8 [(10,iv 0)] [] []) (w_d 9 [(10,ratQ z)] [] [9]) (w_d 11 [] [9,1009] [100,61])) w_t w_t w_t w_y (w_r 0) ?_;(repeat' first|exact w_t|apply w_l);all_goals intros));refine⟨(i+1,l+1),⟨by simp only;omega,by simp only;omega,gW e0,gW e1,gS,gS,_,out++[(z,s2)],gC,by(simp (disch:=omega) only [go_sem,Zzw]<;>repeat' first|rfl|refine⟨?_,?_⟩),by simp only [Zz0,Zzq,Zzs];omega,by rw [hs,ZAk];rfl⟩,by simp only;omega⟩
   ·rw [Zzc h1] at hs;rw [h2] at cl;clear st ms mt m1 m2 d1 d2 ca cz;(focus (refine wkad (w_9 e0 e1 e6 e7 e5 em hg hh @Zbj) (w_1 cl) (w_1 (w_d 8 [(10,iv 1)] [] [])) ?_;(repeat' first|exact w_t|apply w_l);all_goals intros));refine⟨(i+1,l),⟨by simp only;omega,by simp only;omega,gW e0,gW e1,gS,gW e7,_,out++[(s1,s2)],gC,by(simp (disch:=omega) only [go_sem,Zzw]<;>repeat' first|rfl|refine⟨?_,?_⟩),by simp only [Zz0,Zzq,Zzs];omega,by rw [hs,ZAk];rfl⟩,by simp only;omega⟩
  ·rw [Zki zo] at hs;by_cases hi2:i < p.length
   ·have hl2:l=q.length:=zo;subst hl2;have hg:=Zaj tmA hi2;have hd:p.drop i=p[i] :: p.drop (i+1):=ZC9 hi2;rw [hd] at hs
    have hs:addM p q=(out++[p[i]])++addM (p.drop (i+1)) (q.drop q.length):=by
     rw [Zki (.inr (Zze _)),hs];simp
    clear hd;generalize p[i]=s at *;obtain⟨s1,s2⟩:=s;(focus (refine wkad (w_8 e0 e1 e6 e7 e5 em hg @Zbj) w_t w_t ?_;(repeat' first|exact w_t|apply w_l);all_goals intros));refine⟨(i+1,q.length),⟨by simp only;omega,by simp only;omega,gW e0,gW e1,gS,gW e7,_,out++[(s1,s2)],gC,by(simp (disch:=omega) only [go_sem,Zzw]<;>repeat' first|rfl|refine⟨?_,?_⟩),by simp only [Zz0,Zzq,Zzs];omega,hs⟩,by simp only;omega⟩
   ·have hi3:i=p.length:=zo;subst hi3;by_cases hl2:l < q.length
    ·have hg:=Zaj tmA hl2;have hd:q.drop l=q[l] :: q.drop (l+1):=ZC9 hl2;rw [hd] at hs
     have hs:addM p q=(out++[q[l]])++addM (p.drop p.length) (q.drop (l+1)):=by
      rw [Zki (.inl (Zze _)),hs];simp
     clear hd;generalize q[l]=s at *;obtain⟨s1,s2⟩:=s;(focus (refine wkad (w_8 e0 e1 e6 e7 e5 em hg @Zbj) w_t w_t ?_;(repeat' first|exact w_t|apply w_l);all_goals intros));refine⟨(p.length,l+1),⟨by simp only;omega,by simp only;omega,gW e0,gW e1,gW e6,gS,_,out++[(s1,s2)],gC,by(simp (disch:=omega) only [go_sem,Zzw]<;>repeat' first|rfl|refine⟨?_,?_⟩),by simp only [Zz0,Zzq,Zzs];omega,hs⟩,by simp only;omega⟩
    ·have hl3:l=q.length:=zo;subst hl3;rw [List.drop_length,List.drop_length,ZA6,ZA6] at hs;rw [hs];(focus (refine wkld (w_7 e0 e1 e6 e7 e5 em @Zbj) w_t (w_1 em) w_t ?_;(repeat' first|exact w_t|apply w_l);all_goals intros))
 ·exact⟨Zzp _,Zzp _,gC,gC,gC,gC,_,[],gC,by(simp (disch:=omega) only [go_sem,Zz1]<;>repeat' first|rfl|refine⟨?_,?_⟩),by simp,by simp⟩
theorem rpTimes (p:Po) (t:Tm) {j k e f:Nat} (hp:PK p j e) (ht:PK [t] k f) (lp:p.length≤1000000) (hj:j≤1000000) (hk:k≤1000000) (he:e≤16777216) (hf:f≤16777216) :
 Pure prog 68 [poA p,tmA t] (poA (Zah mulM p t)):=by
 obtain⟨t1,t2⟩:=t;refine pI func68 rfl ntmps68 results68 call68 ?_;(focus (refine wkad (w_1 @Zbj) w_t w_t ?_;(repeat' first|exact w_t|apply w_l);all_goals intros));rename_i g3;refine Zf5 (Frz.nilOwn (d:=5) 100 4 111 (gC)) ?_;refine Zab (ι:=Nat) (λi e m=>i≤p.length∧e 3=.pbox 3 g3 0∧m 3=some (.box g3 111 [.v (.bool (decide (t1.num < 0))),lim (toL t1.num.natAbs),lim (toL t1.den),ivs t2] false)∧e 0=poA p∧e 6=iv i∧∃sv,e 5=.own 100 sv∧m 100=some (.row sv 111 4 ((Zah mulM (p.take i) (t1,t2)).map tmA) 0)) (λi=>p.length - i) 0 zr ?_ ?_
 ·rintro i e m ⟨hi,e3,m3,e0,e6,sv,e5,m11⟩
  by_cases hlt:i < p.length
  ·have hg:=Zaj tmA hlt;have hs:=Zm9 (t:=(t1,t2)) hlt;have ms:=hp _ (Zzt hlt);have m1:=hp.sm he (Zzt hlt);have m2:=ht.sm hf (.head _);have mt:=(ht _ (.head _)).1;have hl:(Zah mulM (p.take i) (t1,t2)).length≤1000000:=by rw [Zdu,Zzv];omega
   generalize p[i]=s at *;have c1:=qMul s.1 t1 ms.1 mt zo zo;have c3:Pure prog 136 [ivs s.2,ivs t2] (ivs (mulM s.2 t2)):=mrMul s.2 t2 m1.wd m2.wd;obtain⟨s1,s2⟩:=s;simp only at *;clear ms m1 m2 mt;generalize s1*t1=z at *;generalize mulM s2 t2=w at *;generalize Zah mulM (p.take i) (t1,t2)=out at *;(focus (refine wkad (w_8 e3 m3 e0 e6 e5 m11 hg @Zbj) (w_2 c1 c3) (w_1 (w_d 5 [(8,ratQ z),(16,ivs w)] [19,1019] [100,31])) ?_;(repeat' first|exact w_t|apply w_l);all_goals intros));exact⟨i+1,⟨zo,gW e3,gW m3,gW e0,gS,_,gC,by rw [hs,Zzw];exact gC⟩,zo⟩
  ·have hi2:i=p.length:=zo;subst hi2;rw [ZAe] at m11;(focus (refine wkld (w_7 e3 m3 e0 e6 e5 m11 @Zbj) w_t (w_1 m11) w_t ?_;(repeat' first|exact w_t|apply w_l);all_goals intros))
 ·exact⟨Zzp _,gC,gC,gC,gC,_,gC,by(simp (disch:=omega) only [go_sem,ZB6,Zah,Zz1]<;>repeat' first|rfl|refine⟨?_,?_⟩)⟩
theorem Zuh {p:Po} {a:Rat} {i:Nat} (hi:i < p.length):Zas a (p.take (i+1))=Zas a (p.take i)++[(p[i].1*a,p[i].2)]:=by
 unfold Zas;rw [ZB7 hi,Zzw];rfl
theorem rpScale0 (p:Po) (a:Rat) {j k e:Nat} (hp:PK p j e) (ha:Sz a k) (lp:p.length≤1000000) (hj:j≤1000000) (hk:k≤1000000) (h:a≠0) :
 Pure prog 138 [poA p,ratQ a] (poA (Zas a p)):=by
 have cs:=Zra a ha zo;have hz:¬a.num.sign=0:=by rw [Zgv];exact h
 generalize a.num.sign=sg at *;refine pI func138 rfl ntmps138 results138 call138 ?_;(focus (refine wkad (w_1 @Zbj) w_t w_t ?_;(repeat' first|exact w_t|apply w_l);all_goals intros));rename_i g3;refine Zf5 (Frz.nilOwn (d:=5) 100 4 111 (gC)) ?_;refine Zab (ι:=Nat) (λi e m=>i≤p.length∧e 3=.pbox 3 g3 0∧m 3=some (.box g3 59 [.v (.bool (decide (a.num < 0))),lim (toL a.num.natAbs),lim (toL a.den)] false)∧e 0=poA p∧e 6=iv i∧∃sv,e 5=.own 100 sv∧m 100=some (.row sv 111 4 ((Zas a (p.take i)).map tmA) 0)) (λi=>p.length - i) 0 zr ?_ ?_
 ·rintro i e m ⟨hi,e3,m3,e0,e6,sv,e5,m11⟩
  by_cases hlt:i < p.length
  ·have hg:=Zaj tmA hlt;have hs:=Zuh (a:=a) hlt;have ms:=(hp _ (Zzt hlt)).1;have hl:(Zas a (p.take i)).length≤1000000:=by rw [Zf4,Zzv];omega
   generalize p[i]=s at *;have c1:=qMul s.1 a ms ha zo zo;obtain⟨s1,s2⟩:=s;simp only at *;clear ms;generalize s1*a=z at *;generalize Zas a (p.take i)=out at *;(focus (refine wkad (w_8 e3 m3 e0 e6 e5 m11 hg @Zbj) (w_2 c1 cs) (w_1 (w_d 5 [(7,ratQ z)] [15,1015] [100,32])) ?_;(repeat' first|exact w_t|apply w_l);all_goals intros));exact⟨i+1,⟨zo,gW e3,gW m3,gW e0,gS,_,gC,by rw [hs,Zzw];exact gC⟩,zo⟩
  ·have hi2:i=p.length:=zo;subst hi2;rw [ZAe] at m11;(focus (refine wkld (w_7 e3 m3 e0 e6 e5 m11 @Zbj) w_t (w_1 m11) w_t ?_;(repeat' first|exact w_t|apply w_l);all_goals intros))
 ·exact⟨Zzp _,gC,gC,gC,gC,_,gC,by(simp (disch:=omega) only [go_sem,ZB6,Zas,Zz1]<;>repeat' first|rfl|refine⟨?_,?_⟩)⟩
theorem rpNeg (p:Po) {j e:Nat} (hp:PK p j e) (lp:p.length≤1000000) (hj:j≤1000000):Pure prog 71 [poA p] (poA (Zas (-1) p)):=by
 have c:=rpScale0 p (-1) hp ((Zco 1 zo).neg) lp hj zo neg1;have co:=qOfM;generalize Zas (-1) p=r at *;generalize (-1:Rat)=q at *;refine pI func71 rfl ntmps71 results71 call71 ?_;(focus (refine wklp w_t (w_2 co c) w_t (w_r 0) ?_;(repeat' first|exact w_t|apply w_l);all_goals intros))
theorem Zuj (p q:Po) {j k e:Nat} (hp:PK p j e) (hq:PK q k e) (sp:SrtM p) (sq:SrtM q) (lp:p.length≤1000000) (lq:q.length≤1000000) (hj:j≤1000000) (hk:k≤1000000) (he:e≤16777216) :
 Pure prog 27 [poA p,poA q] (poA (subM p q)):=by
 have c1:=rpNeg q hq lq hk;have c2:=Zon p (Zas (-1) q) hp hq.neg sp (Zbd sq neg1) lp (by rw [Zf4];exact lq) hj hk he;show Pure _ _ _ (poA (addM p (Zas (-1) q)));generalize Zas (-1) q=n at *;generalize addM p n=r at *;refine pI func27 rfl ntmps27 results27 call27 ?_;(focus (refine wklp w_t (w_2 c1 c2) w_t (w_r 0) ?_;(repeat' first|exact w_t|apply w_l);all_goals intros))
theorem Zpm {p q:Po} {i:Nat} (hi:i < q.length):mlM p (q.take (i+1))=addM (mlM p (q.take i)) (Zah mulM p q[i]):=by
 unfold mlM mulR;rw [ZB7 hi,List.foldl_append];rfl
theorem Zj8 {q:Po} (h:SrtM q) (i:Nat):SrtM (q.take i):=⟨λt ht=>h.1 t (ZAq ht),List.Pairwise.sublist (List.take_sublist i q) h.2⟩
theorem rpMul (p q:Po) {j k e f K E:Nat} (hp:PK p j e) (hq:PK q k f) (sp:SrtM p) (sq:SrtM q) (lp:p.length≤1000000) (lq:q.length≤1000000) (hj:j≤500000) (hk:k≤500000) (he:e≤8000000) (hf:f≤8000000)
 (ho:∀i,PK (mlM p (q.take i)) K E∧(mlM p (q.take i)).length≤1000000) (hK:K≤1000000) (hE:E≤16777216) :
 Pure prog 24 [poA p,poA q] (poA (mlM p q)):=by
 refine pI func24 rfl ntmps24 results24 call24 ?_;(focus (refine wkap (w_1 @Zbj) w_t (w_r 0) ?_;(repeat' first|exact w_t|apply w_l);all_goals intros));refine Zf5 (Frz.nil (d:=5) 4 (gC)) ?_;refine Zab (ι:=Nat) (λi e' m=>i≤q.length∧e' 0=poA p∧e' 1=poA q∧e' 6=iv i∧e' 5=poA (mlM p (q.take i))) (λi=>q.length - i) 0 zr ?_ ?_
 ·rintro i e' m ⟨hi,e0,e1,e6,e5⟩
  by_cases hlt:i < q.length
  ·have hg:=Zaj tmA hlt;have ht:PK [q[i]] k f:=λu hu=>by rw [ZAs] at hu;subst hu;exact hq _ (Zzt hlt)
   have c1:=rpTimes p q[i] hp ht lp zo zo zo zo;have c2:=Zon (mlM p (q.take i)) (Zah mulM p q[i]) (k:=j+k) (e:=max E (e+f)) ((ho i).1.mono (Zze _) zo) ((hp.times ht).mono (Zze _) zo) (Zam ordM mulK sp (Zj8 sq i)) (Zfa mulK sp (sq.1 _ (Zzt hlt)).1 (sq.1 _ (Zzt hlt)).2) (ho i).2 (by rw [Zdu];exact lp) hK zo zo;rw [←Zpm hlt] at c2;generalize q[i]=t at *;obtain⟨t1,t2⟩:=t;generalize Zah mulM p (t1,t2)=w at *;generalize mlM p (q.take i)=out at *;generalize hout:mlM p (q.take (i+1))=out' at *;(focus (refine wkap (w_6 e0 e1 e6 e5 hg @Zbj) (w_2 c1 c2) (w_r 0) ?_;(repeat' first|exact w_t|apply w_l);all_goals intros))
   exact⟨i+1,⟨zo,gW e0,gW e1,gS,by rw [hout];exact gC⟩,zo⟩
  ·have hi2:i=q.length:=zo;subst hi2;rw [ZAe] at e5;(focus (refine wklp (w_5 e0 e1 e6 e5 @Zbj) w_t w_t (w_r 0) ?_;(repeat' first|exact w_t|apply w_l);all_goals intros))
 ·exact⟨Zzp _,gC,gC,gC,by(simp (disch:=omega) only [go_sem,ZB6,mlM,mulR,List.foldl_nil,Zz1]<;>repeat' first|rfl|refine⟨?_,?_⟩)⟩
theorem Zss (c:Rat) (m:List Int) {k:Nat} (hc:Sz c k) (hk:k≤1000000):Pure prog 69 [.v (.slice none 0 0),ratQ c,ivs m] (poA (if c=0 then [] else [(c,m)])):=by
 have cs:=Zra c hc zo;have cn:=Zm6 c hc zo;by_cases h:c=0
 ·rw [Zzc h];have hz:c.num.sign=0:=by rw [Zgv];exact h
  refine pI func69 rfl ntmps69 results69 call69 ?_;(focus (refine wkax (w_1 hz) (w_1 cs) w_t w_t w_t w_t w_y (w_r 2) ?_;(repeat' first|exact w_t|apply w_l);all_goals intros))
  (all_goals (try simp (disch:=omega) only [go_sem,Zzf,Zzd,Zzc,Zzb,Int.reduceAdd,Int.reduceSub,Int.reduceToNat,Zzh]));(all_goals first|done|rfl|(congr 2;first|done|omega|(rw [Zzz];simp only [bool_to_prop,Zzr,ZAa,ZAb,ZAc,ZAd];omega))|skip)
 ·rw [Zzb h];have hz:¬c.num.sign=0:=by rw [Zgv];exact h
  generalize c.num.sign=z at *;refine pI func69 rfl ntmps69 results69 call69 ?_;(focus (refine wkax w_t (w_2 cs cn) w_t w_t w_t w_t w_y (w_r 2) ?_;(repeat' first|exact w_t|apply w_l);all_goals intros))
  (all_goals (try simp (disch:=omega) only [go_sem,Zzf,Zzd,Zzc,Zzb,Int.reduceAdd,Int.reduceSub,Int.reduceToNat,Zzh]));(all_goals first|done|rfl|(congr 2;first|done|omega|(rw [Zzz];simp only [bool_to_prop,Zzr,ZAa,ZAb,ZAc,ZAd];omega))|skip)
theorem rpVar (v:Nat) (hv:v < 1000):Pure prog 25 [iv v] (poA (varM v)):=by
 unfold varM;by_cases h:v < 64
 ·rw [Zzc h];have c1:=qOf 1 zo;rw [show((1:Nat):Rat)=1 from rfl] at c1;have c2:=Zss 1 (Zc5 v) (Zco 1 zo) zo;rw [Zzb (show(1:Rat)≠0 by decide)] at c2;have hu:(iv 0 :: List.replicate v (iv 0)).set v (iv 1)=(Zc5 v).map iv:=by rw [←List.replicate_succ];exact Zsg v
  generalize (1:Rat)=q at *;have hl:(List.replicate (v+1) (iv 0)).length=v+1:=by simp
  refine pI func25 rfl ntmps25 results25 call25 ?_;(focus (refine wkax (w_2 hl hu) (w_1 c1) w_t (w_1 c2) w_t w_t w_y (w_r 0) ?_;(repeat' first|exact w_t|apply w_l);all_goals intros))
  (all_goals (try simp (disch:=omega) only [go_sem,Zzf,Zzd,Zzc,Zzb,Int.reduceAdd,Int.reduceSub,Int.reduceToNat,Zzh]));(all_goals first|done|rfl|(congr 2;first|done|omega|(rw [Zzz];simp only [bool_to_prop,Zzr,ZAa,ZAb,ZAc,ZAd];omega))|skip)
 ·rw [Zzb h];refine Zdh (r:=.v (.slice none 0 0)) ?_ (.nil 4);refine pI func25 rfl ntmps25 results25 call25 ?_;(focus (refine wklp w_t w_t w_t (w_r 0) ?_;(repeat' first|exact w_t|apply w_l);all_goals intros))
theorem rpConst (c:Rat) {k:Nat} (hc:Sz c k) (hk:k≤1000000):Pure prog 88 [ratQ c] (poA (if c=0 then [] else [(c,[])])):=by
 have c2:=Zss c [] hc hk;have c2:=Zj9 c2 (.cons (.refl _) (.cons (.refl _) (.cons (.nil 1) .nil)));generalize (if c=0 then [] else [(c,[])])=r at *;refine pI func88 rfl ntmps88 results88 call88 ?_;(focus (refine wklp w_t (w_1 c2) w_t (w_r 0) ?_;(repeat' first|exact w_t|apply w_l);all_goals intros))
theorem Zyv (a:Rat):cmpQ a a=0:=by
 unfold cmpQ;rw [Zzb (Rat.lt_irrefl),Zzb (Rat.lt_irrefl)]
theorem cmpQ_eq {a b:Rat} (h:cmpQ a b=0):a=b:=by
 unfold cmpQ at h;split at h
 ·omega
 ·split at h
  ·omega
  ·exact Rat.le_antisymm (Rat.not_lt.1 ‹_›) (Rat.not_lt.1 ‹_›)
def cmpT (s t:Tm):Int:=if lexC s.2 t.2 (max s.2.length t.2.length)≠0 then lexC s.2 t.2 (max s.2.length t.2.length) else cmpQ s.1 t.1
def Zil:Po→Po→Int
 | [],[]=>0
 | [],_ :: _=>-1
 | _ :: _,[]=>1
 | s :: p,t :: q=>if cmpT s t≠0 then cmpT s t else Zil p q
theorem Zyu {s t:Tm} (ds:Can s.2) (dt:Can t.2):cmpT s t=0↔s=t:=by
 unfold cmpT;constructor
 ·intro h;split at h
  ·rename_i h1;exact absurd h h1
  ·rename_i h1;rcases Zjg ds dt with⟨_,h2⟩ | ⟨_,_,h2,_⟩ | ⟨_,_,h2⟩
   ·omega
   ·exact Prod.ext (cmpQ_eq h) h2
   ·omega
 ·rintro rfl
  rw [Zzb (by rw [Zpt _ λj _=>rfl];simp),Zyv]
theorem Zmn:∀{p q:Po},(∀t∈p,Can t.2)→(∀t∈q,Can t.2)→(Zil p q=0↔p=q)
 | [],[],_,_=>by simp [Zil]
 | [],_ :: _,_,_=>by simp [Zil]
 | _ :: _,[],_,_=>by simp [Zil]
 | s :: p,t :: q,hp,hq=>by
   have h1:=Zyu (hp s (.head _)) (hq t (.head _));have h2:=Zmn (p:=p) (q:=q) (λu hu=>hp u (.tail _ hu)) (λu hu=>hq u (.tail _ hu));unfold Zil;by_cases h:cmpT s t=0
   ·rw [Zzb (by simpa using h),h2,h1.1 h];simp
   ·rw [Zzc h];constructor
    ·intro h3;exact absurd h3 h
    ·intro h3;cases h3;exact absurd (h1.2 rfl) h
theorem Zyw {p q:Po} {i:Nat} (h:p.length≤i∨q.length≤i):Zil (p.drop i) (q.drop i)=if (p.drop i).length < (q.drop i).length then -1 else if (q.drop i).length < (p.drop i).length then 1 else 0:=by
 rcases h with h | h
 ·rw [ZA0 h];cases q.drop i<;>simp [Zil]
 ·rw [ZA0 h];cases p.drop i<;>simp [Zil]
theorem rpCmp (p q:Po) {j k e f:Nat} (hp:PK p j e) (hq:PK q k f) (lp:p.length≤1000000) (lq:q.length≤1000000) (hj:j≤2000000) (hk:k≤2000000) (he:e≤16777216) (hf:f≤16777216) :
 Pure prog 137 [poA p,poA q] (iv (Zil p q)):=by
 refine pI func137 rfl ntmps137 results137 call137 ?_;(focus (refine wkad (w_1 @Zbj) w_t w_t ?_;(repeat' first|exact w_t|apply w_l);all_goals intros));refine Zab (ι:=Nat) (λi e m=>i≤p.length∧i≤q.length∧e 0=poA p∧e 1=poA q∧e 5=iv i∧Zil p q=Zil (p.drop i) (q.drop i)) (λi=>p.length - i) 0 zr ?_ ?_
 ·rintro i e m ⟨hi,hl,e0,e1,e5,hs⟩
  by_cases hil:i < p.length∧i < q.length
  ·obtain⟨hi2,hl2⟩:=hil;have hg:=Zaj tmA hi2;have hh:=Zaj tmA hl2;have cl:=rpLex p[i].2 q[i].2 (hp.sm he (Zzt hi2)) (hq.sm hf (Zzt hl2));have cq:=qCmp p[i].1 q[i].1 (hp _ (Zzt hi2)).1 (hq _ (Zzt hl2)).1 zo zo;rw [ZC9 hi2,ZC9 hl2,Zil,cmpT] at hs;generalize p[i]=s at *;generalize q[i]=t at *;obtain⟨s1,s2⟩:=s;obtain⟨t1,t2⟩:=t;simp only at *;generalize lexC s2 t2 (max s2.length t2.length)=x at *;generalize cmpQ s1 t1=y at *;by_cases hx:x=0
   ·rw [Zzb (show ¬x≠0 by omega)] at hs;by_cases hy:y=0
    ·rw [Zzb zo] at hs;(focus (refine wkad (w_6 e0 e1 e5 hg hh @Zbj) (w_2 cl cq) (w_2 (w_d 4 [(10,iv x)] [] []) (w_d 7 [(10,iv y)] [] [])) ?_;(repeat' first|exact w_t|apply w_l);all_goals intros));exact⟨i+1,⟨zo,zo,gW e0,gW e1,gS,hs⟩,zo⟩
    ·rw [Zzc hy] at hs;rw [hs];(focus (refine wkld (w_6 e0 e1 e5 hg hh @Zbj) (w_2 cl cq) w_t (w_2 (w_d 4 [(10,iv x)] [] []) (w_d 7 [(10,iv y)] [] [])) ?_;(repeat' first|exact w_t|apply w_l);all_goals intros))
   ·rw [Zzc hx,Zzc hx] at hs;rw [hs];(focus (refine wkld (w_6 e0 e1 e5 hg hh @Zbj) (w_1 cl) w_t (w_1 (w_d 4 [(10,iv x)] [] [])) ?_;(repeat' first|exact w_t|apply w_l);all_goals intros))
  ·rw [Zyw zo,ZA1,ZA1] at hs;rw [hs];(focus (refine wkld (w_4 e0 e1 e5 @Zbj) w_t w_t w_t ?_;(repeat' first|exact w_t|apply w_l);all_goals intros))
 ·exact⟨Zzp _,Zzp _,gC,gC,gC,by simp⟩
theorem rpEqual (p q:Po) {j k e f:Nat} (hp:PK p j e) (hq:PK q k f) (dp:∀t∈p,Can t.2) (dq:∀t∈q,Can t.2) (lp:p.length≤1000000) (lq:q.length≤1000000) (hj:j≤2000000) (hk:k≤2000000) (he:e≤16777216) (hf:f≤16777216) :
 Pure prog 70 [poA p,poA q] (.v (.bool (decide (p=q)))):=by
 have c:=rpCmp p q hp hq lp lq hj hk he hf;have h:=Zmn dp dq;rw [show decide (p=q)=decide (Zil p q=0) from by rw [Zzz,ZAg,ZAg,h]];generalize Zil p q=z at *;clear h;refine pI func70 rfl ntmps70 results70 call70 ?_;(focus (refine wklp w_t (w_1 c) w_t (w_r 0) ?_;(repeat' first|exact w_t|apply w_l);all_goals intros))
structure PB (p:Po) (n j e:Nat):Prop where
 s:SrtM p
 k:PK p j e
 l:p.length≤n
theorem PB.mono {p:Po} {n j e m i f:Nat} (h:PB p n j e) (hn:n≤m) (hj:j≤i) (he:e≤f):PB p m i f:=⟨h.s,h.k.mono hj he,Zzi h.l hn⟩
theorem PB.nil {n j e:Nat}:PB [] n j e:=⟨.nil,.nil,Zzp _⟩
theorem PB.add {p q:Po} {n j e m k f:Nat} (h:PB p n j e) (g:PB q m k f):PB (addM p q) (n+m) (j+k+1) (max e f) :=
 ⟨Za4 ordM h.s g.s,(h.k.mono (Zze _) (Nat.le_max_left ..)).add (g.k.mono (Zze _) (Nat.le_max_right ..)),Zzi (Zkh p q) (ZBv h.l g.l)⟩
theorem PB.neg {p:Po} {n j e:Nat} (h:PB p n j e):PB (Zas (-1) p) n j e:=⟨Zbd h.s neg1,h.k.neg,by rw [Zf4];exact h.l⟩
theorem PB.sub {p q:Po} {n j e m k f:Nat} (h:PB p n j e) (g:PB q m k f):PB (subM p q) (n+m) (j+k+1) (max e f):=h.add g.neg
theorem PB.times {p:Po} {t:Tm} {n j e k f:Nat} (h:PB p n j e) (ht:PK [t] k f) (h0:t.1≠0) (hd:Can t.2):PB (Zah mulM p t) n (j+k) (e+f) :=
 ⟨Zfa mulK h.s h0 hd,h.k.times ht,by rw [Zdu];exact h.l⟩
theorem PB.take {q:Po} {m k f:Nat} (g:PB q m k f) (i:Nat):PB (q.take i) m k f :=
 ⟨Zj8 g.s i,λt ht=>g.k t (ZAq ht),by rw [Zzv];have:=g.l;omega⟩
theorem PB.one {q:Po} {m k f:Nat} (g:PB q m k f) {t:Tm} (ht:t∈q):PK [t] k f:=λu hu=>by rw [ZAs] at hu;subst hu;exact g.k _ ht
theorem Zrp {p q:Po} {n j e m k f:Nat} (h:PB p n j e) (g:PB q m k f):∀i,i≤q.length→PB (mlM p (q.take i)) (n*i) (i*(j+k+1)) (e+f)
 | 0,_=>by rw [ZB6];exact .nil
 | i+1,hi=>by
   rw [Zpm hi];have h1:=Zrp h g i zo;have h2:=h.times (g.one (Zzt hi)) (g.s.1 _ (Zzt hi)).1 (g.s.1 _ (Zzt hi)).2;refine(h1.add h2).mono ?_ ?_ ?_
   ·rw [Nat.mul_succ];omega
   ·rw [ZC1];omega
   ·omega
theorem Zrq {p q:Po} {n j e m k f:Nat} (h:PB p n j e) (g:PB q m k f) (i:Nat):PB (mlM p (q.take i)) (n*m) (m*(j+k+1)) (e+f):=by
 by_cases hi:i≤q.length
 ·have hm:=g.l;exact(Zrp h g i hi).mono (ZBb _ zo) (Zz7 _ zo) (Zze _)
 ·rw [ZCa zo];have:=Zrp h g q.length (Zze _);rw [ZAe] at this;exact this.mono (ZBb _ g.l) (Zz7 _ g.l) (Zze _)
theorem PB.mul {p q:Po} {n j e m k f:Nat} (h:PB p n j e) (g:PB q m k f):PB (mlM p q) (n*m) (m*(j+k+1)) (e+f):=by
 have:=Zrq h g q.length
 rwa [ZAe] at this
theorem sumH_pb {s e n:Nat} (l:List Po) (h:∀p∈l,PB p n s e):PB (sumH ltM l) (l.length*n) (l.length*(s+1) - 1) e:=by
 fun_induction sumH ltM l with
 | case1=>exact .nil
 | case2 p=>exact(h p (.head _)).mono zs zs (Zze _)
 | case3 p q l ih1 ih2 =>
   have h1:=ih1 λu hu=>h u (ZAq hu);have h2:=ih2 λu hu=>h u (ZBg hu);rw [Zzv] at h1;rw [ZA1] at h2;have hL:2≤(p :: q :: l).length:=by simp
   generalize (p :: q :: l).length=L at *;rw [ZBm zo] at h1;have e1:L/2+(L - L/2)=L:=zo;have a1:1≤L/2*(s+1):=Zzi zo (ZCg (L/2) (show 0 < s+1 by omega));have a2:1≤(L - L/2)*(s+1):=Zzi (show 1≤L - L/2 by omega) (ZCg (L - L/2) (show 0 < s+1 by omega));refine(h1.add h2).mono ?_ ?_ zo
   ·rw [←Zz5,e1];exact Zze _
   ·have e2:L/2*(s+1)+(L - L/2)*(s+1)=L*(s+1):=by rw [←Zz5,e1]
    omega
theorem sum_ok {s e n N:Nat} (l:List Po) (h:∀p∈l,PB p n s e) (hN:l.length≤N) (hb:N*n≤1000000):SumOk l (N*(s+1)) e:=λa b=>by
 have h1:∀p∈(l.drop a).take b,PB p n s e:=λp hp=>h p (ZBg (ZAq hp));have h2:=sumH_pb _ h1;have h3:((l.drop a).take b).length≤N:=by rw [Zzv,ZA1];omega
 refine⟨h2.k.mono ?_ (Zze _),Zzi h2.l (Zzi (Zz7 _ h3) hb)⟩;have:=Zz7 (s+1) h3;omega
theorem parts_ok {p q:Po} {n j e m k f:Nat} (h:PB p n j e) (g:PB q m k f) (hn:n*m≤1000000):SumOk (Zo6 p q) (min n m*(j+k+1)) (e+f):=by
 unfold Zo6;have l1:=h.l;have l2:=g.l;split
 ·rename_i hlt;have:=sum_ok (q.map λt=>Zah mulM p t) (n:=p.length) (s:=j+k) (e:=e+f) (N:=q.length) (λu hu=>by
   obtain⟨t,ht,rfl⟩:=List.mem_map.1 hu;have h':PB p p.length j e:=⟨h.s,h.k,Zze _⟩;exact h'.times (g.one ht) (g.s.1 t ht).1 (g.s.1 t ht).2) (by rw [Zzg];exact Zze _) (by rw [Zz9];exact Zzi (ZBz l1 l2) hn)
  exact λa b=>⟨(this a b).1.mono (Zz7 _ zo) (Zze _),(this a b).2⟩
 ·rename_i hlt;have:=sum_ok (p.map λt=>Zah mulM q t) (n:=q.length) (s:=k+j) (e:=f+e) (N:=p.length) (λu hu=>by
   obtain⟨t,ht,rfl⟩:=List.mem_map.1 hu;have h':PB q q.length k f:=⟨g.s,g.k,Zze _⟩;exact h'.times (h.one ht) (h.s.1 t ht).1 (h.s.1 t ht).2) (by rw [Zzg];exact Zze _) (Zzi (ZBz l1 l2) hn)
  refine λa b=>⟨(this a b).1.mono ?_ zo,(this a b).2⟩;rw [ZB5 k j];exact Zz7 _ zo
theorem hpAdd {p q:Po} {n j e m k f:Nat} (h:PB p n j e) (g:PB q m k f) (hn:n≤1000000) (hm:m≤1000000) (hj:j≤1000000) (hk:k≤1000000) (he:e≤100) (hf:f≤100) :
 Pure prog 122 [poA p,poA q] (poA (addM p q))∧Pure prog 67 [poA p,poA q] (poA (addM p q)) :=
 have l1:=h.l;have l2:=g.l
 ⟨Zky p q (h.k.mono (Zze _) he) (g.k.mono (Zze _) hf) h.s g.s zo zo hj hk zo,Zon p q (h.k.mono (Zze _) he) (g.k.mono (Zze _) hf) h.s g.s zo zo hj hk zo⟩
theorem Znp {p q:Po} {n j e m k f:Nat} (h:PB p n j e) (g:PB q m k f) (hn:n≤1000000) (hm:m≤1000000) (hj:j≤1000000) (hk:k≤1000000) (he:e≤100) (hf:f≤100) :
 Pure prog 119 [poA p,poA q] (poA (subM p q))∧Pure prog 27 [poA p,poA q] (poA (subM p q)) :=
 have l1:=h.l;have l2:=g.l
 ⟨Zna p q (h.k.mono (Zze _) he) (g.k.mono (Zze _) hf) h.s g.s zo zo hj hk zo,Zuj p q (h.k.mono (Zze _) he) (g.k.mono (Zze _) hf) h.s g.s zo zo hj hk zo⟩
theorem Zi3 {p q:Po} {n j e m k f:Nat} (h:PB p n j e) (g:PB q m k f) (hn:n≤1000000) (hm:m≤1000000) (hj:j≤500000) (hk:k≤500000) (he:e≤100) (hf:f≤100) (hnm:n*m≤1000000) (hK:min n m*(j+k+1)≤1000000) (hR:m*(j+k+1)≤1000000) :
 Pure prog 120 [poA p,poA q] (poA (mlM p q))∧Pure prog 24 [poA p,poA q] (poA (mlM p q)) :=
 have l1:=h.l;have l2:=g.l
 ⟨poMul p q h.k g.k h.s g.s zo zo zo zo zo zo (parts_ok h g hnm) hK zo,
  rpMul p q h.k g.k h.s g.s zo zo hj hk zo zo (λi=>⟨(Zrq h g i).k,Zzi (Zrq h g i).l hnm⟩) hR zo⟩
abbrev Pt:=Po × Po
abbrev dfM (a b:Pt):Pt:=(subM b.1 a.1,subM b.2 a.2)
def Zb0 (a b c d:Pt):Po:=subM (mlM (subM b.1 a.1) (subM d.2 c.2)) (mlM (subM b.2 a.2) (subM d.1 c.1))
def dotM (a b c d:Pt):Po:=addM (mlM (subM b.1 a.1) (subM d.1 c.1)) (mlM (subM b.2 a.2) (subM d.2 c.2))
def dblM (p:Po):Po:=addM p p
abbrev oneM:Po:=[(1,[])]
def Zfm (t:Po):Po:=addM oneM (mlM t t)
def Zll (o a x:Pt) (t:Po):List Po :=
 let s:=dblM (addM (subM o.1 a.1) (mlM t (subM o.2 a.2)))
 [subM (mlM (Zfm t) (subM x.1 a.1)) s,subM (mlM (Zfm t) (subM x.2 a.2)) (mlM t s)]
def Zf6 (p q o x:Pt):List Po :=
 let n:=dotM p q p q
 let s:=dblM (dotM p o p q)
 [subM (mlM n (subM x.1 p.1)) (mlM s (subM q.1 p.1)),subM (mlM n (subM x.2 p.2)) (mlM s (subM q.2 p.2))]
def Zeb (a b c d:Pt):Po:=subM (dotM a b a b) (dotM c d c d)
def eqsM (k:Int) (a b c d x:Pt) (t:Po):List Po :=
 if k=6 then Zll a b x t
 else if k=7 then [Zb0 b c b x,dotM b c a x]
 else if k=8 then [dotM b c a x,addM (Zb0 b c b a) (Zb0 b c b x)]
 else if k=9 then [Zb0 a b a x,Zb0 c d c x]
 else if k=10 then Zf6 a b c x
 else if k=11 then [Zeb a x b x,Zeb a x c x]
 else if k=12 then [Zb0 a b a x,Zeb c x c d]
 else if k=13 then [Zeb a x a b,Zeb c x c d]
 else if k=14 then [Zeb a x a b,Zeb b x a b]
 else []
structure CB (c:Pt):Prop where
 x:PB c.1 8 110 8
 y:PB c.2 8 110 8
theorem CB.df {a b:Pt} (h:CB a) (g:CB b):PB (subM b.1 a.1) 16 221 8∧PB (subM b.2 a.2) 16 221 8:=⟨(g.x.sub h.x).mono zo zo zo,(g.y.sub h.y).mono zo zo zo⟩
theorem PB.m2 {p q:Po} (h:PB p 16 221 8) (g:PB q 16 221 8):PB (mlM p q) 256 7088 16:=(h.mul g).mono zo zo zo
theorem CB.cross {a b c d:Pt} (ha:CB a) (hb:CB b) (hc:CB c) (hd:CB d):PB (Zb0 a b c d) 512 14177 16 :=
 (((ha.df hb).1.m2 (hc.df hd).2).sub ((ha.df hb).2.m2 (hc.df hd).1)).mono zo zo zo
theorem CB.dot {a b c d:Pt} (ha:CB a) (hb:CB b) (hc:CB c) (hd:CB d):PB (dotM a b c d) 512 14177 16 :=
 (((ha.df hb).1.m2 (hc.df hd).1).add ((ha.df hb).2.m2 (hc.df hd).2)).mono zo zo zo
theorem PB.dbl {p:Po} {n j e:Nat} (h:PB p n j e):PB (dblM p) (n+n) (j+j+1) (max e e):=h.add h
theorem Zf7:PB oneM 1 1 0:=by
 refine⟨Srt.nil.cons zd Zn0 zs,λt ht=>?_,by simp⟩;rw [ZAs] at ht;subst ht;exact⟨Zco 1 zo,by simp,λj=>by rw [Zb9 (Zzp _)];omega⟩
theorem Zed (v:Nat):PB (varM v) 1 1 1:=⟨Zb1 v,Zjb v,by unfold varM;split<;>simp⟩
theorem dbl_scl {p:Po} (h:SrtM p):sclM 2 p=dblM p:=by
 unfold sclM dblM;rw [Zzb zd];refine Zg1 ordM (Zbd h zd) (Za4 ordM h h) λx=>?_;rw [Zi5,Zi6 ordM x h.dom h.dom,show(2:Rat)=1+1 by decide +kernel,Rat.mul_add,ZCh]
theorem one_mul {p:Po} (h:SrtM p):mlM oneM p=p:=by
 rw [Zpj zd h];unfold Zas
 conv=>rhs;rw [←List.map_id p]
 exact ZBn λt ht=>by show(t.1*1,t.2)=t;rw [ZCh]
theorem Zth {p:Po} (h:SrtM p):mlM p oneM=p:=by rw [show mlM p oneM=mlM oneM p from Zix ordM mulK h Zf7.s,one_mul h]
attribute [go_sem] underlying76 underlying22 underlying78 underlying23 underlying25 zFig zSlI zSlS zSlF
attribute [local go_sem] Zcf Zcy Zec Zb5 Zb6 Zdc Zg0 Zhd Zkj Zdn Zc6 Zdm Zj4
theorem irRaw (s:Bool) (l:List Nat) (hl:Lm l) (hs:l.length≤100000000):Pure prog 238 [.agg [.v (.bool s),lim l]] (.v (.bool (RQ.zok s l))):=by
 unfold RQ.zok valL;by_cases h:l.length=0
 ·rw [Zzf h,Bool.true_or,ZA9,Bool.and_true];cases s
  ·refine pI func238 rfl ntmps238 results238 call238 ?_;exact wklp (w_1 @Zax) w_t w_t (w_r 0) w_z
  ·refine pI func238 rfl ntmps238 results238 call238 ?_;exact wklp (w_1 @Zax) w_t w_t (w_r 0) w_z
 ·rw [Zzd h,Bool.false_or,ZD3,ZCv,Bool.and_true];have ei:(l.length:Int) - 1=((l.length - 1:Nat):Int):=zo;have hlm:=Zbx hl (l.length - 1);by_cases hg:gN l (l.length - 1)=0
  ·rw [Zzf hg];cases s
   ·refine pI func238 rfl ntmps238 results238 call238 ?_;exact wklp (w_2 ei @Zax) w_t (w_1 @ZCt) (w_r 0) w_z
   ·refine pI func238 rfl ntmps238 results238 call238 ?_;exact wklp (w_2 ei @Zax) w_t (w_1 @ZCt) (w_r 0) w_z
  ·rw [Zzd hg];cases s
   ·refine pI func238 rfl ntmps238 results238 call238 ?_;exact wklp (w_2 ei @Zax) w_t (w_1 @ZCv) (w_r 0) w_z
   ·refine pI func238 rfl ntmps238 results238 call238 ?_;exact wklp (w_2 ei @Zax) w_t (w_1 @ZCv) (w_r 0) w_z
theorem Zwb (r:RQ) (h:r.lm 100000000):Pure prog 215 [r.av] (.v (.bool r.ok)):=by
 obtain⟨s,l,d⟩:=r;obtain⟨h1,h2,h3,h4⟩:=h;simp only at h1 h2 h3 h4;have c1:=irRaw s l h1 h3;unfold RQ.ok;simp only;generalize RQ.zok s l=z at *;by_cases hd:d.length=0
 ·have:decide (0 < d.length)=false:=Zzd zo;rw [this,ZD3];cases z
  ·refine pI func215 rfl ntmps215 results215 call215 ?_;exact wklp (w_1 @Zax) (w_1 c1) w_t (w_r 0) w_z
  ·refine pI func215 rfl ntmps215 results215 call215 ?_;exact wklp (w_1 @Zax) (w_1 c1) w_t (w_r 0) w_z
 ·have:decide (0 < d.length)=true:=Zzf zo;rw [this,Bool.and_true];have ei:(d.length:Int) - 1=((d.length - 1:Nat):Int):=zo;have hlm:=Zbx h2 (d.length - 1)
  cases z with
  | false =>
    rw [ZAm,ZAm];refine pI func215 rfl ntmps215 results215 call215 ?_;exact wklp (w_1 @Zax) (w_1 c1) w_t (w_r 0) w_z
  | true =>
    rw [ZA9];by_cases hg:gN d (d.length - 1)=0
    ·have:valL d=false:=by unfold valL;rw [Zzd hd,Zzf hg];rfl
     rw [this,ZAm];refine pI func215 rfl ntmps215 results215 call215 ?_;exact wklp (w_2 ei @Zax) (w_1 c1) w_t (w_r 0) w_z
    ·have hv:valL d=true:=by unfold valL;rw [Zzd hd,Zzd hg];rfl
     rw [hv,ZA9];have hdt:=(Zmt h2).1 hv;have l4:(toL (nv d)).length≤100000000:=by rw [←hdt];exact h4
     have c2:=Zl9 (nv d) zo;have c3:=natGcd l d zo zo h1 h2
     have n0:nv d≠0:=by
      intro h0;rw [h0,Zat] at hdt;rw [hdt] at hd;exact hd rfl
     have gl:(toL (Nat.gcd (nv l) (nv d))).length≤100000000:=Zzi (Zc1 (Nat.gcd_le_right _ zo)) l4;have c4:=Zl9 (Nat.gcd (nv l) (nv d)) zo;rw [←hdt] at c2;have hb:(Nat.gcd (nv l) (nv d) == 1)=decide (Nat.gcd (nv l) (nv d)=1):=by rw [Zzz,ZBa,ZAg]
     rw [hb];by_cases h1d:nv d=1
     ·rw [Zzf h1d] at c2;rw [Zzf (show Nat.gcd (nv l) (nv d)=1 by rw [h1d,Nat.gcd_one_right])];clear c3 c4 hdt;refine pI func215 rfl ntmps215 results215 call215 ?_;exact wklp (w_2 ei @Zax) (w_2 c1 c2) (w_1 @decide_true) (w_r 0) w_z
     ·rw [Zzd h1d] at c2;clear hdt hb gl;generalize decide (Nat.gcd (nv l) (nv d)=1)=v at *;generalize toL (Nat.gcd (nv l) (nv d))=lg' at *;refine pI func215 rfl ntmps215 results215 call215 ?_;exact wklp (w_2 ei @Zax) (w_4 c1 c2 c3 c4) w_t (w_r 0) w_z
theorem lwAr (k:Int):Pure prog 212 [iv k] (iv (arS k)):=by
 unfold arS;refine pI func212 rfl ntmps212 results212 call212 ?_;(focus (refine wklp w_t w_t w_t (w_r 0) ?_;(repeat' first|exact w_t|apply w_l);all_goals intros));all_goals (congr 2;repeat' split)
 all_goals (first|rfl|omega)
theorem lwNone (r:RQ):Pure prog 216 [r.av] (.v (.bool r.none)):=by
 obtain⟨s,l,d⟩:=r;unfold RQ.none;simp only;cases s
 ·refine pI func216 rfl ntmps216 results216 call216 ?_;(focus (refine wklp (w_1 @Zax) w_t w_t (w_r 0) ?_;(repeat' first|exact w_t|apply w_l);all_goals intros))
 ·refine pI func216 rfl ntmps216 results216 call216 ?_;(focus (refine wklp (w_1 @Zax) w_t w_t (w_r 0) ?_;(repeat' first|exact w_t|apply w_l);all_goals intros))
theorem rlAr (k:Int):Pure prog 128 [iv k] (iv (arS k)):=by
 unfold arS;refine pI func128 rfl ntmps128 results128 call128 ?_;exact wklp w_t w_t w_t (w_r 0) w_z;all_goals (congr 2;repeat' split)
 all_goals (first|rfl|omega)
theorem rlNone (r:RQ):Pure prog 129 [r.av] (.v (.bool r.none)):=by
 obtain⟨s,l,d⟩:=r;unfold RQ.none;simp only;cases s
 ·refine pI func129 rfl ntmps129 results129 call129 ?_;exact wklp (w_1 @Zax) w_t w_t (w_r 0) w_z
 ·refine pI func129 rfl ntmps129 results129 call129 ?_;exact wklp (w_1 @Zax) w_t w_t (w_r 0) w_z
theorem prAr (k:Int):Pure prog 220 [iv k] (iv (arG k)):=by
 unfold arG;refine pI func220 rfl ntmps220 results220 call220 ?_;(focus (refine wklp w_t w_t w_t (w_r 0) ?_;(repeat' first|exact w_t|apply w_l);all_goals intros));all_goals (congr 2;repeat' split)
 all_goals (first|rfl|omega)
theorem prNone (r:RQ):Pure prog 221 [r.av] (.v (.bool r.none)):=by
 obtain⟨s,l,d⟩:=r;unfold RQ.none;simp only;cases s
 ·refine pI func221 rfl ntmps221 results221 call221 ?_;(focus (refine wklp (w_1 @Zax) w_t w_t (w_r 0) ?_;(repeat' first|exact w_t|apply w_l);all_goals intros))
 ·refine pI func221 rfl ntmps221 results221 call221 ?_;(focus (refine wklp (w_1 @Zax) w_t w_t (w_r 0) ?_;(repeat' first|exact w_t|apply w_l);all_goals intros))
theorem rrAr (k:Int):Pure prog 131 [iv k] (iv (arG k)):=by
 unfold arG;refine pI func131 rfl ntmps131 results131 call131 ?_;exact wklp w_t w_t w_t (w_r 0) w_z;all_goals (congr 2;repeat' split)
 all_goals (first|rfl|omega)
theorem rrNone (r:RQ):Pure prog 132 [r.av] (.v (.bool r.none)):=by
 obtain⟨s,l,d⟩:=r;unfold RQ.none;simp only;cases s
 ·refine pI func132 rfl ntmps132 results132 call132 ?_;exact wklp (w_1 @Zax) w_t w_t (w_r 0) w_z
 ·refine pI func132 rfl ntmps132 results132 call132 ?_;exact wklp (w_1 @Zax) w_t w_t (w_r 0) w_z
theorem Zml {α:Type} (F:α→Bool) (l:List α):∃n,n≤l.length∧(∀j (h:j < l.length),j < n→F l[j]=false)∧(∀h:n < l.length,F l[n]=true)∧l.any F=decide (n < l.length):=by
 induction l with
 | nil=>exact⟨0,by simp,by simp,by simp,by simp⟩
 | cons a l ih =>
   obtain⟨n,h1,h2,h3,h4⟩:=ih
   cases ha:F a with
   | true=>exact⟨0,by simp,λj h h'=>zo,λ_=>ha,by simp [ha]⟩
   | false =>
     refine⟨n+1,by simpa using h1,λj h h'=>?_,λh=>h3 (by simpa using h),by simp [ha,h4]⟩
     cases j with
     | zero=>exact ha
     | succ j=>exact h2 j (by simpa using h) zo
theorem ck1 (a i:Int):Pure prog 214 [iv a,.pimm [iv i]] (.v (.bool (decide (a < 0) || decide (i≤a)))):=by
 refine pI func214 rfl ntmps214 results214 call214 ?_;(focus (refine wklp w_t w_t w_t (w_r 0) ?_;(repeat' first|exact w_t|apply w_l);all_goals intros))
theorem slIdx1 (l:List Int) (i:Int) (hl:l.length≤1000000000):∃z:Int,Pure prog 237 [ivs l,.fn 214 [.pimm [iv i]]] (iv z)∧decide (0≤z)=outB i l:=by
 obtain⟨n,h1,h2,h3,h4⟩:=Zml (λa=>decide (a < 0) || decide (i≤a)) l;refine⟨if n < l.length then (n:Int) else -1,?_,?_⟩
 ·refine pI func237 rfl ntmps237 results237 call237 ?_;(focus (refine wkap (w_1 @Zbj) w_t (w_r 0) ?_;(repeat' first|exact w_t|apply w_l);all_goals intros));refine Zab (ι:=Nat) (λk e m=>k≤n∧e 0=ivs l∧e 1=.fn 214 [.pimm [iv i]]∧e 7=iv l.length∧e 8=iv k) (λk=>n - k) 0 zr ?_ ?_
  ·rintro k e m ⟨hk,e0,e1,e7,e8⟩
   by_cases hlt:k < l.length
   ·have hg:=Zaj iv hlt;by_cases hkn:k < n
    ·have hb:=h2 k hlt hkn;have c:=ck1 l[k] i;rw [hb] at c;clear hb;generalize l[k]=a at *;(focus (refine wkap (w_6 e0 e1 e7 e8 hg @Zbj) (w_1 c) (w_r 0) ?_;(repeat' first|exact w_t|apply w_l);all_goals intros));exact⟨k+1,⟨zo,gW e0,gW e1,gW e7,gS⟩,zo⟩
    ·have hkn:k=n:=zo;subst hkn;have hb:=h3 hlt;have c:=ck1 l[k] i;rw [hb] at c;rw [Zzc hlt];clear hb;generalize l[k]=a at *;(focus (refine wklp (w_6 e0 e1 e7 e8 hg @Zbj) (w_1 c) w_t (w_r 0) ?_;(repeat' first|exact w_t|apply w_l);all_goals intros))
   ·rw [Zzb zo];(focus (refine wklp (w_5 e0 e1 e7 e8 @Zbj) w_t w_t (w_r 0) ?_;(repeat' first|exact w_t|apply w_l);all_goals intros))
  ·exact⟨Zzp _,gC,gC,by(simp (disch:=omega) only [go_sem,Zzg]<;>repeat' first|rfl|refine⟨?_,?_⟩),gC⟩
 ·unfold outB;rw [h4,Zzz,ZAg,ZAg];split<;>omega
theorem slCon1 (l:List Int) (i:Int) (hl:l.length≤1000000000):Pure prog 213 [ivs l,.fn 214 [.pimm [iv i]]] (.v (.bool (outB i l))):=by
 obtain⟨z,c,hz⟩:=slIdx1 l i hl;rw [←hz];refine pI func213 rfl ntmps213 results213 call213 ?_;(focus (refine wklp w_t (w_1 c) w_t (w_r 0) ?_;(repeat' first|exact w_t|apply w_l);all_goals intros))
theorem ck2 (t s:RS):Pure prog 219 [t.av,.pimm [iv s.k,strA s.nm,ivs s.ar,.v (.bool s.r.s),lim s.r.l,lim s.r.d]] (.v (.bool (t.nm.toList == s.nm.toList))):=by
 obtain⟨a,b,c,d⟩:=t;obtain⟨a',b',c',d'⟩:=s;refine pI func219 rfl ntmps219 results219 call219 ?_;(focus (refine wklp w_t w_t w_t (w_r 0) ?_;(repeat' first|exact w_t|apply w_l);all_goals intros))
theorem slIdx2 (l:List RS) (s:RS) (hl:l.length≤1000000000):∃z:Int,Pure prog 242 [.sl 6 (l.map RS.av),.fn 219 [.pimm [iv s.k,strA s.nm,ivs s.ar,.v (.bool s.r.s),lim s.r.l,lim s.r.d]]] (iv z)∧decide (0≤z)=l.any (λt=>t.nm.toList == s.nm.toList):=by
 obtain⟨n,h1,h2,h3,h4⟩:=Zml (λt:RS=>t.nm.toList == s.nm.toList) l;refine⟨if n < l.length then (n:Int) else -1,?_,?_⟩
 ·refine pI func242 rfl ntmps242 results242 call242 ?_;(focus (refine wkap (w_1 @Zbj) w_t (w_r 0) ?_;(repeat' first|exact w_t|apply w_l);all_goals intros));refine Zab (ι:=Nat) (λk e m=>k≤n∧e 0=.sl 6 (l.map RS.av)∧e 1=.fn 219 [.pimm [iv s.k,strA s.nm,ivs s.ar,.v (.bool s.r.s),lim s.r.l,lim s.r.d]]∧e 7=iv l.length∧e 8=iv k) (λk=>n - k) 0 zr ?_ ?_
  ·rintro k e m ⟨hk,e0,e1,e7,e8⟩
   by_cases hlt:k < l.length
   ·have hg:=Zaj RS.av hlt;by_cases hkn:k < n
    ·have hb:=h2 k hlt hkn;have c:=ck2 l[k] s;rw [hb] at c;clear hb;generalize l[k]=a at *;obtain⟨a1,a2,a3,a4⟩:=a;(focus (refine wkap (w_6 e0 e1 e7 e8 hg @Zbj) (w_1 c) (w_r 0) ?_;(repeat' first|exact w_t|apply w_l);all_goals intros));exact⟨k+1,⟨zo,gW e0,gW e1,gW e7,gS⟩,zo⟩
    ·have hkn:k=n:=zo;subst hkn;have hb:=h3 hlt;have c:=ck2 l[k] s;rw [hb] at c;rw [Zzc hlt];clear hb;generalize l[k]=a at *;obtain⟨a1,a2,a3,a4⟩:=a;(focus (refine wklp (w_6 e0 e1 e7 e8 hg @Zbj) (w_1 c) w_t (w_r 0) ?_;(repeat' first|exact w_t|apply w_l);all_goals intros))
   ·rw [Zzb zo];(focus (refine wklp (w_5 e0 e1 e7 e8 @Zbj) w_t w_t (w_r 0) ?_;(repeat' first|exact w_t|apply w_l);all_goals intros))
  ·exact⟨Zzp _,gC,gC,by(simp (disch:=omega) only [go_sem,Zzg]<;>repeat' first|rfl|refine⟨?_,?_⟩),gC⟩
 ·rw [h4,Zzz,ZAg,ZAg];split<;>omega
theorem slCon2 (l:List RS) (s:RS) (hl:l.length≤1000000000):Pure prog 218 [.sl 6 (l.map RS.av),.fn 219 [.pimm [iv s.k,strA s.nm,ivs s.ar,.v (.bool s.r.s),lim s.r.l,lim s.r.d]]] (.v (.bool (l.any (λt=>t.nm.toList == s.nm.toList)))):=by
 obtain⟨z,c,hz⟩:=slIdx2 l s hl;rw [←hz];refine pI func218 rfl ntmps218 results218 call218 ?_;(focus (refine wklp w_t (w_1 c) w_t (w_r 0) ?_;(repeat' first|exact w_t|apply w_l);all_goals intros))
def RS.sm (s:RS):Prop:=s.r.lm 100000000∧s.nm.size≤1000000000∧s.ar.length≤1000000000
def RG.sm (g:RG):Prop:=g.r.lm 100000000∧g.ar.length≤1000000000
theorem lwCheck (ss:List RS) (i:Nat) (hi:i < ss.length) (hl:ss.length≤1000000000) (hs:∀s∈ss,s.sm):Pure prog 158 [.sl 6 (ss.map RS.av),iv i] (iv (errS ss i)):=by
 have hg:=Zaj RS.av hi;have hsm:=hs _ (Zzt hi);have e0:errS ss i=errS ss i:=rfl;unfold errS at e0 ⊢;rw [show ss.getD i RS.zero=ss[i] from by rw [Zzo,Zzn hi];rfl];clear e0;have htk:(ss.map RS.av).take i=(ss.take i).map RS.av:=(List.map_take ..).symm;have c2:=slCon2 (ss.take i) ss[i] (by rw [Zzv];omega);rw [←htk] at c2;have hlm:(ss.map RS.av).length=ss.length:=Zzg ..;generalize ss.map RS.av=M at *;generalize ss[i]=s at *;clear htk;clear hs;obtain⟨h1,h2,h3⟩:=hsm;have ca:=lwAr s.k;have cr:=Zwb s.r h1;have cn:=lwNone s.r
 have cm:=nmName s.nm h2;have c1:=slCon1 s.ar i h3;have hst:=Zmw s.nm;have hla:(s.ar.map iv).length=s.ar.length:=Zzg ..;obtain⟨k,nm,ar,r,rl,rd⟩:=s;simp only at *;generalize (ss.take i).any (λt=>t.nm.toList == nm.toList)=any at *;generalize arS k=a at *;generalize outB (i:Int) ar=o at *;generalize RQ.ok ⟨r,rl,rd⟩=ok at *;generalize RQ.none ⟨r,rl,rd⟩=no at *;generalize namB nm=nb at *;by_cases w1:a < 0
 ·rw [Zzc w1];refine pI func158 rfl ntmps158 results158 call158 ?_;(focus (refine wklp (w_3 hg hlm hla) (w_1 ca) w_t (w_r 0) ?_;(repeat' first|exact w_t|apply w_l);all_goals intros))
 ·rw [Zzb w1];by_cases w2:(ar.length:Int)≠a
  ·rw [Zzc w2];refine pI func158 rfl ntmps158 results158 call158 ?_;(focus (refine wklp (w_3 hg hlm hla) (w_1 ca) w_t (w_r 0) ?_;(repeat' first|exact w_t|apply w_l);all_goals intros))
  ·rw [Zzb w2]
   cases o with
   | true =>
     rw [Zzc rfl];refine pI func158 rfl ntmps158 results158 call158 ?_;(focus (refine wkax (w_3 hg hlm hla) (w_1 ca) w_t (w_1 c1) w_t w_t w_y (w_r 0) ?_;(repeat' first|exact w_t|apply w_l);all_goals intros))
     (all_goals (try simp (disch:=omega) only [go_sem,Zzf,Zzd,Zzc,Zzb,Int.reduceAdd,Int.reduceSub,Int.reduceToNat,Zzh]));(all_goals first|done|rfl|(congr 2;first|done|omega|(rw [Zzz];simp only [bool_to_prop,Zzr,ZAa,ZAb,ZAc,ZAd];omega))|skip)
   | false =>
     rw [Zzb zd];by_cases w3:(k=2∧ok=false)∨(k≠2∧no=false)
     ·rw [Zzc w3];rcases w3 with⟨hk,rfl⟩ | ⟨hk,rfl⟩
      ·subst hk;refine pI func158 rfl ntmps158 results158 call158 ?_;(focus (refine wkax (w_3 hg hlm hla) (w_2 ca cr) w_t (w_1 c1) w_t w_t w_y (w_r 0) ?_;(repeat' first|exact w_t|apply w_l);all_goals intros))
       (all_goals (try simp (disch:=omega) only [go_sem,Zzf,Zzd,Zzc,Zzb,Int.reduceAdd,Int.reduceSub,Int.reduceToNat,Zzh]));(all_goals first|done|rfl|(congr 2;first|done|omega|(rw [Zzz];simp only [bool_to_prop,Zzr,ZAa,ZAb,ZAc,ZAd];omega))|skip)
      ·refine pI func158 rfl ntmps158 results158 call158 ?_;(focus (refine wkax (w_3 hg hlm hla) (w_2 ca cn) w_t (w_1 c1) w_t w_t w_y (w_r 0) ?_;(repeat' first|exact w_t|apply w_l);all_goals intros))
       (all_goals (try simp (disch:=omega) only [go_sem,Zzf,Zzd,Zzc,Zzb,Int.reduceAdd,Int.reduceSub,Int.reduceToNat,Zzh]));(all_goals first|done|rfl|(congr 2;first|done|omega|(rw [Zzz];simp only [bool_to_prop,Zzr,ZAa,ZAb,ZAc,ZAd];omega))|skip)
     ·rw [Zzb w3]
      have w4:(k=2∧ok=true)∨(k≠2∧no=true):=by
       by_cases hk:k=2
       ·cases ok
        ·exact absurd (.inl ⟨hk,rfl⟩) w3
        ·exact .inl ⟨hk,rfl⟩
       ·cases no
        ·exact absurd (.inr ⟨hk,rfl⟩) w3
        ·exact .inr ⟨hk,rfl⟩
      clear w3;by_cases w5:nm.size=0
      ·rw [Zzc w5];rw [Zzf w5] at hst;rcases w4 with⟨hk,rfl⟩ | ⟨hk,rfl⟩
       ·subst hk;refine pI func158 rfl ntmps158 results158 call158 ?_;(focus (refine wkax (w_4 hg hlm hla hst) (w_2 ca cr) w_t (w_1 c1) w_t w_t w_y (w_r 0) ?_;(repeat' first|exact w_t|apply w_l);all_goals intros))
        (all_goals (try simp (disch:=omega) only [go_sem,Zzf,Zzd,Zzc,Zzb,Int.reduceAdd,Int.reduceSub,Int.reduceToNat,Zzh]));(all_goals first|done|rfl|(congr 2;first|done|omega|(rw [Zzz];simp only [bool_to_prop,Zzr,ZAa,ZAb,ZAc,ZAd];omega))|skip)
       ·refine pI func158 rfl ntmps158 results158 call158 ?_;(focus (refine wkax (w_4 hg hlm hla hst) (w_2 ca cn) w_t (w_1 c1) w_t w_t w_y (w_r 0) ?_;(repeat' first|exact w_t|apply w_l);all_goals intros))
        (all_goals (try simp (disch:=omega) only [go_sem,Zzf,Zzd,Zzc,Zzb,Int.reduceAdd,Int.reduceSub,Int.reduceToNat,Zzh]));(all_goals first|done|rfl|(congr 2;first|done|omega|(rw [Zzz];simp only [bool_to_prop,Zzr,ZAa,ZAb,ZAc,ZAd];omega))|skip)
      ·rw [Zzb w5];rw [Zzd w5] at hst
       cases nb with
       | false =>
         rw [Zzc rfl];rcases w4 with⟨hk,rfl⟩ | ⟨hk,rfl⟩
         ·subst hk;refine pI func158 rfl ntmps158 results158 call158 ?_;(focus (refine wkax (w_4 hg hlm hla hst) (w_3 ca cr cm) w_t (w_1 c1) w_t w_t w_y (w_r 0) ?_;(repeat' first|exact w_t|apply w_l);all_goals intros))
          (all_goals (try simp (disch:=omega) only [go_sem,Zzf,Zzd,Zzc,Zzb,Int.reduceAdd,Int.reduceSub,Int.reduceToNat,Zzh]));(all_goals first|done|rfl|(congr 2;first|done|omega|(rw [Zzz];simp only [bool_to_prop,Zzr,ZAa,ZAb,ZAc,ZAd];omega))|skip)
         ·refine pI func158 rfl ntmps158 results158 call158 ?_;(focus (refine wkax (w_4 hg hlm hla hst) (w_3 ca cn cm) w_t (w_1 c1) w_t w_t w_y (w_r 0) ?_;(repeat' first|exact w_t|apply w_l);all_goals intros))
          (all_goals (try simp (disch:=omega) only [go_sem,Zzf,Zzd,Zzc,Zzb,Int.reduceAdd,Int.reduceSub,Int.reduceToNat,Zzh]));(all_goals first|done|rfl|(congr 2;first|done|omega|(rw [Zzz];simp only [bool_to_prop,Zzr,ZAa,ZAb,ZAc,ZAd];omega))|skip)
       | true =>
         rw [Zzb zd];rcases w4 with⟨hk,rfl⟩ | ⟨hk,rfl⟩
         ·subst hk;cases any
          ·refine pI func158 rfl ntmps158 results158 call158 ?_;(focus (refine wkax (w_5 hg hlm hla hst @Zgo) (w_3 ca cr cm) w_t (w_2 c1 c2) w_t w_t w_y (w_r 0) ?_;(repeat' first|exact w_t|apply w_l);all_goals intros))
           (all_goals (try simp (disch:=omega) only [go_sem,Zzf,Zzd,Zzc,Zzb,Int.reduceAdd,Int.reduceSub,Int.reduceToNat,Zzh]));(all_goals first|done|rfl|(congr 2;first|done|omega|(rw [Zzz];simp only [bool_to_prop,Zzr,ZAa,ZAb,ZAc,ZAd];omega))|skip)
          ·refine pI func158 rfl ntmps158 results158 call158 ?_;(focus (refine wkax (w_5 hg hlm hla hst @Zgo) (w_3 ca cr cm) w_t (w_2 c1 c2) w_t w_t w_y (w_r 0) ?_;(repeat' first|exact w_t|apply w_l);all_goals intros))
           (all_goals (try simp (disch:=omega) only [go_sem,Zzf,Zzd,Zzc,Zzb,Int.reduceAdd,Int.reduceSub,Int.reduceToNat,Zzh]));(all_goals first|done|rfl|(congr 2;first|done|omega|(rw [Zzz];simp only [bool_to_prop,Zzr,ZAa,ZAb,ZAc,ZAd];omega))|skip)
         ·cases any
          ·refine pI func158 rfl ntmps158 results158 call158 ?_;(focus (refine wkax (w_5 hg hlm hla hst @Zgo) (w_3 ca cn cm) w_t (w_2 c1 c2) w_t w_t w_y (w_r 0) ?_;(repeat' first|exact w_t|apply w_l);all_goals intros))
           (all_goals (try simp (disch:=omega) only [go_sem,Zzf,Zzd,Zzc,Zzb,Int.reduceAdd,Int.reduceSub,Int.reduceToNat,Zzh]));(all_goals first|done|rfl|(congr 2;first|done|omega|(rw [Zzz];simp only [bool_to_prop,Zzr,ZAa,ZAb,ZAc,ZAd];omega))|skip)
          ·refine pI func158 rfl ntmps158 results158 call158 ?_;(focus (refine wkax (w_5 hg hlm hla hst @Zgo) (w_3 ca cn cm) w_t (w_2 c1 c2) w_t w_t w_y (w_r 0) ?_;(repeat' first|exact w_t|apply w_l);all_goals intros))
           (all_goals (try simp (disch:=omega) only [go_sem,Zzf,Zzd,Zzc,Zzb,Int.reduceAdd,Int.reduceSub,Int.reduceToNat,Zzh]));(all_goals first|done|rfl|(congr 2;first|done|omega|(rw [Zzz];simp only [bool_to_prop,Zzr,ZAa,ZAb,ZAc,ZAd];omega))|skip)
theorem Zk0 {n:Int} {l:List Int} {k:Nat} (hk:k < l.length):outB n (l.take (k+1))=(outB n (l.take k) || (decide (l[k] < 0) || decide (n≤l[k]))):=by
 unfold outB;rw [ZB7 hk,List.any_append,List.any_cons,List.any_nil,Bool.or_false]
theorem Zrh {n:Int} {l:List Int} {k:Nat} (hk:k < l.length) (h:(decide (l[k] < 0) || decide (n≤l[k]))=true):outB n l=true:=List.any_eq_true.2 ⟨l[k],Zzt hk,h⟩
theorem prRight (g:RG) (n:Nat) (hn:n≤1000000000) (hs:g.sm):Pure prog 159 [g.av,iv n] (iv (errG g n)):=by
 obtain⟨h1,h3⟩:=hs;unfold errG;have ca:=prAr g.k;have cr:Pure prog 215 [g.r.av] (.v (.bool g.r.ok)):=Zwb g.r h1;have cn:=prNone g.r;have hla:(g.ar.map iv).length=g.ar.length:=Zzg ..;obtain⟨k,ar,r,rl,rd⟩:=g;simp only at *;generalize arG k=a at *;generalize RQ.ok ⟨r,rl,rd⟩=ok at *;generalize RQ.none ⟨r,rl,rd⟩=no at *;by_cases w1:a=0
 ·rw [Zzc w1];subst w1;refine pI func159 rfl ntmps159 results159 call159 ?_;(focus (refine wklp (w_1 hla) (w_1 ca) w_t (w_r 0) ?_;(repeat' first|exact w_t|apply w_l);all_goals intros))
 ·rw [Zzb w1];by_cases w2:(ar.length:Int)≠a
  ·rw [Zzc w2];refine pI func159 rfl ntmps159 results159 call159 ?_;(focus (refine wklp (w_1 hla) (w_1 ca) w_t (w_r 0) ?_;(repeat' first|exact w_t|apply w_l);all_goals intros))
  ·rw [Zzb w2];refine pI func159 rfl ntmps159 results159 call159 ?_;(focus (refine wkap (w_1 hla) (w_1 ca) (w_r 0) ?_;(repeat' first|exact w_t|apply w_l);all_goals intros));rename_i g2;refine Zab (ι:=Nat) (λi e m=>i≤ar.length∧e 1=iv n∧e 2=.pbox 2 g2 0∧m 2=some (.box g2 78 [iv k,ivs ar,.v (.bool r),lim rl,lim rd] false)∧e 19=ivs ar∧e 20=iv ar.length∧e 21=iv i∧outB n (ar.take i)=false) (λi=>ar.length - i) 0 zr ?_ ?_
   ·rintro i e m ⟨hi,e1,e2,m2,ea,en,ei,hno⟩
    by_cases hlt:i < ar.length
    ·have hg:=Zaj iv hlt;have hst:=Zk0 (n:=n) hlt;have hat:=Zrh (n:=n) hlt;rw [hno,Bool.false_or] at hst;generalize ar[i]=x at *;by_cases hx:x < 0∨(n:Int)≤x
     ·have hb:(decide (x < 0) || decide ((n:Int)≤x))=true:=by simpa using hx
      rw [Zzc (hat hb)];clear hat hst hb;rcases hx with hx | hx
      ·(focus (refine wklp (w_8 e1 e2 m2 ea en ei hg hla) w_t w_t (w_r 0) ?_;(repeat' first|exact w_t|apply w_l);all_goals intros))
      ·(focus (refine wklp (w_8 e1 e2 m2 ea en ei hg hla) w_t w_t (w_r 0) ?_;(repeat' first|exact w_t|apply w_l);all_goals intros))
     ·have hb:(decide (x < 0) || decide ((n:Int)≤x))=false:=by simpa using hx
      rw [hb] at hst;clear hat hb;(focus (refine wkap (w_8 e1 e2 m2 ea en ei hg hla) w_t (w_r 0) ?_;(repeat' first|exact w_t|apply w_l);all_goals intros));exact⟨i+1,⟨zo,gW e1,gW e2,gW m2,gW ea,gW en,gS,hst⟩,zo⟩
    ·have hi2:i=ar.length:=zo;subst hi2;rw [ZAe] at hno;rw [hno,Zzb zd];by_cases hk:k=9
     ·subst hk;cases ok
      ·rw [Zzc zs];(focus (refine wklp (w_7 e1 e2 m2 ea en ei hla) (w_2 cr cn) w_t (w_r 0) ?_;(repeat' first|exact w_t|apply w_l);all_goals intros))
      ·rw [Zzb zs];(focus (refine wklp (w_7 e1 e2 m2 ea en ei hla) (w_2 cr cn) w_t (w_r 0) ?_;(repeat' first|exact w_t|apply w_l);all_goals intros))
     ·cases no
      ·rw [Zzc (by simp [hk])];(focus (refine wklp (w_7 e1 e2 m2 ea en ei hla) (w_2 cr cn) w_t (w_r 0) ?_;(repeat' first|exact w_t|apply w_l);all_goals intros))
      ·rw [Zzb (by simp [hk])];(focus (refine wklp (w_7 e1 e2 m2 ea en ei hla) (w_2 cr cn) w_t (w_r 0) ?_;(repeat' first|exact w_t|apply w_l);all_goals intros))
   ·exact⟨Zzp _,gC,gC,gC,gC,gW hla,gC,by simp [outB]⟩
theorem rrRight (g:RG) (n:Nat) (hn:n≤1000000000) (hs:g.sm):Pure prog 60 [g.av,iv n] (iv (errG g n)):=by
 obtain⟨h1,h3⟩:=hs;unfold errG;have ca:=rrAr g.k;have cr:Pure prog 21 [g.r.av] (.v (.bool g.r.ok)):=Zwt g.r.s g.r.l g.r.d h1.1 h1.2.1 (Zzi h1.2.2.1 zd) (Zzi h1.2.2.2 zd);have cn:=rrNone g.r;have hla:(g.ar.map iv).length=g.ar.length:=Zzg ..;obtain⟨k,ar,r,rl,rd⟩:=g;simp only at *;generalize arG k=a at *;generalize RQ.ok ⟨r,rl,rd⟩=ok at *;generalize RQ.none ⟨r,rl,rd⟩=no at *;by_cases w1:a=0
 ·rw [Zzc w1];subst w1;refine pI func60 rfl ntmps60 results60 call60 ?_;exact wkld (w_1 hla) (w_1 ca) w_t w_t w_z
 ·rw [Zzb w1];by_cases w2:(ar.length:Int)≠a
  ·rw [Zzc w2];refine pI func60 rfl ntmps60 results60 call60 ?_;exact wkld (w_1 hla) (w_1 ca) w_t (w_1 (w_d 3 [(5,iv a)] [] [])) w_z
  ·rw [Zzb w2];refine pI func60 rfl ntmps60 results60 call60 ?_
   (refine wkad (w_1 hla) (w_1 ca) (w_1 (w_d 3 [(5,iv a)] [] [])) (w_s ?_);intros)
   rename_i g2;refine Zab (ι:=Nat) (λi e m=>i≤ar.length∧e 1=iv n∧e 2=.pbox 2 g2 0∧m 2=some (.box g2 78 [iv k,ivs ar,.v (.bool r),lim rl,lim rd] false)∧e 19=ivs ar∧e 20=iv ar.length∧e 21=iv i∧outB n (ar.take i)=false) (λi=>ar.length - i) 0 zr ?_ ?_
   ·rintro i e m ⟨hi,e1,e2,m2,ea,en,ei,hno⟩
    by_cases hlt:i < ar.length
    ·have hg:=Zaj iv hlt;have hst:=Zk0 (n:=n) hlt;have hat:=Zrh (n:=n) hlt;rw [hno,Bool.false_or] at hst;generalize ar[i]=x at *;by_cases hx:x < 0∨(n:Int)≤x
     ·have hb:(decide (x < 0) || decide ((n:Int)≤x))=true:=by simpa using hx
      rw [Zzc (hat hb)];clear hat hst hb;rcases hx with hx | hx
      ·exact wkld (w_8 e1 e2 m2 ea en ei hg hla) w_t w_t w_t w_z
      ·exact wkld (w_8 e1 e2 m2 ea en ei hg hla) w_t w_t w_t w_z
     ·have hb:(decide (x < 0) || decide ((n:Int)≤x))=false:=by simpa using hx
      rw [hb] at hst;clear hat hb
      (refine wkad (w_8 e1 e2 m2 ea en ei hg hla) w_t w_t (w_s ?_);intros)
      exact⟨i+1,⟨zo,gW e1,gW e2,gW m2,gW ea,gW en,gS,hst⟩,zo⟩
    ·have hi2:i=ar.length:=zo;subst hi2;rw [ZAe] at hno;rw [hno,Zzb zd];by_cases hk:k=9
     ·subst hk;cases ok
      ·rw [Zzc zs];exact wkld (w_7 e1 e2 m2 ea en ei hla) (w_2 cr cn) w_t w_t w_z
      ·rw [Zzb zs];exact wkld (w_7 e1 e2 m2 ea en ei hla) (w_2 cr cn) w_t w_t w_z
     ·cases no
      ·rw [Zzc (by simp [hk])];exact wkld (w_7 e1 e2 m2 ea en ei hla) (w_2 cr cn) w_t w_t w_z
      ·rw [Zzb (by simp [hk])];exact wkld (w_7 e1 e2 m2 ea en ei hla) (w_2 cr cn) w_t w_t w_z
   ·exact⟨Zzp _,gC,gC,gC,gC,gW hla,gC,by simp [outB]⟩
theorem Zxv (ss:List RS) (gs:List RG) (h1:ss.length≤1000000000) (h2:gs.length≤1000000000) (hs:∀s∈ss,s.sm) (hg:∀g∈gs,g.sm):Pure prog 103 [figA ss gs] (iv (figE ss gs)):=by
 have hls:(ss.map RS.av).length=ss.length:=Zzg ..;have hlg:(gs.map RG.av).length=gs.length:=Zzg ..;have eg:∀i (h:i < gs.length),(gs.map RG.av).getD i .u=gs[i].av:=λi h=>Zaj RG.av h;have eg2:∀i (h:i < gs.length),gs.getD i ⟨0,[],⟨false,[],[]⟩⟩=gs[i]:=λi h=>by rw [Zzo,Zzn h];rfl
 have cc:∀i,i < ss.length→Pure prog 158 [.sl 6 (ss.map RS.av),iv i] (iv (errS ss i)):=λi hi=>lwCheck ss i hi h1 hs;have cg:∀i (h:i < gs.length),Pure prog 159 [gs[i].av,iv ss.length] (iv (errG gs[i] ss.length)):=λi h=>prRight gs[i] ss.length h1 (hg _ (Zzt h));unfold figE;show Pure _ _ [.agg [.sl 6 (ss.map RS.av),.sl 5 (gs.map RG.av)]] _;generalize ss.map RS.av=M at *;generalize gs.map RG.av=N at *;by_cases hb:40 < ss.length∨8 < gs.length
 ·rw [Zzc hb];refine pI func103 rfl ntmps103 results103 call103 ?_;(focus (refine wklp (w_2 hls hlg) w_t w_t (w_r 0) ?_;(repeat' first|exact w_t|apply w_l);all_goals intros))
 ·rw [Zzb hb];refine pI func103 rfl ntmps103 results103 call103 ?_;(focus (refine wkap (w_2 hls hlg) w_t (w_r 0) ?_;(repeat' first|exact w_t|apply w_l);all_goals intros));rename_i g1;refine Zab (ι:=Nat) (λi e m=>i≤ss.length∧e 1=.pbox 1 g1 0∧m 1=some (.box g1 25 [.sl 6 M,.sl 5 N] false)∧e 20=iv ss.length∧e 21=iv i∧∀j,j < i→errS ss j=0) (λi=>ss.length - i) 0 zr ?_ ?_
  ·rintro i e m ⟨hi,e1,m1,e20,e21,hz⟩
   by_cases hlt:i < ss.length
   ·have c:=cc i hlt;by_cases he:errS ss i=0
    ·rw [he] at c;(focus (refine wkap (w_6 e1 m1 e20 e21 hls hlg) (w_1 c) (w_r 0) ?_;(repeat' first|exact w_t|apply w_l);all_goals intros));exact⟨i+1,⟨zo,gW e1,gW m1,gW e20,gS,λj hj=>by by_cases e:j=i;rw [e];exact he;exact hz j zo⟩,zo⟩
    ·rw [Zld hz he hlt,Zzc he];generalize errS ss i=z at *;(focus (refine wklp (w_6 e1 m1 e20 e21 hls hlg) (w_1 c) w_t (w_r 0) ?_;(repeat' first|exact w_t|apply w_l);all_goals intros))
   ·have hi2:i=ss.length:=zo;subst hi2;rw [Zgc hz,Zzb zs];(focus (refine wkap (w_6 e1 m1 e20 e21 hls hlg) w_t (w_r 0) ?_;(repeat' first|exact w_t|apply w_l);all_goals intros));refine Zab (ι:=Nat) (λi e m=>i≤gs.length∧e 1=.pbox 1 g1 0∧m 1=some (.box g1 25 [.sl 6 M,.sl 5 N] false)∧e 33=.sl 5 N∧e 34=iv gs.length∧e 35=iv i∧∀j,j < i→errG (gs.getD j ⟨0,[],⟨false,[],[]⟩⟩) ss.length=0) (λi=>gs.length - i) 0 zr ?_ ?_
    ·rintro i e m ⟨hi,e1,m1,e33,e34,e35,hz⟩
     by_cases hlt:i < gs.length
     ·have c:=cg i hlt;have hgi:=eg i hlt;have hgj:=eg2 i hlt;have hfa:=@Zld (λi=>errG (gs.getD i ⟨0,[],⟨false,[],[]⟩⟩) ss.length) i hz;simp only [hgj] at hfa;generalize gs[i]=G at *;by_cases he:errG G ss.length=0
      ·rw [he] at c;clear hfa;obtain⟨k,ar,r,rl,rd⟩:=G;(focus (refine wkap (w_8 e1 m1 e33 e34 e35 hls hlg hgi) (w_1 c) (w_r 0) ?_;(repeat' first|exact w_t|apply w_l);all_goals intros));exact⟨i+1,⟨zo,gW e1,gW m1,gW e33,gW e34,gS,λj hj=>by by_cases e:j=i;rw [e,hgj];exact he;exact hz j zo⟩,zo⟩
      ·rw [hfa he hlt];clear hfa;generalize errG G ss.length=z at *;obtain⟨k,ar,r,rl,rd⟩:=G;(focus (refine wklp (w_8 e1 m1 e33 e34 e35 hls hlg hgi) (w_1 c) w_t (w_r 0) ?_;(repeat' first|exact w_t|apply w_l);all_goals intros))
     ·have hi2:i=gs.length:=zo;subst hi2;rw [Zgc hz];(focus (refine wklp (w_7 e1 m1 e33 e34 e35 hls hlg) w_t w_t (w_r 0) ?_;(repeat' first|exact w_t|apply w_l);all_goals intros))
    ·exact⟨Zzp _,gW e1,gW m1,gC,gW hlg,gC,λj hj=>zo⟩
  ·exact⟨Zzp _,gC,gC,gW hls,gC,λj hj=>zo⟩
theorem rlCheck (ss:List RS) (i:Nat) (hi:i < ss.length) (hl:ss.length≤1000000000) (hs:∀s∈ss,s.sm):Pure prog 59 [.sl 6 (ss.map RS.av),iv i] (iv (errS ss i)):=by
 have hg:=Zaj RS.av hi;have hsm:=hs _ (Zzt hi);unfold errS;rw [show ss.getD i RS.zero=ss[i] from by rw [Zzo,Zzn hi];rfl];have hgt:∀k,k < i→∃t:RS,((ss.map RS.av).take i).getD k .u=t.av∧(ss.take i)[k]?=some t:=λk hk=>by
  refine⟨ss[k],?_,?_⟩
  ·rw [Zzo,ZBj,Zzc hk,ZA3,Zzn zo];rfl
  ·rw [ZBj,Zzc hk,Zzn zo]
 have hlm:(ss.map RS.av).length=ss.length:=Zzg ..;have hlt:(ss.take i).length=i:=by rw [Zzv];omega
 generalize ss.map RS.av=M at *;generalize ss[i]=s at *;generalize ss.take i=T at *;clear hs;obtain⟨h1,h2,h3⟩:=hsm;have ca:=rlAr s.k;have cr:Pure prog 21 [s.r.av] (.v (.bool s.r.ok)):=Zwt s.r.s s.r.l s.r.d h1.1 h1.2.1 (Zzi h1.2.2.1 zd) (Zzi h1.2.2.2 zd);have cn:=rlNone s.r;have cm:=rnName s.nm h2;have hst:=Zmw s.nm;have hla:(s.ar.map iv).length=s.ar.length:=Zzg ..;obtain⟨k,nm,ar,r,rl,rd⟩:=s;simp only at *;generalize arS k=a at *;generalize RQ.ok ⟨r,rl,rd⟩=ok at *;generalize RQ.none ⟨r,rl,rd⟩=no at *;generalize namB nm=nb at *;by_cases w1:a < 0
 ·rw [Zzc w1];refine pI func59 rfl ntmps59 results59 call59 ?_;exact wkld (w_3 hg hlm hla) (w_1 ca) w_t w_t w_z
 ·rw [Zzb w1];by_cases w2:(ar.length:Int)≠a
  ·rw [Zzc w2];refine pI func59 rfl ntmps59 results59 call59 ?_;exact wkld (w_3 hg hlm hla) (w_1 ca) w_t (w_1 (w_d 4 [(5,iv a)] [] [])) w_z
  ·rw [Zzb w2];refine pI func59 rfl ntmps59 results59 call59 ?_
   (refine wkad (w_3 hg hlm hla) (w_1 ca) (w_1 (w_d 4 [(5,iv a)] [] [])) (w_s ?_);intros)
   rename_i g5;refine Zab (ι:=Nat) (λx e m=>x≤ar.length∧e 0=.sl 6 M∧e 1=iv i∧e 5=.pbox 5 g5 0∧m 5=some (.box g5 76 [iv k,strA nm,ivs ar,.v (.bool r),lim rl,lim rd] false)∧e 26=ivs ar∧e 27=iv ar.length∧e 28=iv x∧outB i (ar.take x)=false) (λx=>ar.length - x) 0 zr ?_ ?_
   ·rintro x e m ⟨hx,e0,e1,e5,m5,e26,e27,e28,hno⟩
    by_cases hlt2:x < ar.length
    ·have hga:=Zaj iv hlt2;have hso:=Zk0 (n:=(i:Int)) hlt2;have hat:=Zrh (n:=(i:Int)) hlt2;rw [hno,Bool.false_or] at hso;generalize ar[x]=y at *;by_cases hy:y < 0∨(i:Int)≤y
     ·have hb:(decide (y < 0) || decide ((i:Int)≤y))=true:=by simpa using hy
      rw [Zzc (hat hb)];clear hat hso hb;rcases hy with hy | hy
      ·exact wkld (w_9 e0 e1 e5 m5 e26 e27 e28 hga hla) w_t w_t w_t w_z
      ·exact wkld (w_9 e0 e1 e5 m5 e26 e27 e28 hga hla) w_t w_t w_t w_z
     ·have hb:(decide (y < 0) || decide ((i:Int)≤y))=false:=by simpa using hy
      rw [hb] at hso;clear hat hb
      (refine wkad (w_9 e0 e1 e5 m5 e26 e27 e28 hga hla) w_t w_t (w_s ?_);intros)
      exact⟨x+1,⟨zo,gW e0,gW e1,gW e5,gW m5,gW e26,gW e27,gS,hso⟩,zo⟩
    ·have hi2:x=ar.length:=zo;subst hi2;rw [ZAe] at hno;rw [hno,Zzb zd];by_cases w3:(k=2∧ok=false)∨(k≠2∧no=false)
     ·rw [Zzc w3];rcases w3 with⟨hk,rfl⟩ | ⟨hk,rfl⟩
      ·subst hk;exact wkld (w_8 e0 e1 e5 m5 e26 e27 e28 hla) (w_1 cr) w_t w_t w_z
      ·exact wkld (w_8 e0 e1 e5 m5 e26 e27 e28 hla) (w_1 cn) w_t w_t w_z
     ·rw [Zzb w3]
      have w4:(k=2∧ok=true)∨(k≠2∧no=true):=by
       by_cases hk:k=2
       ·cases ok
        ·exact absurd (.inl ⟨hk,rfl⟩) w3
        ·exact .inl ⟨hk,rfl⟩
       ·cases no
        ·exact absurd (.inr ⟨hk,rfl⟩) w3
        ·exact .inr ⟨hk,rfl⟩
      clear w3;have rest:∀(e:Nat→AV) (m:Mem),e 0=.sl 6 M→e 1=iv i→e 5=.pbox 5 g5 0→m 5=some (.box g5 76 [iv k,strA nm,ivs ar,.v (.bool r),lim rl,lim rd] false)→True:=λ_ _ _ _ _ _=>trivial;clear rest;by_cases w5:nm.size=0
      ·rw [Zzc w5];rw [Zzf w5] at hst;rcases w4 with⟨hk,rfl⟩ | ⟨hk,rfl⟩
       ·subst hk;exact wkld (w_9 e0 e1 e5 m5 e26 e27 e28 hla hst) (w_1 cr) w_t w_t w_z
       ·exact wkld (w_9 e0 e1 e5 m5 e26 e27 e28 hla hst) (w_1 cn) w_t w_t w_z
      ·rw [Zzb w5];rw [Zzd w5] at hst
       cases nb with
       | false =>
         rw [Zzc rfl];rcases w4 with⟨hk,rfl⟩ | ⟨hk,rfl⟩
         ·subst hk;exact wkld (w_9 e0 e1 e5 m5 e26 e27 e28 hla hst) (w_2 cr cm) w_t w_t w_z
         ·exact wkld (w_9 e0 e1 e5 m5 e26 e27 e28 hla hst) (w_2 cn cm) w_t w_t w_z
       | true =>
         rw [Zzb zd];rcases w4 with⟨hk,rfl⟩ | ⟨hk,rfl⟩
         all_goals first|(subst hk;(refine wkad (w_12 e0 e1 e5 m5 e26 e27 e28 hla hlm hst @Zgo @Ztm) (w_2 cr cm) w_t (w_s ?_);intros))|(refine wkad (w_12 e0 e1 e5 m5 e26 e27 e28 hla hlm hst @Zgo @Ztm) (w_2 cn cm) w_t (w_s ?_);intros)
         all_goals
          refine Zab (ι:=Nat) (λx e m=>x≤i∧e 5=.pbox 5 g5 0∧(∃k,m 5=some (.box g5 76 [iv k,strA nm,ivs ar,.v (.bool r),lim rl,lim rd] false))∧e 69=.sl 6 (M.take i)∧e 70=iv i∧e 71=iv x∧(T.take x).any (λt=>t.nm.toList == nm.toList)=false) (λx=>i - x) 0 zr ?_ ?_
          ·rintro x e m ⟨hx,e5,⟨k,m5⟩,e69,e70,e71,hnq⟩
           by_cases hlt2:x < i
           ·obtain⟨t,ht,ht2⟩:=hgt x hlt2;have htl:x < T.length:=zo;have htx:T[x]=t:=by rw [Zzn htl] at ht2;cases ht2;rfl
            have hsn:T.take (x+1)=T.take x++[t]:=by rw [ZB7 htl,htx]
            have hmem:t∈T:=by rw [←htx];exact Zzt htl
            obtain⟨tk,tn,ta,tr,tl,td⟩:=t;have hll:(M.take i).length=i:=by rw [Zzv];omega
            cases hw:(tn.toList == nm.toList) with
            | true =>
              have hany:T.any (λt=>t.nm.toList == nm.toList)=true:=List.any_eq_true.2 ⟨_,hmem,hw⟩;rw [Zzc hany];exact wkld (w_8 e5 m5 e69 e70 e71 ht hw hll) w_t w_t w_t w_z
            | false =>
              (refine wkad (w_8 e5 m5 e69 e70 e71 ht hw hll) w_t w_t (w_s ?_);intros)
              exact⟨x+1,⟨zo,gW e5,⟨k,gW m5⟩,gW e69,gW e70,gS,by rw [hsn,List.any_append,hnq];simp [hw]⟩,zo⟩
           ·have hxi:x=i:=zo;subst hxi;rw [show T.take x=T from by rw [←hlt,ZAe]] at hnq;rw [hnq,Zzb zd];exact wkld (w_5 e5 m5 e69 e70 e71) w_t w_t w_t w_z
          ·exact⟨Zzp _,gW e5,⟨_,gW m5⟩,gC,by(simp (disch:=omega) only [go_sem,Zzv,hlm,ZBm]<;>repeat' first|rfl|refine⟨?_,?_⟩),gC,by simp⟩
   ·exact⟨Zzp _,gC,gC,gC,gC,gC,gW hla,gC,by simp [outB]⟩
theorem rlRight (ss:List RS) (gs:List RG) (h1:ss.length≤1000000000) (h2:gs.length≤1000000000) (hs:∀s∈ss,s.sm) (hg:∀g∈gs,g.sm):Pure prog 19 [figA ss gs] (iv (figE ss gs)):=by
 have hls:(ss.map RS.av).length=ss.length:=Zzg ..;have hlg:(gs.map RG.av).length=gs.length:=Zzg ..;have eg:∀i (h:i < gs.length),(gs.map RG.av).getD i .u=gs[i].av:=λi h=>Zaj RG.av h;have eg2:∀i (h:i < gs.length),gs.getD i ⟨0,[],⟨false,[],[]⟩⟩=gs[i]:=λi h=>by rw [Zzo,Zzn h];rfl
 have cc:∀i,i < ss.length→Pure prog 59 [.sl 6 (ss.map RS.av),iv i] (iv (errS ss i)):=λi hi=>rlCheck ss i hi h1 hs;have cg:∀i (h:i < gs.length),Pure prog 60 [gs[i].av,iv ss.length] (iv (errG gs[i] ss.length)):=λi h=>rrRight gs[i] ss.length h1 (hg _ (Zzt h));unfold figE;show Pure _ _ [.agg [.sl 6 (ss.map RS.av),.sl 5 (gs.map RG.av)]] _;generalize ss.map RS.av=M at *;generalize gs.map RG.av=N at *;by_cases hb:40 < ss.length∨8 < gs.length
 ·rw [Zzc hb];refine pI func19 rfl ntmps19 results19 call19 ?_;exact wklp (w_2 hls hlg) w_t w_t (w_r 0) w_z
 ·rw [Zzb hb];refine pI func19 rfl ntmps19 results19 call19 ?_
  (refine wkap (w_2 hls hlg) w_t (w_r 0) (w_s ?_);intros)
  rename_i g1;refine Zab (ι:=Nat) (λi e m=>i≤ss.length∧e 1=.pbox 1 g1 0∧m 1=some (.box g1 25 [.sl 6 M,.sl 5 N] false)∧e 20=iv ss.length∧e 21=iv i∧∀j,j < i→errS ss j=0) (λi=>ss.length - i) 0 zr ?_ ?_
  ·rintro i e m ⟨hi,e1,m1,e20,e21,hz⟩
   by_cases hlt:i < ss.length
   ·have c:=cc i hlt;by_cases he:errS ss i=0
    ·rw [he] at c
     (refine wkap (w_6 e1 m1 e20 e21 hls hlg) (w_1 c) (w_r 0) (w_s ?_);intros)
     exact⟨i+1,⟨zo,gW e1,gW m1,gW e20,gS,λj hj=>by by_cases e:j=i;rw [e];exact he;exact hz j zo⟩,zo⟩
    ·rw [Zld hz he hlt,Zzc he];generalize errS ss i=z at *;exact wklp (w_6 e1 m1 e20 e21 hls hlg) (w_1 c) w_t (w_r 0) w_z
   ·have hi2:i=ss.length:=zo;subst hi2;rw [Zgc hz,Zzb zs]
    (refine wkap (w_6 e1 m1 e20 e21 hls hlg) w_t (w_r 0) (w_s ?_);intros)
    refine Zab (ι:=Nat) (λi e m=>i≤gs.length∧e 1=.pbox 1 g1 0∧m 1=some (.box g1 25 [.sl 6 M,.sl 5 N] false)∧e 33=.sl 5 N∧e 34=iv gs.length∧e 35=iv i∧∀j,j < i→errG (gs.getD j ⟨0,[],⟨false,[],[]⟩⟩) ss.length=0) (λi=>gs.length - i) 0 zr ?_ ?_
    ·rintro i e m ⟨hi,e1,m1,e33,e34,e35,hz⟩
     by_cases hlt:i < gs.length
     ·have c:=cg i hlt;have hgi:=eg i hlt;have hgj:=eg2 i hlt;have hfa:=@Zld (λi=>errG (gs.getD i ⟨0,[],⟨false,[],[]⟩⟩) ss.length) i hz;simp only [hgj] at hfa;generalize gs[i]=G at *;by_cases he:errG G ss.length=0
      ·rw [he] at c;clear hfa;obtain⟨k,ar,r,rl,rd⟩:=G
       (refine wkap (w_8 e1 m1 e33 e34 e35 hls hlg hgi) (w_1 c) (w_r 0) (w_s ?_);intros)
       exact⟨i+1,⟨zo,gW e1,gW m1,gW e33,gW e34,gS,λj hj=>by by_cases e:j=i;rw [e,hgj];exact he;exact hz j zo⟩,zo⟩
      ·rw [hfa he hlt];clear hfa;generalize errG G ss.length=z at *;obtain⟨k,ar,r,rl,rd⟩:=G;exact wklp (w_8 e1 m1 e33 e34 e35 hls hlg hgi) (w_1 c) w_t (w_r 0) w_z
     ·have hi2:i=gs.length:=zo;subst hi2;rw [Zgc hz];exact wklp (w_7 e1 m1 e33 e34 e35 hls hlg) w_t w_t (w_r 0) w_z
    ·exact⟨Zzp _,gW e1,gW m1,gC,gW hlg,gC,λj hj=>zo⟩
  ·exact⟨Zzp _,gC,gC,gW hls,gC,λj hj=>zo⟩
attribute [go_sem] underlying106 underlying38 underlying98 underlying37 underlying40 underlying165 underlying167 underlying163 underlying200 zVar zSlV zSlC zFnC
attribute [local go_sem] Zdl Zdt Zdd Zbg Zbh Zcj Zd0 Za5 Zb4 Zdw Zdz Zf3 Zdv Zdy Zf2 Zd2 Zgg Zgi
theorem Sub.nil (m:Nat):Sub (.v (.slice none 0 0)) (.sl m []):=λw imm x h=>by
 rw [h.v_inv];exact .pure ((Wk.nil m).rd (.v _))
theorem Zel (σ:Mem) (KB KC KV g:Nat) (svC svV:Value) (vs:List Vt) (fr:Nat) (kind step number:Int) (hB:σ KB=some (.box g 165 [.own KC svC,.own KV svV,iv fr] false)) (hV:σ KV=some (.row svV 106 3 (vs.map Vt.av) 0)) (hl:vs.length≤200) (hBV:KB≠KV) :
 ACall prog 169 [.pbox KB g 0,iv kind,iv step,iv number] σ λr σ'=>∃sv,r=poA (varM vs.length)∧σ'=upd (upd σ KV (some (.row sv 106 3 ((vs++[(kind,step,number)]).map Vt.av) 0))) KB (some (.box g 165 [.own KC svC,.own KV sv,iv fr] false)):=by
 have mB:=Zai hB;have mV:=Zai hV;have cv:=poVar vs.length zo;have hln:(vs.map Vt.av).length=vs.length:=Zzg ..;have hm1:((vs.length+1:Nat):Int) - 1=(vs.length:Int):=zo;simp only [Ent.sh,AV.shL,AV.sh] at mB mV;simp only [Zzw,Zz3,Zz1];refine Zaq func169 rfl ntmps169 results169 call169 zr zs ?_;(focus (refine wkap (w_5 mB mV hln hm1 @l_app) (w_1 cv) (w_r 0) ?_;(repeat' first|exact w_t|apply w_l);all_goals intros));simp (disch:=omega) only [go_sem];rename_i sv0 sv1;refine Zd1 (Sub.refl _) ⟨sv1,rfl,rfl⟩ ?_
 (repeat' (first|exact Agr.start _|(refine Agr.own ?_ zo)|(refine Agr.put ?_ rfl rfl)|(refine Agr.mark ?_ zo)|(rw [Zzw];rfl)))
theorem Sub.agg2 {a b a' b':AV} (h:Sub a a') (k:Sub b b'):Sub (.agg [a,b]) (.agg [a',b']):=Sub.agg _ _ rfl λj x y h1 h2=>by
 match j with
 | 0=>simp at h1 h2;subst h1;subst h2;exact h
 | 1=>simp at h1 h2;subst h1;subst h2;exact k
 | j+2=>simp at h1
theorem Zcx {σ:Mem} {k:Nat} {e:Ent} (h:σ k=some e):upd σ k (some e)=σ:=by
 funext j;rw [Zaw];split
 ·subst_vars;exact h.symm
 ·rfl
theorem cbPoint (σ:Mem) (KB KC KV g:Nat) (svC svV:Value) (vs:List Vt) (fr:Nat) (i:Nat) (hB:σ KB=some (.box g 165 [.own KC svC,.own KV svV,iv fr] false)) (hV:σ KV=some (.row svV 106 3 (vs.map Vt.av) 0)) (hl:vs.length≤100) (hBV:KB≠KV) (hf:fr≤1000) :
 ACall prog 165 [.pbox KB g 0,iv i] σ λr σ'=>∃sv,r=coA (if fr=0 then ([],[]) else if fr=1 then (varM vs.length,[]) else (varM vs.length,varM (vs.length+1))) ∧
  σ'=upd (upd σ KV (some (.row sv 106 3 ((vs++(if fr=0 then [] else if fr=1 then [(1,(i:Int),0)] else [(1,(i:Int),0),(1,(i:Int),1)])).map Vt.av) 0))) KB (some (.box g 165 [.own KC svC,.own KV sv,iv (fr+1:Nat)] false)):=by
 have mB:=Zai hB;have mV:=Zai hV;simp only [Ent.sh,AV.shL,AV.sh] at mB mV;by_cases h0:fr=0
 ·subst h0;simp only [ZAj,ZA6];refine Zaq func165 rfl ntmps165 results165 call165 zr zs ?_;(focus (refine wkap (w_2 mB mV) w_t (w_r 0) ?_;(repeat' first|exact w_t|apply w_l);all_goals intros));simp (disch:=omega) only [go_sem];refine Zd1 (Sub.agg2 (Sub.nil 4) (Sub.nil 4)) ⟨svV,rfl,rfl⟩ ?_;rw [Zcx hV]
  (repeat' (first|exact Agr.start _|(refine Agr.own ?_ zo)|(refine Agr.put ?_ rfl rfl)|(refine Agr.mark ?_ zo)|(rw [Zzw];rfl)))
 ·by_cases h1:fr=1
  ·subst h1;simp only [Zzb h0,ZAj];refine Zaq func165 rfl ntmps165 results165 call165 zr zs ?_;(focus (refine wkap (w_2 mB mV) w_t (w_r 0) ?_;(repeat' first|exact w_t|apply w_l);all_goals intros));refine Zce (Zel _ (KB+1000) (KC+1000) (KV+1000) g svC svV vs 2 1 (i:Int) 0 (by(simp (disch:=omega) only [go_sem,mB,mV,Zzb,Zzc]<;>repeat' first|rfl|refine⟨?_,?_⟩)) (by(simp (disch:=omega) only [go_sem,mB,mV,Zzb,Zzc,Zzw,Zz3,Zz1]<;>repeat' first|rfl|refine⟨?_,?_⟩)) (by first|omega|(simp;omega)) zo) ?_;intro sv1;(focus (refine wkap (w_2 mB mV) w_t (w_r 0) ?_;(repeat' first|exact w_t|apply w_l);all_goals intros))
   simp (disch:=omega) only [go_sem];refine Zd1 (Sub.agg2 (Sub.refl _) (Sub.nil 4)) ⟨sv1,rfl,rfl⟩ ?_;simp only [Zzw,Zz3,Zz1];intro k;by_cases hk1:k=KB
   ·rw [hk1];simp (disch:=omega) only [Zaw,Zzc,Zzb,ZAl,Ent.sh,AV.shL,AV.sh]
    try rfl
   ·by_cases hk2:k=KV
    ·rw [hk2];simp (disch:=omega) only [Zaw,Zzc,Zzb,ZAl,Ent.sh,AV.shL,AV.sh]
     try rfl
    ·simp (disch:=omega) only [Zaw,Zzb];exact Agr.start σ k
  ·simp only [Zzb h0,Zzb h1];have hl1:(vs++[((1:Int),(i:Int),(0:Int))]).length=vs.length+1:=by simp
   refine Zaq func165 rfl ntmps165 results165 call165 zr zs ?_;(focus (refine wkap (w_3 mB mV @Zbk) w_t (w_r 0) ?_;(repeat' first|exact w_t|apply w_l);all_goals intros));refine Zce (Zel _ (KB+1000) (KC+1000) (KV+1000) g svC svV vs (fr+1) 1 (i:Int) 0 (by(simp (disch:=omega) only [go_sem,mB,mV,Zzb,Zzc]<;>repeat' first|rfl|refine⟨?_,?_⟩)) (by(simp (disch:=omega) only [go_sem,mB,mV,Zzb,Zzc,Zzw,Zz3,Zz1]<;>repeat' first|rfl|refine⟨?_,?_⟩)) (by first|omega|(simp;omega)) zo) ?_;intro sv1;(focus (refine wkap (w_3 mB mV @Zbk) w_t (w_r 0) ?_;(repeat' first|exact w_t|apply w_l);all_goals intros))
   refine Zce (Zel _ (KB+1000) (KC+1000) (KV+1000) g svC sv1 (vs++[(1,(i:Int),0)]) (fr+1) 1 (i:Int) 1 (by(simp (disch:=omega) only [go_sem,mB,mV,Zzb,Zzc]<;>repeat' first|rfl|refine⟨?_,?_⟩)) (by(simp (disch:=omega) only [go_sem,mB,mV,Zzb,Zzc,Zzw,Zz3,Zz1]<;>repeat' first|rfl|refine⟨?_,?_⟩)) (by first|omega|(simp;omega)) zo) ?_;intro sv2;(focus (refine wkap (w_3 mB mV hl1) w_t (w_r 0) ?_;(repeat' first|exact w_t|apply w_l);all_goals intros));simp (disch:=omega) only [go_sem,hl1];refine Zd1 (Sub.refl _) ⟨sv2,rfl,rfl⟩ ?_;simp only [ZAk,ZB2,ZCm]
   intro k;by_cases hk1:k=KB
   ·rw [hk1];simp (disch:=omega) only [Zaw,Zzc,Zzb,ZAl,Ent.sh,AV.shL,AV.sh]
    try rfl
   ·by_cases hk2:k=KV
    ·rw [hk2];simp (disch:=omega) only [Zaw,Zzc,Zzb,ZAl,Ent.sh,AV.shL,AV.sh]
     try rfl
    ·simp (disch:=omega) only [Zaw,Zzb];exact Agr.start σ k
theorem cbDep (σ:Mem) (KB KC KV g:Nat) (svC svV:Value) (vs:List Vt) (fr:Nat) (i:Nat) (num:Int) (hB:σ KB=some (.box g 165 [.own KC svC,.own KV svV,iv fr] false)) (hV:σ KV=some (.row svV 106 3 (vs.map Vt.av) 0)) (hl:vs.length≤100) (hBV:KB≠KV) (hn:0≤num∧num≤10) :
 ACall prog 171 [.pbox KB g 0,iv i,iv num] σ λr σ'=>∃sv,r=coA (varM vs.length,varM (vs.length+1)) ∧
  σ'=upd (upd σ KV (some (.row sv 106 3 ((vs++[(2,(i:Int),num),(2,(i:Int),num+1)]).map Vt.av) 0))) KB (some (.box g 165 [.own KC svC,.own KV sv,iv fr] false)):=by
 have mB:=Zai hB;have mV:=Zai hV;simp only [Ent.sh,AV.shL,AV.sh] at mB mV;have hl1:(vs++[((2:Int),(i:Int),num)]).length=vs.length+1:=by simp
 refine Zaq func171 rfl ntmps171 results171 call171 zr zs ?_;(focus (refine wkap (w_2 mB mV) w_t (w_r 0) ?_;(repeat' first|exact w_t|apply w_l);all_goals intros));refine Zce (Zel _ (KB+1000) (KC+1000) (KV+1000) g svC svV vs fr 2 (i:Int) num (by(simp (disch:=omega) only [go_sem,mB,mV,Zzb,Zzc]<;>repeat' first|rfl|refine⟨?_,?_⟩)) (by(simp (disch:=omega) only [go_sem,mB,mV,Zzb,Zzc,Zzw,Zz3,Zz1]<;>repeat' first|rfl|refine⟨?_,?_⟩)) (by first|omega|(simp;omega)) zo) ?_;intro sv1;(focus (refine wkap (w_2 mB mV) w_t (w_r 0) ?_;(repeat' first|exact w_t|apply w_l);all_goals intros))
 refine Zce (Zel _ (KB+1000) (KC+1000) (KV+1000) g svC sv1 (vs++[(2,(i:Int),num)]) fr 2 (i:Int) (num+1) (by(simp (disch:=omega) only [go_sem,mB,mV,Zzb,Zzc]<;>repeat' first|rfl|refine⟨?_,?_⟩)) (by(simp (disch:=omega) only [go_sem,mB,mV,Zzb,Zzc,Zzw,Zz3,Zz1]<;>repeat' first|rfl|refine⟨?_,?_⟩)) (by first|omega|(simp;omega)) zo) ?_;intro sv2;(focus (refine wkap (w_3 mB mV hl1) w_t (w_r 0) ?_;(repeat' first|exact w_t|apply w_l);all_goals intros));simp (disch:=omega) only [go_sem,hl1];refine Zd1 (Sub.refl _) ⟨sv2,rfl,rfl⟩ ?_;simp only [ZAk,ZB2,ZCm]
 intro k;by_cases hk1:k=KB
 ·rw [hk1];simp (disch:=omega) only [Zaw,Zzc,Zzb,ZAl,Ent.sh,AV.shL,AV.sh]
  try rfl
 ·by_cases hk2:k=KV
  ·rw [hk2];simp (disch:=omega) only [Zaw,Zzc,Zzb,ZAl,Ent.sh,AV.shL,AV.sh]
   try rfl
  ·simp (disch:=omega) only [Zaw,Zzb];exact Agr.start σ k
theorem Zav {K c:Nat} (h:c < 1000):(K+1000 == c)=false:=by rw [ZEh];omega
theorem Zsk {a b:List Nat} (h:u16s a=u16s b):a=b:=by
 induction a generalizing b with
 | nil=>cases b with
   | nil=>rfl
   | cons y b=>simp [u16s] at h
 | cons x a ih=>cases b with
   | nil=>simp [u16s] at h
   | cons y b =>
     rw [Zvt,Zvt] at h;simp only [List.cons.injEq,AV.v.injEq,Value.int.injEq,true_and] at h;rw [ih h.2,show x=y by omega]
theorem RQ.ok_eq {r:RQ} {k:Nat} (hl:r.lm k) (h:r.ok=true):r=⟨decide (r.q.num < 0),toL r.q.num.natAbs,toL r.q.den⟩:=by
 have h1:=(RQ.ok_av hl h).1;simp only [RQ.av,ratQ,AV.agg.injEq,List.cons.injEq,AV.v.injEq,Value.bool.injEq,lim,AV.sl.injEq,true_and,and_true] at h1;obtain⟨s,l,d⟩:=r;simp only at h1;rw [RQ.mk.injEq];exact⟨h1.1,Zsk h1.2.1,Zsk h1.2.2⟩
theorem coOf (c:Po × Po):Pure prog 164 [coA c] (coA c):=by
 obtain⟨p,q⟩:=c;refine pI func164 rfl ntmps164 results164 call164 ?_;(focus (refine wklp w_t w_t w_t (w_r 0) ?_;(repeat' first|exact w_t|apply w_l);all_goals intros))
theorem Zhc (f:Nat) (a b r:Po × Po) (c1:Pure prog f [poA a.1,poA b.1] (poA r.1)) (c2:Pure prog f [poA a.2,poA b.2] (poA r.2)):Pure prog 163 [coA a,coA b,.fn f []] (coA r):=by
 obtain⟨a1,a2⟩:=a;obtain⟨b1,b2⟩:=b;obtain⟨r1,r2⟩:=r;simp only at c1 c2;refine pI func163 rfl ntmps163 results163 call163 ?_;(focus (refine wkld w_t (w_2 c1 c2) w_t (w_1 (w_d 1 [(5,poA r1),(11,poA r2)] [] [6])) ?_;(repeat' first|exact w_t|apply w_l);all_goals intros))
theorem Zi8 (a b:Po × Po) (h1:Pure prog 119 [poA b.1,poA a.1] (poA (subM b.1 a.1))) (h2:Pure prog 119 [poA b.2,poA a.2] (poA (subM b.2 a.2))):Pure prog 162 [coA a,coA b] (coA (subM b.1 a.1,subM b.2 a.2)):=by
 have c:=Zhc 119 b a (subM b.1 a.1,subM b.2 a.2) h1 h2;have oa:=coOf a;have ob:=coOf b;obtain⟨a1,a2⟩:=a;obtain⟨b1,b2⟩:=b;simp only at *;generalize subM b1 a1=x at *;generalize subM b2 a2=y at *;refine pI func162 rfl ntmps162 results162 call162 ?_;(focus (refine wkld w_t (w_3 oa ob c) w_t (w_1 (w_d 1 [(1,coA (b1,b2)),(3,coA (a1,a2)),(4,coA (x,y))] [] [4])) ?_;(repeat' first|exact w_t|apply w_l);all_goals intros))
theorem Zy2 (K4 g4:Nat) (k:Int) (nm:ByteArray) (ar:List Int) (q:Rat) (p r:Po) (c:Pure prog 167 [poA p,ratQ q] (poA r)) :
 RdC prog [(K4,.box g4 76 [iv k,strA nm,ivs ar,.v (.bool (decide (q.num < 0))),lim (toL q.num.natAbs),lim (toL q.den)] false)] 166 [poA p,.pbox K4 g4 0] (poA r):=by
 intro σ hL;have m4:=Zai hL.1;simp only [Ent.sh,AV.shL,AV.sh] at m4;refine Zaq func166 rfl ntmps166 results166 call166 zr zs ?_;(focus (refine wkap (w_1 m4) (w_1 c) (w_r 0) ?_;(repeat' first|exact w_t|apply w_l);all_goals intros));simp (disch:=omega) only [go_sem];exact Zd1 (Sub.refl _) ⟨rfl,rfl⟩ (Agr.start σ)
theorem cbMulV (K g:Nat) (t p r:Po) (c:Pure prog 120 [poA p,poA t] (poA r)) :
 RdC prog [(K,.box g 53 [poA t] false)] 170 [poA p,.pbox K g 0] (poA r):=by
 intro σ hL;have m4:=Zai hL.1;simp only [Ent.sh,AV.shL,AV.sh] at m4;refine Zaq func170 rfl ntmps170 results170 call170 zr zs ?_;(focus (refine wkap (w_1 m4) (w_1 c) (w_r 0) ?_;(repeat' first|exact w_t|apply w_l);all_goals intros));simp (disch:=omega) only [go_sem];exact Zd1 (Sub.refl _) ⟨rfl,rfl⟩ (Agr.start σ)
def atL (K3 K4 KB KC KV g3 g4 gB:Nat) (svC svV:Value) (z:AV) (sc:List AV) (cs:List (Po × Po)):List (Nat × Ent) :=
 [(K3,.box g3 163 [.pbox KB gB 0] false),(K4,.box g4 76 sc false),(KB,.box gB 165 [.own KC svC,.own KV svV,z] false),(KC,.row svC 98 2 (cs.map coA) 0)]
theorem Zdb (K3 K4 KB KC KV g3 g4 gB:Nat) (svC svV:Value) (z:AV) (sc:List AV) (cs:List (Po × Po)):atL K3 K4 KB KC KV g3 g4 gB svC svV z sc cs =
 [(K3,.box g3 163 [.pbox KB gB 0] false),(K4,.box g4 76 sc false),(KB,.box gB 165 [.own KC svC,.own KV svV,z] false),(KC,.row svC 98 2 (cs.map coA) 0)]:=rfl
theorem cbAt (K3 K4 KB KC KV g3 g4 gB:Nat) (svC svV:Value) (fr:Nat) (k0:Int) (nm:ByteArray) (ar:List Int) (x y w:AV) (cs:List (Po × Po)) (k:Nat) (hx:x.sh=x∧y.sh=y∧w.sh=w) (hk:k < ar.length) (h0:0≤gI ar k∧gI ar k < (cs.length:Int)) :
 RdC prog (atL K3 K4 KB KC KV g3 g4 gB svC svV (iv fr) [iv k0,strA nm,ivs ar,x,y,w] cs) 160 [iv k,.pbox K3 g3 0,.pbox K4 g4 0] (coA (cs.getD (gI ar k).toNat ([],[]))):=by
 intro σ hL;simp only [atL,Zgq,Zhu] at hL;obtain⟨h3,h4,hB,hC,-⟩:=hL;have m3:=Zai h3;have m4:=Zai h4;have mB:=Zai hB;have mC:=Zai hC;simp only [Ent.sh,AV.shL,AV.sh,hx.1,hx.2.1,hx.2.2] at m3 m4 mB mC;have hga:(ar.map iv).getD k .u=iv (gI ar k):=by rw [Zaj iv hk,Ze5 hk]
 have hgc:(cs.map coA).getD (gI ar k).toNat .u=coA (cs.getD (gI ar k).toNat ([],[])):=Zp4 zo;have hll:(ar.map iv).length=ar.length:=Zzg ..;have hcl:(cs.map coA).length=cs.length:=Zzg ..;generalize cs.getD (gI ar k).toNat ([],[])=c at *;generalize gI ar k=a at *;obtain⟨c1,c2⟩:=c;refine Zaq func160 rfl ntmps160 results160 call160 zr zs ?_;(focus (refine wkad (w_10 m3 m4 mB mC hga hgc hll hcl @Zan @Zav) w_t (w_1 (w_d 1 [] [] [4])) ?_;(repeat' first|exact w_t|apply w_l);all_goals intros));simp (disch:=omega) only [go_sem];refine Zd1 (Sub.refl _) ⟨rfl,rfl⟩ ?_
 exact((Agr.start σ).own zo).own zo
theorem cbAlongS (K3 K4 K7 KB KC KV g3 g4 g7 gB:Nat) (svC svV:Value) (fr:Nat) (k0:Int) (nm:ByteArray) (ar:List Int) (q:Rat) (cs:List (Po × Po)) (a b x r:Po × Po) (hk:2≤ar.length) (h0:0≤gI ar 0∧gI ar 0 < (cs.length:Int)) (h1:0≤gI ar 1∧gI ar 1 < (cs.length:Int)) (ha:cs.getD (gI ar 0).toNat ([],[])=a) (hb:cs.getD (gI ar 1).toNat ([],[])=b)
 (s1:Pure prog 119 [poA b.1,poA a.1] (poA (subM b.1 a.1))) (s2:Pure prog 119 [poA b.2,poA a.2] (poA (subM b.2 a.2)))
 (c1:Pure prog 167 [poA (subM b.1 a.1),ratQ q] (poA x.1)) (c2:Pure prog 167 [poA (subM b.2 a.2),ratQ q] (poA x.2))
 (a1:Pure prog 122 [poA a.1,poA x.1] (poA r.1)) (a2:Pure prog 122 [poA a.2,poA x.2] (poA r.2)) :
 RdC prog ((K7,.box g7 200 [.fn 160 [.pbox K3 g3 0,.pbox K4 g4 0]] false) :: atL K3 K4 KB KC KV g3 g4 gB svC svV (iv fr) [iv k0,strA nm,ivs ar,.v (.bool (decide (q.num < 0))),lim (toL q.num.natAbs),lim (toL q.den)] cs) 161 [.fn 166 [.pbox K4 g4 0],.pbox K7 g7 0] (coA r):=by
 intro σ hL;have t0:=cbAt (K3+1000) (K4+1000) (KB+1000) (KC+1000) (KV+1000) g3 g4 gB svC svV fr k0 nm ar (.v (.bool (decide (q.num < 0)))) (lim (toL q.num.natAbs)) (lim (toL q.den)) cs 0 ⟨rfl,rfl,rfl⟩ zo h0;have t1:=cbAt (K3+1000) (K4+1000) (KB+1000) (KC+1000) (KV+1000) g3 g4 gB svC svV fr k0 nm ar (.v (.bool (decide (q.num < 0)))) (lim (toL q.num.natAbs)) (lim (toL q.den)) cs 1 ⟨rfl,rfl,rfl⟩ zo h1;rw [ha] at t0;rw [hb] at t1;have cB:=Zi8 a b s1 s2;have oa:=coOf a;have cC:=Zhc 122 a x r a1 a2;have p1:=Zy2 (K4+1000) g4 k0 nm ar q (subM b.1 a.1) x.1 c1;have p2:=Zy2 (K4+1000) g4 k0 nm ar q (subM b.2 a.2) x.2 c2
 simp only [atL,Zgq,Zhu] at hL;obtain⟨h7,h3,h4,hB,hC,-⟩:=hL;have m3:=Zai h3;have m4:=Zai h4;have m7:=Zai h7;have mB:=Zai hB;have mC:=Zai hC
 skip
 simp only [Ent.sh,AV.shL,AV.sh] at m3 m4 m7 mB mC;clear a1 a2 s1 s2 ha hb h0 h1;obtain⟨aa,ab⟩:=a;obtain⟨ba,bb⟩:=b;obtain⟨xa,xb⟩:=x;obtain⟨ra,rb⟩:=r;simp only at *;generalize subM ba aa=da at *;generalize subM bb ab=db at *;refine Zaq func161 rfl ntmps161 results161 call161 zr zs ?_;(focus (refine wkax (w_8 m3 m4 m7 mB mC @Zan @Zav @Zdb) (w_3 cB oa cC) (w_2 (w_d 1 [(1,coA (aa,ab)),(3,coA (ba,bb)),(4,coA (da,db))] [] []) (w_d 2 [(1,coA (aa,ab)),(2,coA (aa,ab)),(6,poA xa),(10,poA xb),(12,coA (ra,rb))] [] [3])) w_t w_t (w_4 t0 t1 p1 p2) w_y (w_r 0) ?_;(repeat' first|exact w_t|apply w_l);all_goals intros))
 simp (disch:=omega) only [go_sem];refine Zd1 (Sub.refl _) ⟨rfl,rfl⟩ ?_
 (repeat' (first|exact Agr.start _|(refine Agr.own ?_ zo)))
theorem cbAlongM (K3 K4 K7 KB KC KV g3 g4 g7 gB:Nat) (svC svV:Value) (fr:Nat) (k0:Int) (nm:ByteArray) (ar:List Int) (rs:Bool) (rl rd:List Nat) (K10 g10:Nat) (t:Po) (cs:List (Po × Po)) (a b x r:Po × Po) (hk:2≤ar.length) (h0:0≤gI ar 0∧gI ar 0 < (cs.length:Int)) (h1:0≤gI ar 1∧gI ar 1 < (cs.length:Int)) (ha:cs.getD (gI ar 0).toNat ([],[])=a) (hb:cs.getD (gI ar 1).toNat ([],[])=b)
 (s1:Pure prog 119 [poA b.1,poA a.1] (poA (subM b.1 a.1))) (s2:Pure prog 119 [poA b.2,poA a.2] (poA (subM b.2 a.2)))
 (c1:Pure prog 120 [poA (subM b.1 a.1),poA t] (poA x.1)) (c2:Pure prog 120 [poA (subM b.2 a.2),poA t] (poA x.2))
 (a1:Pure prog 122 [poA a.1,poA x.1] (poA r.1)) (a2:Pure prog 122 [poA a.2,poA x.2] (poA r.2)) :
 RdC prog ((K10,.box g10 53 [poA t] false) :: (K7,.box g7 200 [.fn 160 [.pbox K3 g3 0,.pbox K4 g4 0]] false) :: atL K3 K4 KB KC KV g3 g4 gB svC svV (iv fr) [iv k0,strA nm,ivs ar,.v (.bool rs),lim rl,lim rd] cs) 161 [.fn 170 [.pbox K10 g10 0],.pbox K7 g7 0] (coA r):=by
 intro σ hL;have t0:=cbAt (K3+1000) (K4+1000) (KB+1000) (KC+1000) (KV+1000) g3 g4 gB svC svV fr k0 nm ar (.v (.bool rs)) (lim rl) (lim rd) cs 0 ⟨rfl,rfl,rfl⟩ zo h0;have t1:=cbAt (K3+1000) (K4+1000) (KB+1000) (KC+1000) (KV+1000) g3 g4 gB svC svV fr k0 nm ar (.v (.bool rs)) (lim rl) (lim rd) cs 1 ⟨rfl,rfl,rfl⟩ zo h1;rw [ha] at t0;rw [hb] at t1;have cB:=Zi8 a b s1 s2;have oa:=coOf a;have cC:=Zhc 122 a x r a1 a2;have p1:=cbMulV (K10+1000) g10 t (subM b.1 a.1) x.1 c1;have p2:=cbMulV (K10+1000) g10 t (subM b.2 a.2) x.2 c2;simp only [atL,Zgq,Zhu] at hL;obtain⟨h10,h7,h3,h4,hB,hC,-⟩:=hL
 have m3:=Zai h3;have m4:=Zai h4;have m7:=Zai h7;have mB:=Zai hB;have mC:=Zai hC;have m10:=Zai h10;simp only [Ent.sh,AV.shL,AV.sh] at m3 m4 m7 mB mC m10;clear a1 a2 s1 s2 ha hb h0 h1;obtain⟨aa,ab⟩:=a;obtain⟨ba,bb⟩:=b;obtain⟨xa,xb⟩:=x;obtain⟨ra,rb⟩:=r;simp only at *;generalize subM ba aa=da at *;generalize subM bb ab=db at *;refine Zaq func161 rfl ntmps161 results161 call161 zr zs ?_;(focus (refine wkax (w_9 m3 m4 m7 mB mC m10 @Zan @Zav @Zdb) (w_3 cB oa cC) (w_2 (w_d 1 [(1,coA (aa,ab)),(3,coA (ba,bb)),(4,coA (da,db))] [] []) (w_d 2 [(1,coA (aa,ab)),(2,coA (aa,ab)),(6,poA xa),(10,poA xb),(12,coA (ra,rb))] [] [3])) w_t w_t (w_4 t0 t1 p1 p2) w_y (w_r 0) ?_;(repeat' first|exact w_t|apply w_l);all_goals intros))
 simp (disch:=omega) only [go_sem];refine Zd1 (Sub.refl _) ⟨rfl,rfl⟩ ?_
 (repeat' (first|exact Agr.start _|(refine Agr.own ?_ zo)))
theorem PK.sub {p q:Po} {j k e:Nat} (hp:PK p j e) (hq:PK q k e):PK (subM p q) (j+k+1) e:=hp.add hq.neg
theorem PK.scl {p:Po} {j k e:Nat} {a:Rat} (hp:PK p j e) (ha:Sz a k):PK (sclM a p) (j+k) e:=by
 unfold sclM;split
 ·exact .nil
 ·exact hp.scale ha
theorem PK.mulV {p:Po} {j e v:Nat} (hp:PK p j e):PK (mlM p (varM v)) (j+1) (e+1):=by
 rw [Zro];split
 ·refine hp.times (t:=(1,Zc5 v)) λu hu=>?_;rw [ZAs] at hu;subst hu;have h:=Zjb v (1,Zc5 v) (by unfold varM;rw [Zzc (by assumption)];exact .head _);exact h
 ·exact .nil
theorem Zif {a:Rat} {p:Po} (h:SrtM p):SrtM (sclM a p):=by
 unfold sclM;split
 ·exact .nil
 ·exact Zbd h ‹_›
theorem Zkp (a:Rat) (p:Po):(sclM a p).length≤p.length:=by
 unfold sclM;split
 ·simp
 ·rw [Zf4];exact Zze _
theorem Zhr (p:Po) (v:Nat):(mlM p (varM v)).length≤p.length:=by
 rw [Zro];split
 ·rw [Zdu];exact Zze _
 ·simp
theorem Zc8 (p q:Po):(subM p q).length≤p.length+q.length:=by
 have:=Zkh (lt:=ltM) p (Zas (-1) q);rw [Zf4] at this;exact this
structure Co (p:Po):Prop where
 pk:PK p 110 1
 st:SrtM p
 ln:p.length≤4000
structure StOk (cs:List (Po × Po)) (s:RS):Prop where
 k0:0≤arS s.k
 al:(s.ar.length:Int)=arS s.k
 ai:∀k,k < s.ar.length→0≤gI s.ar k∧gI s.ar k < (cs.length:Int)
 r2:s.k=2→s.r.ok=true
 rl:s.r.lm 2
theorem cbStep1 (σ:Mem) (KB KC KV g:Nat) (svC svV:Value) (cs:List (Po × Po)) (vs:List Vt) (fr:Nat) (i:Nat) (s:RS) (hB:σ KB=some (.box g 165 [.own KC svC,.own KV svV,iv fr] false)) (hV:σ KV=some (.row svV 106 3 (vs.map Vt.av) 0)) (hC:σ KC=some (.row svC 98 2 (cs.map coA) 0)) (hBV:KB≠KV) (hBC:KB≠KC) (hVC:KV≠KC) (hl:vs.length≤64) (hf:fr≤100) (hk:s.k=1):ACall prog 104 [.pbox KB g 0,s.av,iv i] σ λr σ'=>∃sv,r=coA (FS.nxt ⟨cs,vs,fr⟩ i s).2 ∧
 σ'=upd (upd σ KV (some (.row sv 106 3 ((vs++(FS.nxt ⟨cs,vs,fr⟩ i s).1).map Vt.av) 0))) KB (some (.box g 165 [.own KC svC,.own KV sv,iv (if s.k=1 then fr+1 else fr:Nat)] false)):=by
 have mB:=Zai hB;have mV:=Zai hV;have mC:=Zai hC;simp only [Ent.sh,AV.shL,AV.sh] at mB mV mC
 have en:FS.nxt ⟨cs,vs,fr⟩ i s=((if fr=0 then [] else if fr=1 then [(1,(i:Int),0)] else [(1,(i:Int),0),(1,(i:Int),1)]),(if fr=0 then ([],[]) else if fr=1 then (varM vs.length,[]) else (varM vs.length,varM (vs.length+1)))):=by
  unfold FS.nxt;simp only;rw [Zzc hk];split
  ·rfl
  ·split<;>rfl
 rw [en];simp only [Zzc hk];generalize hnv:(if fr=0 then [] else if fr=1 then [((1:Int),(i:Int),(0:Int))] else [(1,(i:Int),0),(1,(i:Int),1)])=nv at *;generalize hnc:(if fr=0 then (([]:Po),([]:Po)) else if fr=1 then (varM vs.length,[]) else (varM vs.length,varM (vs.length+1)))=nc at *;obtain⟨k,nm,ar,r,rl,rd⟩:=s;simp only at hk;subst hk;refine Zaq func104 rfl ntmps104 results104 call104 zr zs ?_;(focus (refine wkad (w_4 mB mV mC @Zan) w_t w_t ?_;(repeat' first|exact w_t|apply w_l);all_goals intros));refine Zce ((cbPoint _ (KB+1000) (KC+1000) (KV+1000) g svC svV vs fr i (by(simp (disch:=omega) only [go_sem,mB,mV,Zzb,Zzc]<;>repeat' first|rfl|refine⟨?_,?_⟩)) (by(simp (disch:=omega) only [go_sem,mB,mV,Zzb,Zzc]<;>repeat' first|rfl|refine⟨?_,?_⟩)) zo zo zo)) ?_
 rw [hnv,hnc];intro sv1;obtain⟨n1,n2⟩:=nc;(focus (refine wkad (w_4 mB mV mC @Zan) w_t w_t ?_;(repeat' first|exact w_t|apply w_l);all_goals intros));simp (disch:=omega) only [go_sem];refine Zd1 (Sub.refl _) ⟨sv1,rfl,rfl⟩ ?_;intro k;by_cases hk1:k=KB
 ·rw [hk1];simp (disch:=omega) only [Zaw,Zzc,Zzb,ZAl,Ent.sh,AV.shL,AV.sh]
  try rfl
 ·by_cases hk2:k=KV
  ·rw [hk2];simp (disch:=omega) only [Zaw,Zzc,Zzb,ZAl,Ent.sh,AV.shL,AV.sh]
   try rfl
  ·simp (disch:=omega) only [Zaw,Zzb];exact Agr.start σ k
theorem cbStep6 (σ:Mem) (KB KC KV g:Nat) (svC svV:Value) (cs:List (Po × Po)) (vs:List Vt) (fr:Nat) (i:Nat) (s:RS) (hB:σ KB=some (.box g 165 [.own KC svC,.own KV svV,iv fr] false)) (hV:σ KV=some (.row svV 106 3 (vs.map Vt.av) 0)) (hC:σ KC=some (.row svC 98 2 (cs.map coA) 0)) (hBV:KB≠KV) (hBC:KB≠KC) (hVC:KV≠KC) (hl:vs.length≤64) (hf:fr≤100) (hk:s.k=6):ACall prog 104 [.pbox KB g 0,s.av,iv i] σ λr σ'=>∃sv,r=coA (FS.nxt ⟨cs,vs,fr⟩ i s).2 ∧
 σ'=upd (upd σ KV (some (.row sv 106 3 ((vs++(FS.nxt ⟨cs,vs,fr⟩ i s).1).map Vt.av) 0))) KB (some (.box g 165 [.own KC svC,.own KV sv,iv (if s.k=1 then fr+1 else fr:Nat)] false)):=by
 have mB:=Zai hB;have mV:=Zai hV;have mC:=Zai hC;simp only [Ent.sh,AV.shL,AV.sh] at mB mV mC
 have en:FS.nxt ⟨cs,vs,fr⟩ i s=([(1,(i:Int),0),(2,(i:Int),1),(2,(i:Int),2)],(varM (vs.length+1),varM (vs.length+2))):=by
  unfold FS.nxt;simp only [hk];rfl
 rw [en];simp only [Zzb (show ¬s.k=1 by omega)];have hl1:(vs++[((1:Int),(i:Int),(0:Int))]).length=vs.length+1:=by simp
 obtain⟨k,nm,ar,r,rl,rd⟩:=s;simp only at hk;subst hk;refine Zaq func104 rfl ntmps104 results104 call104 zr zs ?_;(focus (refine wkad (w_4 mB mV mC @Zan) w_t w_t ?_;(repeat' first|exact w_t|apply w_l);all_goals intros));refine Zce ((Zel _ (KB+1000) (KC+1000) (KV+1000) g svC svV vs fr 1 (i:Int) 0 (by(simp (disch:=omega) only [go_sem,mB,mV,Zzb,Zzc]<;>repeat' first|rfl|refine⟨?_,?_⟩)) (by(simp (disch:=omega) only [go_sem,mB,mV,Zzb,Zzc]<;>repeat' first|rfl|refine⟨?_,?_⟩)) zo zo)) ?_;intro sv1;(focus (refine wkad (w_4 mB mV mC @Zan) w_t w_t ?_;(repeat' first|exact w_t|apply w_l);all_goals intros))
 refine Zce ((cbDep _ (KB+1000) (KC+1000) (KV+1000) g svC sv1 (vs++[(1,(i:Int),0)]) fr i 1 (by(simp (disch:=omega) only [go_sem,mB,mV,Zzb,Zzc]<;>repeat' first|rfl|refine⟨?_,?_⟩)) (by(simp (disch:=omega) only [go_sem,mB,mV,Zzb,Zzc,Zzw,Zz3,Zz1]<;>repeat' first|rfl|refine⟨?_,?_⟩)) (by rw [hl1];omega) zo zo)) ?_;intro sv2;rw [hl1];(focus (refine wkad (w_4 mB mV mC @Zan) w_t w_t ?_;(repeat' first|exact w_t|apply w_l);all_goals intros));simp (disch:=omega) only [go_sem];refine Zd1 (Sub.refl _) ⟨sv2,rfl,rfl⟩ ?_;simp only [ZAk,ZB2,ZCm]
 intro k;by_cases hk1:k=KB
 ·rw [hk1];simp (disch:=omega) only [Zaw,Zzc,Zzb,ZAl,Ent.sh,AV.shL,AV.sh]
  try rfl
 ·by_cases hk2:k=KV
  ·rw [hk2];simp (disch:=omega) only [Zaw,Zzc,Zzb,ZAl,Ent.sh,AV.shL,AV.sh]
   try rfl
  ·simp (disch:=omega) only [Zaw,Zzb];exact Agr.start σ k
theorem cbStep7 (σ:Mem) (KB KC KV g:Nat) (svC svV:Value) (cs:List (Po × Po)) (vs:List Vt) (fr:Nat) (i:Nat) (s:RS) (hB:σ KB=some (.box g 165 [.own KC svC,.own KV svV,iv fr] false)) (hV:σ KV=some (.row svV 106 3 (vs.map Vt.av) 0)) (hC:σ KC=some (.row svC 98 2 (cs.map coA) 0)) (hBV:KB≠KV) (hBC:KB≠KC) (hVC:KV≠KC) (hl:vs.length≤64) (hf:fr≤100) (hk:s.k≠1∧s.k≠2∧s.k≠3∧s.k≠4∧s.k≠5∧s.k≠6):ACall prog 104 [.pbox KB g 0,s.av,iv i] σ λr σ'=>∃sv,r=coA (FS.nxt ⟨cs,vs,fr⟩ i s).2 ∧
 σ'=upd (upd σ KV (some (.row sv 106 3 ((vs++(FS.nxt ⟨cs,vs,fr⟩ i s).1).map Vt.av) 0))) KB (some (.box g 165 [.own KC svC,.own KV sv,iv (if s.k=1 then fr+1 else fr:Nat)] false)):=by
 have mB:=Zai hB;have mV:=Zai hV;have mC:=Zai hC;simp only [Ent.sh,AV.shL,AV.sh] at mB mV mC
 have en:FS.nxt ⟨cs,vs,fr⟩ i s=([(2,(i:Int),0),(2,(i:Int),1)],(varM vs.length,varM (vs.length+1))):=by
  unfold FS.nxt;simp only;rw [Zzb hk.1,Zzb hk.2.1,Zzb hk.2.2.1,Zzb hk.2.2.2.1,Zzb hk.2.2.2.2.1,Zzb hk.2.2.2.2.2]
 rw [en];simp only [Zzb hk.1];obtain⟨k,nm,ar,r,rl,rd⟩:=s;simp only at hk;obtain⟨k1,k2,k3,k4,k5,k6⟩:=hk;refine Zaq func104 rfl ntmps104 results104 call104 zr zs ?_;(focus (refine wkad (w_4 mB mV mC @Zan) w_t w_t ?_;(repeat' first|exact w_t|apply w_l);all_goals intros));refine Zce ((cbDep _ (KB+1000) (KC+1000) (KV+1000) g svC svV vs fr i 0 (by(simp (disch:=omega) only [go_sem,mB,mV,Zzb,Zzc]<;>repeat' first|rfl|refine⟨?_,?_⟩)) (by(simp (disch:=omega) only [go_sem,mB,mV,Zzb,Zzc]<;>repeat' first|rfl|refine⟨?_,?_⟩)) zo zo zo)) ?_;intro sv2;(focus (refine wkad (w_4 mB mV mC @Zan) w_t w_t ?_;(repeat' first|exact w_t|apply w_l);all_goals intros))
 simp (disch:=omega) only [go_sem];refine Zd1 (Sub.refl _) ⟨sv2,rfl,rfl⟩ ?_;simp only [Zzh];intro k;by_cases hk1:k=KB
 ·rw [hk1];simp (disch:=omega) only [Zaw,Zzc,Zzb,ZAl,Ent.sh,AV.shL,AV.sh]
  try rfl
 ·by_cases hk2:k=KV
  ·rw [hk2];simp (disch:=omega) only [Zaw,Zzc,Zzb,ZAl,Ent.sh,AV.shL,AV.sh]
   try rfl
  ·simp (disch:=omega) only [Zaw,Zzb];exact Agr.start σ k
theorem cbStep2 (σ:Mem) (KB KC KV g:Nat) (svC svV:Value) (cs:List (Po × Po)) (vs:List Vt) (fr:Nat) (i:Nat) (s:RS) (hB:σ KB=some (.box g 165 [.own KC svC,.own KV svV,iv fr] false)) (hV:σ KV=some (.row svV 106 3 (vs.map Vt.av) 0)) (hC:σ KC=some (.row svC 98 2 (cs.map coA) 0)) (hBV:KB≠KV) (hBC:KB≠KC) (hVC:KV≠KC) (hl:vs.length≤64) (hf:fr≤100) (hok:StOk cs s) (hco:∀c∈cs,Co c.1∧Co c.2) (hk:s.k=2):ACall prog 104 [.pbox KB g 0,s.av,iv i] σ λr σ'=>∃sv,r=coA (FS.nxt ⟨cs,vs,fr⟩ i s).2 ∧
 σ'=upd (upd σ KV (some (.row sv 106 3 ((vs++(FS.nxt ⟨cs,vs,fr⟩ i s).1).map Vt.av) 0))) KB (some (.box g 165 [.own KC svC,.own KV sv,iv (if s.k=1 then fr+1 else fr:Nat)] false)):=by
 have mB:=Zai hB;have mV:=Zai hV;have mC:=Zai hC;simp only [Ent.sh,AV.shL,AV.sh] at mB mV mC;have har:arS s.k=2:=by rw [hk];rfl
 have hal:=hok.al;have h0:=hok.ai 0 zo;obtain⟨a1,a2⟩:Co (cs.getD (gI s.ar 0).toNat ([],[])).1∧Co (cs.getD (gI s.ar 0).toNat ([],[])).2:=hco _ (Zay zo);have h1:=hok.ai 1 zo;obtain⟨b1,b2⟩:Co (cs.getD (gI s.ar 1).toNat ([],[])).1∧Co (cs.getD (gI s.ar 1).toNat ([],[])).2:=hco _ (Zay zo)
 have en:FS.nxt ⟨cs,vs,fr⟩ i s=([],(addM (cs.getD (gI s.ar 0).toNat ([],[])).1 (sclM s.r.q (subM (cs.getD (gI s.ar 1).toNat ([],[])).1 (cs.getD (gI s.ar 0).toNat ([],[])).1)),addM (cs.getD (gI s.ar 0).toNat ([],[])).2 (sclM s.r.q (subM (cs.getD (gI s.ar 1).toNat ([],[])).2 (cs.getD (gI s.ar 0).toNat ([],[])).2)))):=by
  unfold FS.nxt;simp only [hk];rfl
 rw [en];simp only [Zzb (show ¬s.k=1 by omega)];clear en;generalize ha:cs.getD (gI s.ar 0).toNat ([],[])=a at *;generalize hb:cs.getD (gI s.ar 1).toNat ([],[])=b at *;have ro:=hok.r2 hk;have zr:=(RQ.ok_av hok.rl ro).2;have s1:=Zna b.1 a.1 b1.pk a1.pk b1.st a1.st (by have:=b1.ln;omega) (by have:=a1.ln;omega) zo zo zo;have s2:=Zna b.2 a.2 b2.pk a2.pk b2.st a2.st (by have:=b2.ln;omega) (by have:=a2.ln;omega) zo zo zo;have d1:=b1.pk.sub a1.pk;have d2:=b2.pk.sub a2.pk;have t1:=Zbw ordM b1.st a1.st;have t2:=Zbw ordM b2.st a2.st;have l1:=Zc8 b.1 a.1;have l2:=Zc8 b.2 a.2;have n1:=a1.ln
 have n2:=a2.ln;have n3:=b1.ln;have n4:=b2.ln;have c1:=Znb (subM b.1 a.1) s.r.q d1 zr t1 zo zo zo zo;have c2:=Znb (subM b.2 a.2) s.r.q d2 zr t2 zo zo zo zo;have e1:=Zky a.1 (sclM s.r.q (subM b.1 a.1)) a1.pk (d1.scl zr) a1.st (Zif t1) zo (by have:=Zkp s.r.q (subM b.1 a.1);omega) zo zo zo;have e2:=Zky a.2 (sclM s.r.q (subM b.2 a.2)) a2.pk (d2.scl zr) a2.st (Zif t2) zo (by have:=Zkp s.r.q (subM b.2 a.2);omega) zo zo zo;have re:=RQ.ok_eq hok.rl ro;obtain⟨k,nm,ar,r⟩:=s;simp only at *;subst hk;generalize hq:r.q=q at *;rw [re];have al:=λg3 g4 g7=>cbAlongS 3 4 7 (KB+1000) (KC+1000) (KV+1000) g3 g4 g7 g svC svV fr 2 nm ar q cs a b (sclM q (subM b.1 a.1),sclM q (subM b.2 a.2)) (addM a.1 (sclM q (subM b.1 a.1)),addM a.2 (sclM q (subM b.2 a.2))) zo h0 h1 ha hb s1 s2 c1 c2 e1 e2
 clear s1 s2 c1 c2 e1 e2 d1 d2 t1 t2 l1 l2 a1 a2 b1 b2 hco hok re ro zr hq n1 n2 n3 n4;generalize addM a.1 (sclM q (subM b.1 a.1))=x1 at *;generalize addM a.2 (sclM q (subM b.2 a.2))=x2 at *;refine Zaq func104 rfl ntmps104 results104 call104 zr zs ?_;(focus (refine wkad (w_4 mB mV mC @Zan) w_t w_t ?_;(repeat' first|exact w_t|apply w_l);all_goals intros));rename_i g3 g4 g6 g7;have al:=al g3 g4 g7;(focus (refine wkax (w_5 mB mV mC @Zan @Zdb) w_t w_t w_t w_t (w_1 al) w_y (w_r 0) ?_;(repeat' first|exact w_t|apply w_l);all_goals intros));simp (disch:=omega) only [go_sem]
 refine Zd1 (Sub.refl _) ⟨svV,rfl,rfl⟩ ?_;rw [Zcx hV,Zcx hB]
 (repeat' (first|exact Agr.start _|(refine Agr.own ?_ zo)))
theorem cbStep3 (σ:Mem) (KB KC KV g:Nat) (svC svV:Value) (cs:List (Po × Po)) (vs:List Vt) (fr:Nat) (i:Nat) (s:RS) (hB:σ KB=some (.box g 165 [.own KC svC,.own KV svV,iv fr] false)) (hV:σ KV=some (.row svV 106 3 (vs.map Vt.av) 0)) (hC:σ KC=some (.row svC 98 2 (cs.map coA) 0)) (hBV:KB≠KV) (hBC:KB≠KC) (hVC:KV≠KC) (hl:vs.length≤64) (hf:fr≤100) (hok:StOk cs s) (hco:∀c∈cs,Co c.1∧Co c.2) (hk:s.k=3):ACall prog 104 [.pbox KB g 0,s.av,iv i] σ λr σ'=>∃sv,r=coA (FS.nxt ⟨cs,vs,fr⟩ i s).2 ∧
 σ'=upd (upd σ KV (some (.row sv 106 3 ((vs++(FS.nxt ⟨cs,vs,fr⟩ i s).1).map Vt.av) 0))) KB (some (.box g 165 [.own KC svC,.own KV sv,iv (if s.k=1 then fr+1 else fr:Nat)] false)):=by
 have mB:=Zai hB;have mV:=Zai hV;have mC:=Zai hC;simp only [Ent.sh,AV.shL,AV.sh] at mB mV mC;have har:arS s.k=3:=by rw [hk];rfl
 have hal:=hok.al;have h0:=hok.ai 0 zo;obtain⟨a1,a2⟩:Co (cs.getD (gI s.ar 0).toNat ([],[])).1∧Co (cs.getD (gI s.ar 0).toNat ([],[])).2:=hco _ (Zay zo);have h1:=hok.ai 1 zo;obtain⟨b1,b2⟩:Co (cs.getD (gI s.ar 1).toNat ([],[])).1∧Co (cs.getD (gI s.ar 1).toNat ([],[])).2:=hco _ (Zay zo);have h2:=hok.ai 2 zo;obtain⟨c1,c2⟩:Co (cs.getD (gI s.ar 2).toNat ([],[])).1∧Co (cs.getD (gI s.ar 2).toNat ([],[])).2:=hco _ (Zay zo)
 have en:FS.nxt ⟨cs,vs,fr⟩ i s=([],(addM (cs.getD (gI s.ar 0).toNat ([],[])).1 (subM (cs.getD (gI s.ar 2).toNat ([],[])).1 (cs.getD (gI s.ar 1).toNat ([],[])).1),addM (cs.getD (gI s.ar 0).toNat ([],[])).2 (subM (cs.getD (gI s.ar 2).toNat ([],[])).2 (cs.getD (gI s.ar 1).toNat ([],[])).2))):=by
  unfold FS.nxt;simp only [hk];rfl
 rw [en];simp only [Zzb (show ¬s.k=1 by omega)];clear en;generalize ha:cs.getD (gI s.ar 0).toNat ([],[])=a at *;generalize hb:cs.getD (gI s.ar 1).toNat ([],[])=b at *;generalize hc:cs.getD (gI s.ar 2).toNat ([],[])=c at *;have n1:=a1.ln;have n2:=a2.ln;have n3:=b1.ln;have n4:=b2.ln;have n5:=c1.ln;have n6:=c2.ln;have s1:=Zna c.1 b.1 c1.pk b1.pk c1.st b1.st zo zo zo zo zo;have s2:=Zna c.2 b.2 c2.pk b2.pk c2.st b2.st zo zo zo zo zo;have l1:=Zc8 c.1 b.1;have l2:=Zc8 c.2 b.2;have e1:=Zky a.1 (subM c.1 b.1) a1.pk (c1.pk.sub b1.pk) a1.st (Zbw ordM c1.st b1.st) zo zo zo zo zo;have e2:=Zky a.2 (subM c.2 b.2) a2.pk (c2.pk.sub b2.pk) a2.st (Zbw ordM c2.st b2.st) zo zo zo zo zo
 have cB:=Zi8 b c s1 s2;have oa:=coOf a;have cC:=Zhc 122 a (subM c.1 b.1,subM c.2 b.2) (addM a.1 (subM c.1 b.1),addM a.2 (subM c.2 b.2)) e1 e2;obtain⟨k,nm,ar,⟨rs,rl,rd⟩⟩:=s;simp only at *;subst hk;have t0:=λg3 g4=>cbAt 3 4 (KB+1000) (KC+1000) (KV+1000) g3 g4 g svC svV fr 3 nm ar (.v (.bool rs)) (lim rl) (lim rd) cs 0 ⟨rfl,rfl,rfl⟩ zo h0;have t1:=λg3 g4=>cbAt 3 4 (KB+1000) (KC+1000) (KV+1000) g3 g4 g svC svV fr 3 nm ar (.v (.bool rs)) (lim rl) (lim rd) cs 1 ⟨rfl,rfl,rfl⟩ zo h1;have t2:=λg3 g4=>cbAt 3 4 (KB+1000) (KC+1000) (KV+1000) g3 g4 g svC svV fr 3 nm ar (.v (.bool rs)) (lim rl) (lim rd) cs 2 ⟨rfl,rfl,rfl⟩ zo h2
 rw [ha] at t0;rw [hb] at t1;rw [hc] at t2;clear s1 s2 e1 e2 l1 l2 a1 a2 b1 b2 c1 c2 hco hok n1 n2 n3 n4 n5 n6 ha hb hc;generalize addM a.1 (subM c.1 b.1)=x1 at *;generalize addM a.2 (subM c.2 b.2)=x2 at *;generalize subM c.1 b.1=y1 at *;generalize subM c.2 b.2=y2 at *;obtain⟨aa,ab⟩:=a;obtain⟨ba,bb⟩:=b;obtain⟨ca,cb⟩:=c;refine Zaq func104 rfl ntmps104 results104 call104 zr zs ?_
 (repeat' (first|(with_reducible first|refine stp ?_|apply gx1|apply gx2|apply gx3|apply gx4|apply gx5|apply gx6|apply gx7|apply gy8|apply gz2|apply gz3|refine gwr (t0 _ _) ?_ ?_|refine gwr (t1 _ _) ?_ ?_|refine gwr (t2 _ _) ?_ ?_|refine gw0 (oa) ?_ ?_|refine gw3 (oa) ?_ ?_ ?_|refine gw0 (cB) ?_ ?_|refine gw3 (cB) ?_ ?_ ?_|refine gw0 (cC) ?_ ?_|refine gw3 (cC) ?_ ?_ ?_)|((with_reducible apply gyr (t2 _ _));(focus rfl);(focus rfl);iterate 3 focus ((with_reducible refine gE ?_);(try simp (disch:=omega) only [go_sem,mB,mV,mC,Zan,Zav,Zdb,Zzf,Zzd,Zzc,Zzb,Int.reduceAdd,Int.reduceSub,Int.reduceToNat,Zzh])<;>first|rfl|done))|((with_reducible apply gyr (t1 _ _));(focus rfl);(focus rfl);iterate 3 focus ((with_reducible refine gE ?_);(try simp (disch:=omega) only [go_sem,mB,mV,mC,Zan,Zav,Zdb,Zzf,Zzd,Zzc,Zzb,Int.reduceAdd,Int.reduceSub,Int.reduceToNat,Zzh])<;>first|rfl|done))|((with_reducible apply gyr (t0 _ _));(focus rfl);(focus rfl);iterate 3 focus ((with_reducible refine gE ?_);(try simp (disch:=omega) only [go_sem,mB,mV,mC,Zan,Zav,Zdb,Zzf,Zzd,Zzc,Zzb,Int.reduceAdd,Int.reduceSub,Int.reduceToNat,Zzh])<;>first|rfl|done))|(with_reducible refine Zck ?_;intro _)|((with_reducible refine gE ?_);(try simp (disch:=omega) only [go_sem,mB,mV,mC,Zan,Zav,Zdb,Zzf,Zzd,Zzc,Zzb,Int.reduceAdd,Int.reduceSub,Int.reduceToNat,Zzh])<;>first|rfl|omega)|with_reducible refine Zaf zd ?_|((with_reducible apply gy1);iterate 3 focus rfl)|((with_reducible apply gy2);iterate 3 focus rfl)|((with_reducible apply gy3);iterate 2 focus rfl)|((with_reducible apply gy4);iterate 1 focus rfl)|((with_reducible apply gy5);iterate 4 focus rfl)|((with_reducible apply gy5c);iterate 4 focus rfl)|((with_reducible apply gy6);iterate 4 focus rfl)|((with_reducible apply Zfk);iterate 3 focus rfl)|((with_reducible apply Zfi);iterate 1 focus rfl)|((with_reducible apply gy7);iterate 1 focus rfl)|((with_reducible apply gy9);(focus ((with_reducible refine gE ?_);(try simp (disch:=omega) only [go_sem,mB,mV,mC,Zan,Zav,Zdb,Zzf,Zzd,Zzc,Zzb,Int.reduceAdd,Int.reduceSub,Int.reduceToNat,Zzh])<;>rfl)))|((with_reducible apply gz1);(focus first|rfl|(simp (disch:=omega) only [go_sem,mB,mV,mC,Zan,Zav,Zdb,Zzf,Zzd,Zzc,Zzb,Int.reduceAdd,Int.reduceSub,Int.reduceToNat,Zzh];done)))|((with_reducible apply Za6 (id:=9) (Zcz [(1,coA (aa,ab)),(2,coA (aa,ab)),(4,coA (ba,bb)),(6,coA (ca,cb)),(7,coA (y1,y2)),(8,coA (x1,x2))]) [] [6]);(focus kernel_rfl);(focus rfl);(focus kernel_rfl);(focus (simp only [Zzq,Zzs,Nat.reduceAdd];rfl)))|((with_reducible first|apply Zca|apply Zcp|apply Zcb);all_goals (intro hc;(try simp only [bool_to_prop] at hc);try (exfalso;omega)))))
 simp (disch:=omega) only [go_sem];refine Zd1 (Sub.refl _) ⟨svV,rfl,rfl⟩ ?_;rw [Zcx hV,Zcx hB]
 (repeat' (first|exact Agr.start _|(refine Agr.own ?_ zo)))
theorem cbStep4 (σ:Mem) (KB KC KV g:Nat) (svC svV:Value) (cs:List (Po × Po)) (vs:List Vt) (fr:Nat) (i:Nat) (s:RS) (hB:σ KB=some (.box g 165 [.own KC svC,.own KV svV,iv fr] false)) (hV:σ KV=some (.row svV 106 3 (vs.map Vt.av) 0)) (hC:σ KC=some (.row svC 98 2 (cs.map coA) 0)) (hBV:KB≠KV) (hBC:KB≠KC) (hVC:KV≠KC) (hl:vs.length≤64) (hf:fr≤100) (hok:StOk cs s) (hco:∀c∈cs,Co c.1∧Co c.2) (hk:s.k=4):ACall prog 104 [.pbox KB g 0,s.av,iv i] σ λr σ'=>∃sv,r=coA (FS.nxt ⟨cs,vs,fr⟩ i s).2 ∧
 σ'=upd (upd σ KV (some (.row sv 106 3 ((vs++(FS.nxt ⟨cs,vs,fr⟩ i s).1).map Vt.av) 0))) KB (some (.box g 165 [.own KC svC,.own KV sv,iv (if s.k=1 then fr+1 else fr:Nat)] false)):=by
 have mB:=Zai hB;have mV:=Zai hV;have mC:=Zai hC;simp only [Ent.sh,AV.shL,AV.sh] at mB mV mC;have har:arS s.k=3:=by rw [hk];rfl
 have hal:=hok.al;have h0:=hok.ai 0 zo;obtain⟨a1,a2⟩:Co (cs.getD (gI s.ar 0).toNat ([],[])).1∧Co (cs.getD (gI s.ar 0).toNat ([],[])).2:=hco _ (Zay zo);have h1:=hok.ai 1 zo;obtain⟨b1,b2⟩:Co (cs.getD (gI s.ar 1).toNat ([],[])).1∧Co (cs.getD (gI s.ar 1).toNat ([],[])).2:=hco _ (Zay zo);have h2:=hok.ai 2 zo;obtain⟨c1,c2⟩:Co (cs.getD (gI s.ar 2).toNat ([],[])).1∧Co (cs.getD (gI s.ar 2).toNat ([],[])).2:=hco _ (Zay zo)
 have en:FS.nxt ⟨cs,vs,fr⟩ i s=([],(addM (cs.getD (gI s.ar 0).toNat ([],[])).1 (subM (cs.getD (gI s.ar 1).toNat ([],[])).2 (cs.getD (gI s.ar 2).toNat ([],[])).2),addM (cs.getD (gI s.ar 0).toNat ([],[])).2 (subM (cs.getD (gI s.ar 2).toNat ([],[])).1 (cs.getD (gI s.ar 1).toNat ([],[])).1))):=by
  unfold FS.nxt;simp only [hk];rfl
 rw [en];simp only [Zzb (show ¬s.k=1 by omega)];clear en;generalize ha:cs.getD (gI s.ar 0).toNat ([],[])=a at *;generalize hb:cs.getD (gI s.ar 1).toNat ([],[])=b at *;generalize hc:cs.getD (gI s.ar 2).toNat ([],[])=c at *;have n1:=a1.ln;have n2:=a2.ln;have n3:=b1.ln;have n4:=b2.ln;have n5:=c1.ln;have n6:=c2.ln;have s1:=Zna c.1 b.1 c1.pk b1.pk c1.st b1.st zo zo zo zo zo;have s2:=Zna c.2 b.2 c2.pk b2.pk c2.st b2.st zo zo zo zo zo;have l1:=Zc8 c.1 b.1;have l2:=Zc8 c.2 b.2;have l3:=Zc8 b.2 c.2;have hn:=poNeg (subM c.2 b.2) (c2.pk.sub b2.pk) (Zbw ordM c2.st b2.st) zo zo zo;rw [show Zas (-1) (subM c.2 b.2)=subM b.2 c.2 from neg_sub ordM c2.st b2.st] at hn
 have e1:=Zky a.1 (subM b.2 c.2) a1.pk (b2.pk.sub c2.pk) a1.st (Zbw ordM b2.st c2.st) zo zo zo zo zo;have e2:=Zky a.2 (subM c.1 b.1) a2.pk (c1.pk.sub b1.pk) a2.st (Zbw ordM c1.st b1.st) zo zo zo zo zo;have cB:=Zi8 b c s1 s2;have oa:=coOf a;have cC:=Zhc 122 a (subM b.2 c.2,subM c.1 b.1) (addM a.1 (subM b.2 c.2),addM a.2 (subM c.1 b.1)) e1 e2;obtain⟨k,nm,ar,⟨rs,rl,rd⟩⟩:=s;simp only at *;subst hk;have t0:=λg3 g4=>cbAt 3 4 (KB+1000) (KC+1000) (KV+1000) g3 g4 g svC svV fr 4 nm ar (.v (.bool rs)) (lim rl) (lim rd) cs 0 ⟨rfl,rfl,rfl⟩ zo h0;have t1:=λg3 g4=>cbAt 3 4 (KB+1000) (KC+1000) (KV+1000) g3 g4 g svC svV fr 4 nm ar (.v (.bool rs)) (lim rl) (lim rd) cs 1 ⟨rfl,rfl,rfl⟩ zo h1
 have t2:=λg3 g4=>cbAt 3 4 (KB+1000) (KC+1000) (KV+1000) g3 g4 g svC svV fr 4 nm ar (.v (.bool rs)) (lim rl) (lim rd) cs 2 ⟨rfl,rfl,rfl⟩ zo h2;rw [ha] at t0;rw [hb] at t1;rw [hc] at t2;clear s1 s2 e1 e2 l1 l2 l3 a1 a2 b1 b2 c1 c2 hco hok n1 n2 n3 n4 n5 n6 ha hb hc;generalize addM a.1 (subM b.2 c.2)=x1 at *;generalize addM a.2 (subM c.1 b.1)=x2 at *;generalize subM c.1 b.1=y1 at *;generalize subM c.2 b.2=y2 at *;generalize subM b.2 c.2=y3 at *;obtain⟨aa,ab⟩:=a;obtain⟨ba,bb⟩:=b;obtain⟨ca,cb⟩:=c;refine Zaq func104 rfl ntmps104 results104 call104 zr zs ?_
 (repeat' (first|(with_reducible first|refine stp ?_|apply gx1|apply gx2|apply gx3|apply gx4|apply gx5|apply gx6|apply gx7|apply gy8|apply gz2|apply gz3|refine gwr (t0 _ _) ?_ ?_|refine gwr (t1 _ _) ?_ ?_|refine gwr (t2 _ _) ?_ ?_|refine gw0 (oa) ?_ ?_|refine gw3 (oa) ?_ ?_ ?_|refine gw0 (cB) ?_ ?_|refine gw3 (cB) ?_ ?_ ?_|refine gw0 (cC) ?_ ?_|refine gw3 (cC) ?_ ?_ ?_|refine gw0 (hn) ?_ ?_|refine gw3 (hn) ?_ ?_ ?_)|((with_reducible apply gyr (t2 _ _));(focus rfl);(focus rfl);iterate 3 focus ((with_reducible refine gE ?_);(try simp (disch:=omega) only [go_sem,mB,mV,mC,Zan,Zav,Zdb,Zzf,Zzd,Zzc,Zzb,Int.reduceAdd,Int.reduceSub,Int.reduceToNat,Zzh])<;>first|rfl|done))|((with_reducible apply gyr (t1 _ _));(focus rfl);(focus rfl);iterate 3 focus ((with_reducible refine gE ?_);(try simp (disch:=omega) only [go_sem,mB,mV,mC,Zan,Zav,Zdb,Zzf,Zzd,Zzc,Zzb,Int.reduceAdd,Int.reduceSub,Int.reduceToNat,Zzh])<;>first|rfl|done))|((with_reducible apply gyr (t0 _ _));(focus rfl);(focus rfl);iterate 3 focus ((with_reducible refine gE ?_);(try simp (disch:=omega) only [go_sem,mB,mV,mC,Zan,Zav,Zdb,Zzf,Zzd,Zzc,Zzb,Int.reduceAdd,Int.reduceSub,Int.reduceToNat,Zzh])<;>first|rfl|done))|(with_reducible refine Zck ?_;intro _)|((with_reducible refine gE ?_);(try simp (disch:=omega) only [go_sem,mB,mV,mC,Zan,Zav,Zdb,Zzf,Zzd,Zzc,Zzb,Int.reduceAdd,Int.reduceSub,Int.reduceToNat,Zzh])<;>first|rfl|omega)|with_reducible refine Zaf zd ?_|((with_reducible apply gy1);iterate 3 focus rfl)|((with_reducible apply gy2);iterate 3 focus rfl)|((with_reducible apply gy3);iterate 2 focus rfl)|((with_reducible apply gy4);iterate 1 focus rfl)|((with_reducible apply gy5);iterate 4 focus rfl)|((with_reducible apply gy5c);iterate 4 focus rfl)|((with_reducible apply gy6);iterate 4 focus rfl)|((with_reducible apply Zfk);iterate 3 focus rfl)|((with_reducible apply Zfi);iterate 1 focus rfl)|((with_reducible apply gy7);iterate 1 focus rfl)|((with_reducible apply gy9);(focus ((with_reducible refine gE ?_);(try simp (disch:=omega) only [go_sem,mB,mV,mC,Zan,Zav,Zdb,Zzf,Zzd,Zzc,Zzb,Int.reduceAdd,Int.reduceSub,Int.reduceToNat,Zzh])<;>rfl)))|((with_reducible apply gz1);(focus first|rfl|(simp (disch:=omega) only [go_sem,mB,mV,mC,Zan,Zav,Zdb,Zzf,Zzd,Zzc,Zzb,Int.reduceAdd,Int.reduceSub,Int.reduceToNat,Zzh];done)))|((with_reducible apply Za6 (id:=11) (Zcz [(1,coA (ba,bb)),(3,coA (ca,cb)),(4,coA (y1,y2))]) [] []);(focus kernel_rfl);(focus rfl);(focus kernel_rfl);(focus (simp only [Zzq,Zzs,Nat.reduceAdd];rfl)))|((with_reducible apply Za6 (id:=12) (Zcz [(1,coA (aa,ab)),(2,coA (aa,ab)),(5,poA y3),(9,coA (x1,x2))]) [] [6]);(focus kernel_rfl);(focus rfl);(focus kernel_rfl);(focus (simp only [Zzq,Zzs,Nat.reduceAdd];rfl)))|((with_reducible first|apply Zca|apply Zcp|apply Zcb);all_goals (intro hc;(try simp only [bool_to_prop] at hc);try (exfalso;omega)))))
 simp (disch:=omega) only [go_sem];refine Zd1 (Sub.refl _) ⟨svV,rfl,rfl⟩ ?_;rw [Zcx hV,Zcx hB]
 (repeat' (first|exact Agr.start _|(refine Agr.own ?_ zo)))
theorem cbStep5 (σ:Mem) (KB KC KV g:Nat) (svC svV:Value) (cs:List (Po × Po)) (vs:List Vt) (fr:Nat) (i:Nat) (s:RS) (hB:σ KB=some (.box g 165 [.own KC svC,.own KV svV,iv fr] false)) (hV:σ KV=some (.row svV 106 3 (vs.map Vt.av) 0)) (hC:σ KC=some (.row svC 98 2 (cs.map coA) 0)) (hBV:KB≠KV) (hBC:KB≠KC) (hVC:KV≠KC) (hl:vs.length≤64) (hf:fr≤100) (hok:StOk cs s) (hco:∀c∈cs,Co c.1∧Co c.2) (hk:s.k=5):ACall prog 104 [.pbox KB g 0,s.av,iv i] σ λr σ'=>∃sv,r=coA (FS.nxt ⟨cs,vs,fr⟩ i s).2 ∧
 σ'=upd (upd σ KV (some (.row sv 106 3 ((vs++(FS.nxt ⟨cs,vs,fr⟩ i s).1).map Vt.av) 0))) KB (some (.box g 165 [.own KC svC,.own KV sv,iv (if s.k=1 then fr+1 else fr:Nat)] false)):=by
 have mB:=Zai hB;have mV:=Zai hV;have mC:=Zai hC;simp only [Ent.sh,AV.shL,AV.sh] at mB mV mC;have har:arS s.k=2:=by rw [hk];rfl
 have hal:=hok.al;have h0:=hok.ai 0 zo;obtain⟨a1,a2⟩:Co (cs.getD (gI s.ar 0).toNat ([],[])).1∧Co (cs.getD (gI s.ar 0).toNat ([],[])).2:=hco _ (Zay zo);have h1:=hok.ai 1 zo;obtain⟨b1,b2⟩:Co (cs.getD (gI s.ar 1).toNat ([],[])).1∧Co (cs.getD (gI s.ar 1).toNat ([],[])).2:=hco _ (Zay zo)
 have en:FS.nxt ⟨cs,vs,fr⟩ i s=([(1,(i:Int),0)],(addM (cs.getD (gI s.ar 0).toNat ([],[])).1 (mlM (subM (cs.getD (gI s.ar 1).toNat ([],[])).1 (cs.getD (gI s.ar 0).toNat ([],[])).1) (varM vs.length)),addM (cs.getD (gI s.ar 0).toNat ([],[])).2 (mlM (subM (cs.getD (gI s.ar 1).toNat ([],[])).2 (cs.getD (gI s.ar 0).toNat ([],[])).2) (varM vs.length)))):=by
  unfold FS.nxt;simp only [hk];rfl
 rw [en];simp only [Zzb (show ¬s.k=1 by omega)];clear en;generalize ha:cs.getD (gI s.ar 0).toNat ([],[])=a at *;generalize hb:cs.getD (gI s.ar 1).toNat ([],[])=b at *;have s1:=Zna b.1 a.1 b1.pk a1.pk b1.st a1.st (by have:=b1.ln;omega) (by have:=a1.ln;omega) zo zo zo;have s2:=Zna b.2 a.2 b2.pk a2.pk b2.st a2.st (by have:=b2.ln;omega) (by have:=a2.ln;omega) zo zo zo;have d1:=b1.pk.sub a1.pk;have d2:=b2.pk.sub a2.pk;have t1:=Zbw ordM b1.st a1.st;have t2:=Zbw ordM b2.st a2.st;have l1:=Zc8 b.1 a.1;have l2:=Zc8 b.2 a.2;have n1:=a1.ln;have n2:=a2.ln;have n3:=b1.ln;have n4:=b2.ln
 have c1:=Zs5 (subM b.1 a.1) vs.length d1 t1 zo zo zo;have c2:=Zs5 (subM b.2 a.2) vs.length d2 t2 zo zo zo;have e1:=Zky a.1 (mlM (subM b.1 a.1) (varM vs.length)) (a1.pk.mono (Zze _) (show 1≤2 by omega)) d1.mulV a1.st (Zam ordM mulK t1 (Zb1 _)) zo (by have:=Zhr (subM b.1 a.1) vs.length;omega) zo zo zo;have e2:=Zky a.2 (mlM (subM b.2 a.2) (varM vs.length)) (a2.pk.mono (Zze _) (show 1≤2 by omega)) d2.mulV a2.st (Zam ordM mulK t2 (Zb1 _)) zo (by have:=Zhr (subM b.2 a.2) vs.length;omega) zo zo zo;obtain⟨k,nm,ar,⟨rs,rl,rd⟩⟩:=s;simp only at *
 subst hk;have al:=λsv1 g3 g4 g7 g10=>cbAlongM 3 4 7 (KB+1000) (KC+1000) (KV+1000) g3 g4 g7 g svC sv1 fr 5 nm ar rs rl rd 10 g10 (varM vs.length) cs a b (mlM (subM b.1 a.1) (varM vs.length),mlM (subM b.2 a.2) (varM vs.length)) (addM a.1 (mlM (subM b.1 a.1) (varM vs.length)),addM a.2 (mlM (subM b.2 a.2) (varM vs.length))) zo h0 h1 ha hb s1 s2 c1 c2 e1 e2;clear s1 s2 c1 c2 e1 e2 d1 d2 t1 t2 l1 l2 a1 a2 b1 b2 hco hok n1 n2 n3 n4;generalize addM a.1 (mlM (subM b.1 a.1) (varM vs.length))=x1 at *;generalize addM a.2 (mlM (subM b.2 a.2) (varM vs.length))=x2 at *;refine Zaq func104 rfl ntmps104 results104 call104 zr zs ?_
 (focus (refine wkad (w_4 mB mV mC @Zan) w_t w_t ?_;(repeat' first|exact w_t|apply w_l);all_goals intros));refine Zce ((Zel _ (KB+1000) (KC+1000) (KV+1000) g svC svV vs fr 1 (i:Int) 0 (by(simp (disch:=omega) only [go_sem,mB,mV,Zzb,Zzc]<;>repeat' first|rfl|refine⟨?_,?_⟩)) (by(simp (disch:=omega) only [go_sem,mB,mV,Zzb,Zzc]<;>repeat' first|rfl|refine⟨?_,?_⟩)) zo zo)) ?_;intro sv1;generalize varM vs.length=t at *;(focus (refine wkad (w_4 mB mV mC @Zan) w_t w_t ?_;(repeat' first|exact w_t|apply w_l);all_goals intros));rename_i g3 g4 g6 g7 g10;have al:=al sv1 g3 g4 g7 g10
 (focus (refine wkax (w_5 mB mV mC @Zan @Zdb) w_t w_t w_t w_t (w_1 al) w_y (w_r 0) ?_;(repeat' first|exact w_t|apply w_l);all_goals intros));simp (disch:=omega) only [go_sem];refine Zd1 (Sub.refl _) ⟨sv1,rfl,rfl⟩ ?_;intro k;by_cases hk1:k=KB
 ·rw [hk1];simp (disch:=omega) only [Zaw,Zzc,Zzb,ZAl,Ent.sh,AV.shL,AV.sh]
  try rfl
 ·by_cases hk2:k=KV
  ·rw [hk2];simp (disch:=omega) only [Zaw,Zzc,Zzb,ZAl,Ent.sh,AV.shL,AV.sh]
   try rfl
  ·simp (disch:=omega) only [Zaw,Zzb];exact Agr.start σ k
theorem cbStep (σ:Mem) (KB KC KV g:Nat) (svC svV:Value) (cs:List (Po × Po)) (vs:List Vt) (fr:Nat) (i:Nat) (s:RS) (hB:σ KB=some (.box g 165 [.own KC svC,.own KV svV,iv fr] false)) (hV:σ KV=some (.row svV 106 3 (vs.map Vt.av) 0)) (hC:σ KC=some (.row svC 98 2 (cs.map coA) 0)) (hBV:KB≠KV) (hBC:KB≠KC) (hVC:KV≠KC) (hl:vs.length≤64) (hf:fr≤100) (hok:StOk cs s) (hco:∀c∈cs,Co c.1∧Co c.2):ACall prog 104 [.pbox KB g 0,s.av,iv i] σ λr σ'=>∃sv,r=coA (FS.nxt ⟨cs,vs,fr⟩ i s).2 ∧
 σ'=upd (upd σ KV (some (.row sv 106 3 ((vs++(FS.nxt ⟨cs,vs,fr⟩ i s).1).map Vt.av) 0))) KB (some (.box g 165 [.own KC svC,.own KV sv,iv (if s.k=1 then fr+1 else fr:Nat)] false)):=by
 by_cases k1:s.k=1
 ·exact cbStep1 σ KB KC KV g svC svV cs vs fr i s hB hV hC hBV hBC hVC hl hf k1
 ·by_cases k2:s.k=2
  ·exact cbStep2 σ KB KC KV g svC svV cs vs fr i s hB hV hC hBV hBC hVC hl hf hok hco k2
  ·by_cases k3:s.k=3
   ·exact cbStep3 σ KB KC KV g svC svV cs vs fr i s hB hV hC hBV hBC hVC hl hf hok hco k3
   ·by_cases k4:s.k=4
    ·exact cbStep4 σ KB KC KV g svC svV cs vs fr i s hB hV hC hBV hBC hVC hl hf hok hco k4
    ·by_cases k5:s.k=5
     ·exact cbStep5 σ KB KC KV g svC svV cs vs fr i s hB hV hC hBV hBC hVC hl hf hok hco k5
     ·by_cases k6:s.k=6
      ·exact cbStep6 σ KB KC KV g svC svV cs vs fr i s hB hV hC hBV hBC hVC hl hf k6
      ·exact cbStep7 σ KB KC KV g svC svV cs vs fr i s hB hV hC hBV hBC hVC hl hf ⟨k1,k2,k3,k4,k5,k6⟩
abbrev frmA (cs:List (Po × Po)) (vs:List Vt):AV:=.agg [.sl 2 (cs.map coA),.sl 3 (vs.map Vt.av)]
def Zet (l:List Vt) (i:Nat):List Int:=((List.range i).filter λj=>decide ((l.getD j (0,0,0)).1=1)).map λn:Nat=>(n:Int)
theorem Zo8 (l:List Vt) (i:Nat):(Zet l i).length≤i:=by
 unfold Zet;rw [Zzg];exact Zzi (List.length_filter_le _ _) zs
theorem Znc {l:List Vt} {i:Nat} (h:(l.getD i (0,0,0)).1=1):Zet l (i+1)=Zet l i++[(i:Int)]:=by
 unfold Zet;rw [List.range_succ,ZD4,ZD5,Zzc (Zzf h),Zzw];rfl
theorem Zrg {l:List Vt} {i:Nat} (h:(l.getD i (0,0,0)).1≠1):Zet l (i+1)=Zet l i:=by
 unfold Zet;rw [List.range_succ,ZD4,ZD5,Zzb (by rw [Zzd h];simp),Zzw];simp
theorem Zsy (cs:List (Po × Po)) (l:List Vt) (hl:l.length≤70):Pure prog 39 [frmA cs l] (ivs (Zet l l.length)):=by
 show Pure _ _ [.agg [.sl 2 (cs.map coA),.sl 3 (l.map Vt.av)]] _;generalize cs.map coA=C;refine pI func39 rfl ntmps39 results39 call39 ?_;(focus (refine wkap (w_1 @Zbj) w_t (w_r 0) ?_;(repeat' first|exact w_t|apply w_l);all_goals intros));refine Zf5 (Frz.nilOwn (d:=3) 20 1 3 (gC)) ?_;refine Zab (ι:=Nat) (λi e m=>i≤l.length∧e 7=.sl 3 (l.map Vt.av)∧e 8=iv l.length∧e 9=iv i∧∃sv,e 3=.own 20 sv∧m 20=some (.row sv 3 1 ((Zet l i).map iv) 0)) (λi=>l.length - i) 0 zr ?_ ?_
 ·rintro i e m ⟨hi,e7,e8,e9,sv,e3,em⟩
  have hpl:=Zo8 l i;by_cases hlt:i < l.length
  ·have hg:(l.map Vt.av).getD i .u=Vt.av (l.getD i (0,0,0)):=by rw [Zzo,ZA3,Zzn hlt,Zzo,Zzn hlt];rfl
   by_cases h1:(l.getD i (0,0,0)).1=1
   ·have hs:=Znc h1;generalize Zet l i=ps at *;generalize l.getD i (0,0,0)=v at *;obtain⟨v1,v2,v3⟩:=v;(focus (refine wkap (w_8 e7 e8 e9 e3 em hg h1 @Zbj) w_t (w_r 0) ?_;(repeat' first|exact w_t|apply w_l);all_goals intros));all_goals refine⟨i+1,⟨zo,gW e7,gW e8,gS,_,gW e3,?_⟩,zo⟩
    all_goals (rw [hs,Zzw];exact gC)
   ·have hs:=Zrg h1;generalize Zet l i=ps at *;generalize l.getD i (0,0,0)=v at *;obtain⟨v1,v2,v3⟩:=v;(focus (refine wkap (w_7 e7 e8 e9 e3 em hg @Zbj) w_t (w_r 0) ?_;(repeat' first|exact w_t|apply w_l);all_goals intros));all_goals refine⟨i+1,⟨zo,gW e7,gW e8,gS,_,gW e3,?_⟩,zo⟩
    all_goals (rw [hs];exact gW em)
  ·have hi2:i=l.length:=zo;subst hi2;(focus (refine wkap (w_6 e7 e8 e9 e3 em @Zbj) w_t (w_r 0) ?_;(repeat' first|exact w_t|apply w_l);all_goals intros));simp (disch:=omega) only [go_sem,em,Zzg]
 ·exact⟨zo,gC,by(simp (disch:=omega) only [go_sem,Zzg]<;>repeat' first|rfl|refine⟨?_,?_⟩),gC,_,gC,by(simp (disch:=omega) only [go_sem,Zet,List.range_zero,List.filter_nil]<;>repeat' first|rfl|refine⟨?_,?_⟩)⟩
def cnt1 (l:List Vt):Nat:=(l.filter λv=>decide (v.1=1)).length
def cF (ss:List RS):Nat→Nat
 | 0=>0
 | i+1=>cF ss i+if (ss.getD i RS.zero).k=1 then 1 else 0
def cP (ss:List RS):Nat→Nat
 | 0=>0
 | i+1=>cP ss i+if (ss.getD i RS.zero).k=5∨(ss.getD i RS.zero).k=6 then 1 else 0
def cD (ss:List RS):Nat→Nat
 | 0=>0
 | i+1=>cD ss i+if (ss.getD i RS.zero).k=1∨(ss.getD i RS.zero).k=2∨(ss.getD i RS.zero).k=3∨(ss.getD i RS.zero).k=4∨(ss.getD i RS.zero).k=5 then 0 else 2
end Go.Proofs.YtenfejhaohihoaaGreat
