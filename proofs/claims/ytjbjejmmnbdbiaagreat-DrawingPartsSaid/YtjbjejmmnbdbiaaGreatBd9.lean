/- Contracts of the functions that the law reaches, and the rules by which they are walked. They say what a call hands back for every input within the bounds that each names; no other condition. -/
import Derived.Test.YtjbjejmmnbdbiaaGreatBd8
set_option linter.unusedSimpArgs false
set_option linter.unusedVariables false
set_option maxRecDepth 20000
set_option maxHeartbeats 16000000
namespace Go.Proofs.YtjbjejmmnbdbiaaGreat
open Go Go.RowKit Go.Pg Go.Pol Go.Proofs.Tryz
attribute [-bool_to_prop] Bool.and_eq_decide Bool.or_eq_decide Bool.decide_beq_decide decide_eq_decide
theorem nbA:namB wA=true:=by kernel_rfl
theorem szAX:wA.size≤1000:=by decide +kernel
theorem nbB:namB wB=true:=by kernel_rfl
theorem szBX:wB.size≤1000:=by decide +kernel
theorem nbC:namB wC=true:=by kernel_rfl
theorem szCX:wC.size≤1000:=by decide +kernel
theorem nbD:namB wD=true:=by kernel_rfl
theorem szDX:wD.size≤1000:=by decide +kernel
theorem dp_yA:Pure prog 236 [yA.av] (iv ((1:Nat):Int)):=Zfn yA [] zd (by intro q;induction q with | zero=>decide | succ q ih=>simpa [mxN] using ih) (λq h=>absurd h (Nat.not_lt_zero q))
theorem ck_yA:Pure prog 237 [yA.av,iv 1] (iv 0):=Zkk yA 1 zd rfl nbA szAX rfl
theorem dp_yB:Pure prog 236 [yB.av] (iv ((1:Nat):Int)):=Zfn yB [] zd (by intro q;induction q with | zero=>decide | succ q ih=>simpa [mxN] using ih) (λq h=>absurd h (Nat.not_lt_zero q))
theorem ck_yB:Pure prog 237 [yB.av,iv 1] (iv 0):=Zkk yB 1 zd rfl nbB szBX rfl
theorem dp_yC:Pure prog 236 [yC.av] (iv ((1:Nat):Int)):=Zfn yC [] zd (by intro q;induction q with | zero=>decide | succ q ih=>simpa [mxN] using ih) (λq h=>absurd h (Nat.not_lt_zero q))
theorem ck_yC:Pure prog 237 [yC.av,iv 1] (iv 0):=Zkk yC 1 zd rfl nbC szCX rfl
theorem dp_y1:Pure prog 236 [y1.av] (iv ((1:Nat):Int)):=Zfn y1 [] zd (by intro q;induction q with | zero=>decide | succ q ih=>simpa [mxN] using ih) (λq h=>absurd h (Nat.not_lt_zero q))
theorem ck_y1:Pure prog 237 [y1.av,iv 1] (iv 0):=Zkk y1 1 zd rfl nbD szDX rfl
theorem dp_y2:Pure prog 236 [y2.av] (iv ((1:Nat):Int)):=Zfn y2 [] zd (by intro q;induction q with | zero=>decide | succ q ih=>simpa [mxN] using ih) (λq h=>absurd h (Nat.not_lt_zero q))
theorem ck_y2:Pure prog 237 [y2.av,iv 1] (iv 0):=Zkk y2 1 zd rfl nbB szBX rfl
theorem dp_y3:Pure prog 236 [y3.av] (iv ((1:Nat):Int)):=Zfn y3 [] zd (by intro q;induction q with | zero=>decide | succ q ih=>simpa [mxN] using ih) (λq h=>absurd h (Nat.not_lt_zero q))
theorem ck_y3:Pure prog 237 [y3.av,iv 1] (iv 0):=Zkk y3 1 zd rfl nbD szDX rfl
theorem dp_y4:Pure prog 236 [y4.av] (iv ((1:Nat):Int)):=Zfn y4 [] zd (by intro q;induction q with | zero=>decide | succ q ih=>simpa [mxN] using ih) (λq h=>absurd h (Nat.not_lt_zero q))
theorem ck_y4:Pure prog 237 [y4.av,iv 1] (iv 0):=Zkk y4 1 zd rfl nbC szCX rfl
theorem Zxd {ds:List Nat} {b:Nat} (h:∀d∈ds,d≤b):∀q,mxN ds q≤b:=by
 intro q
 induction q with
 | zero=>exact Zzb _
 | succ q ih =>
   refine Nat.max_le.2 ⟨ih,?_⟩;by_cases hq:q < ds.length
   ·rw [Zzc,Zy4 hq];exact h _ (Zzm hq)
   ·rw [Zzc,ZAf zo];exact Zzb _
theorem mxxL:∀q,mxN [1,1] q≤100:=Zxd zd
theorem dp_xL:Pure prog 236 [xL.av] (iv ((2:Nat):Int)):=by
 refine Zfn xL [1,1] zd mxxL ?_;intro q hq;have hq:q < 2:=hq
 match q,hq with
 | 0,_=>exact⟨yB,rfl,by decide,dp_yB⟩
 | 1,_=>exact⟨yC,rfl,by decide,dp_yC⟩
theorem ck_xL:Pure prog 237 [xL.av,iv 2] (iv 0):=by
 refine Zvv xL 15 zd rfl zd zd zd zd rfl rfl zd ?_;intro q hq;have hq:q < 2:=hq
 match q,hq with
 | 0,_=>exact⟨yB,rfl,ck_yB⟩
 | 1,_=>exact⟨yC,rfl,ck_yC⟩
theorem mxxF:∀q,mxN [1,2] q≤100:=Zxd zd
theorem dp_xF:Pure prog 236 [xF.av] (iv ((3:Nat):Int)):=by
 refine Zfn xF [1,2] zd mxxF ?_;intro q hq;have hq:q < 2:=hq
 match q,hq with
 | 0,_=>exact⟨yA,rfl,by decide,dp_yA⟩
 | 1,_=>exact⟨xL,rfl,by decide,dp_xL⟩
theorem ck_xF:Pure prog 237 [xF.av,iv 1] (iv 0):=by
 refine Zvv xF 4 zd rfl zd zd zd zd rfl rfl zd ?_;intro q hq;have hq:q < 2:=hq
 match q,hq with
 | 0,_=>exact⟨yA,rfl,ck_yA⟩
 | 1,_=>exact⟨xL,rfl,ck_xL⟩
theorem mxxG:∀q,mxN [1,1,1,1] q≤100:=Zxd zd
theorem dp_xG:Pure prog 236 [xG.av] (iv ((2:Nat):Int)):=by
 refine Zfn xG [1,1,1,1] zd mxxG ?_;intro q hq;have hq:q < 4:=hq
 match q,hq with
 | 0,_=>exact⟨y1,rfl,by decide,dp_y1⟩
 | 1,_=>exact⟨y2,rfl,by decide,dp_y2⟩
 | 2,_=>exact⟨y3,rfl,by decide,dp_y3⟩
 | 3,_=>exact⟨y4,rfl,by decide,dp_y4⟩
theorem ck_xG:Pure prog 237 [xG.av,iv 4] (iv 0):=by
 refine Zvv xG 24 zd rfl zd zd zd zd rfl rfl zd ?_;intro q hq;have hq:q < 4:=hq
 match q,hq with
 | 0,_=>exact⟨y1,rfl,ck_y1⟩
 | 1,_=>exact⟨y2,rfl,ck_y2⟩
 | 2,_=>exact⟨y3,rfl,ck_y3⟩
 | 3,_=>exact⟨y4,rfl,ck_y4⟩
theorem cc1X:Pure prog 179 [xS1.av] (iv 0):=rxCs1 [wA,wB,wC] 0 zs zd (λw hw=>by
 simp only [ZAp,List.not_mem_nil,or_false] at hw;rcases hw with rfl | rfl | rfl
 ·exact⟨nbA,szAX⟩
 ·exact⟨nbB,szBX⟩
 ·exact⟨nbC,szCX⟩)
theorem cc2X:Pure prog 179 [xS2.av] (iv 0):=rxCs2 wD xF _ ⟨nbD,szDX⟩ zd (Zvx xF 1 3 zd zd dp_xF ck_xF)
theorem cc3X:Pure prog 179 [xS3.av] (iv 0):=rxCs5 xG _ zd (Zvx xG 4 2 zd zd dp_xG ck_xG)
theorem us_yA:Pure prog 180 [.sl 10 (([xS1]).map Stq.av),yA.av,iv 1] (iv 0):=Zhz ([xS1]) yA 1 zd (by decide +kernel) rfl zd zk
theorem us_yB:Pure prog 180 [.sl 10 (([xS1]).map Stq.av),yB.av,iv 1] (iv 0):=Zhz ([xS1]) yB 1 zd (by decide +kernel) rfl zd zk
theorem us_yC:Pure prog 180 [.sl 10 (([xS1]).map Stq.av),yC.av,iv 1] (iv 0):=Zhz ([xS1]) yC 1 zd (by decide +kernel) rfl zd zk
theorem us_y1:Pure prog 180 [.sl 10 (([xS1,xS2]).map Stq.av),y1.av,iv 1] (iv 0):=Zhz ([xS1,xS2]) y1 1 zd (by decide +kernel) rfl zd zk
theorem us_y2:Pure prog 180 [.sl 10 (([xS1,xS2]).map Stq.av),y2.av,iv 1] (iv 0):=Zhz ([xS1,xS2]) y2 1 zd (by decide +kernel) rfl zd zk
theorem us_y3:Pure prog 180 [.sl 10 (([xS1,xS2]).map Stq.av),y3.av,iv 1] (iv 0):=Zhz ([xS1,xS2]) y3 1 zd (by decide +kernel) rfl zd zk
theorem us_y4:Pure prog 180 [.sl 10 (([xS1,xS2]).map Stq.av),y4.av,iv 1] (iv 0):=Zhz ([xS1,xS2]) y4 1 zd (by decide +kernel) rfl zd zk
theorem us_xL:Pure prog 180 [.sl 10 (([xS1]).map Stq.av),xL.av,iv 2] (iv 0):=by
 refine Zqc _ xL 2 15 zd rfl zd zd rfl zd ?_;intro q hq;have hq:q < 2:=hq
 match q,hq with
 | 0,_=>exact⟨yB,rfl,us_yB⟩
 | 1,_=>exact⟨yC,rfl,us_yC⟩
theorem us_xF:Pure prog 180 [.sl 10 (([xS1]).map Stq.av),xF.av,iv 1] (iv 0):=by
 refine Zqc _ xF 1 4 zd rfl zd zd rfl zd ?_;intro q hq;have hq:q < 2:=hq
 match q,hq with
 | 0,_=>exact⟨yA,rfl,us_yA⟩
 | 1,_=>exact⟨xL,rfl,us_xL⟩
theorem us_xG:Pure prog 180 [.sl 10 (([xS1,xS2]).map Stq.av),xG.av,iv 4] (iv 0):=by
 refine Zqc _ xG 4 24 zd rfl zd zd rfl zd ?_;intro q hq;have hq:q < 4:=hq
 match q,hq with
 | 0,_=>exact⟨y1,rfl,us_y1⟩
 | 1,_=>exact⟨y2,rfl,us_y2⟩
 | 2,_=>exact⟨y3,rfl,us_y3⟩
 | 3,_=>exact⟨y4,rfl,us_y4⟩
theorem st1X:Pure prog 135 [.sl 10 (([]:List Stq).map Stq.av),xS1.av] (iv 0):=Zqd [] xS1 0 zd zd zd zk cc1X (.inl rfl)
theorem st2X:Pure prog 135 [.sl 10 ([xS1].map Stq.av),xS2.av] (iv 0):=Zqd [xS1] xS2 1 zd (by decide +kernel) zd zk cc2X (.inr ⟨by decide,Zdy 2 1 (.inl ⟨rfl,rfl⟩),us_xF⟩)
theorem st3X:Pure prog 135 [.sl 10 ([xS1,xS2].map Stq.av),xS3.av] (iv 0):=Zqd [xS1,xS2] xS3 4 zd (by decide +kernel) zd zk cc3X (.inr ⟨by decide,Zdy 5 4 (.inr ⟨rfl,rfl⟩),us_xG⟩)
theorem chX:Pure prog 88 [.agg [.sl 10 ([xS1,xS2,xS3].map Stq.av)]] (.tup [iv 0,iv 0]):=by
 refine Zvw [xS1,xS2,xS3] zd ?_;intro q hq;have hq:q < 3:=hq
 match q,hq with
 | 0,_=>exact st1X
 | 1,_=>exact st2X
 | 2,_=>exact st3X
def S1X:List AV:=ptsS [wA,wB,wC]
def N1X:List Kn:=ptsK 0 [wA,wB,wC] 3
def VF:List (List Int):=[[1],[2]]
def VG:List (List Int):=[[3],[1],[3],[2]]
def S2X:List AV:=S1X++[elF wD ((([0]:List Int)++catN VF 2).map iv)]
def N2X:List Kn:=N1X++[⟨wD,1,[3]⟩]
def G3X:List AV:=[fcA 4 ((catN VG 4).map iv)]
theorem Zyk (V:List (List Int)) (n:Nat) (hV:V.length≤n) {b:Nat} (hb:∀q,q≤n→(catN V q).length≤b):∀q,(catN V q).length≤b:=by
 intro q;by_cases hq:q≤n
 ·exact hb q hq
 ·obtain⟨d,rfl⟩:∃d,q=n+d:=⟨q - n,zo⟩;clear hq
  induction d with
  | zero=>exact hb n (Zy5 _)
  | succ d ih =>
    show(catN V (n+d)++V.getD (n+d) []).length≤b;rw [Zzc,ZAf zo]
    simpa using ih
theorem figX0:Pure prog 49 [.agg [.sl 10 ([xS1,xS2,xS3].map Stq.av)]] (.tup [.agg [.sl 6 S2X,.sl 5 G3X],iv 0,iv 0]):=by
 refine rxFigure xS1 xS2 xS3 S1X S2X S2X [] [] G3X N1X N2X N2X chX ?_ ?_ ?_ zd zd zd zd zd zd
 ·intro σ a b c h1 h2 h3;exact stS1 σ 501 502 503 a b c [] [] [] [wA,wB,wC] _ h1 h2 h3 zd zd zd zd zd
 ·intro σ a b c h1 h2 h3;refine stS2 σ 501 502 503 a b c S1X [] N1X xF yA xL wD _ ⟨wA,1,[0]⟩ VF rfl h1 h2 h3 zd zd zd zd zd rfl rfl zk zd rfl zd (Zyk VF 2 zd zd) ?_;intro q hq;have hq:q < 2:=hq
  match q,hq with
  | 0,_=>exact⟨yB,⟨wB,1,[1]⟩,rfl,rfl,by kernel_rfl,rfl,by decide⟩
  | 1,_=>exact⟨yC,⟨wC,1,[2]⟩,rfl,rfl,by kernel_rfl,rfl,by decide⟩
 ·intro σ a b c h1 h2 h3;refine stS5 σ 501 502 503 a b c S2X [] N2X xG _ 4 VG h1 h2 h3 zd zd zd zd zd rfl zd zd zd zd (Zyk VG 4 zd zd) ?_;intro q hq;have hq:q < 4:=hq
  match q,hq with
  | 0,_=>exact⟨y1,⟨wD,1,[3]⟩,rfl,rfl,by kernel_rfl,rfl,by decide⟩
  | 1,_=>exact⟨y2,⟨wB,1,[1]⟩,rfl,rfl,by kernel_rfl,rfl,by decide⟩
  | 2,_=>exact⟨y3,⟨wD,1,[3]⟩,rfl,rfl,by kernel_rfl,rfl,by decide⟩
  | 3,_=>exact⟨y4,⟨wC,1,[2]⟩,rfl,rfl,by kernel_rfl,rfl,by decide⟩
def ssX:List RS:=[⟨1,wA,[],⟨false,[],[]⟩⟩,⟨1,wB,[],⟨false,[],[]⟩⟩,⟨1,wC,[],⟨false,[],[]⟩⟩,⟨7,wD,[0,1,2],⟨false,[],[]⟩⟩]
def gsX:List RG:=[⟨4,[3,1,3,2],⟨false,[],[]⟩⟩]
theorem figX:Pure prog 49 [.agg [.sl 10 ([xS1,xS2,xS3].map Stq.av)]] (.tup [figA ssX gsX,iv 0,iv 0]):=by
 refine Zcm figX0 (Vk.tupL (.cons (Vk.aggL (.cons (Vk.slL zr zd zd ?_) (.cons (Vk.slL zr zd zd ?_) .nil))) (.cons (.refl _) (.cons (.refl _) .nil))))
 ·exact(.cons (.refl _) (.cons (.refl _) (.cons (.nil 1) (.cons (.refl _) (.cons (.nil 1) (.cons (.nil 1) (.cons (.refl _) (.cons (.refl _) (.cons (.nil 1) (.cons (.refl _) (.cons (.nil 1) (.cons (.nil 1) (.cons (.refl _) (.cons (.refl _) (.cons (.nil 1) (.cons (.refl _) (.cons (.nil 1) (.cons (.nil 1) (.cons (.refl _) (.cons (.refl _) (.cons (.refl _) (.cons (.refl _) (.cons (.nil 1) (.cons (.nil 1) .nil))))))))))))))))))))))))
 ·exact(.cons (.refl _) (.cons (.refl _) (.cons (.refl _) (.cons (.nil 1) (.cons (.nil 1) .nil)))))
attribute [go_sem] underlying280 underlying156 underlying157 underlying63 zMono
attribute [local go_sem] Za6 Zba Za9 Zct Zs9 Zel Zru Zta Zcu Zcz Zem
theorem Zoe {q:Rat}:(q.num.sign=0)=(q=0):=by rw [Int.sign_eq_zero_iff_zero,Rat.num_eq_zero]
theorem Zyv {p q:Po} {i k:Nat} (hi:i < p.length) (hk:k < q.length):addM (p.drop i) (q.drop k) =
 if ltM q[k].2 p[i].2 then p[i] :: addM (p.drop (i+1)) (q.drop k) else if ltM p[i].2 q[k].2 then q[k] :: addM (p.drop i) (q.drop (k+1))
 else if p[i].1+q[k].1=0 then addM (p.drop (i+1)) (q.drop (k+1)) else (p[i].1+q[k].1,p[i].2) :: addM (p.drop (i+1)) (q.drop (k+1)):=by
 rw [ZBy hi,ZBy hk];rw [show addM (p[i] :: p.drop (i+1)) (q[k] :: q.drop (k+1))=_ from by unfold addM;rw [addP]]
theorem Zn4 {p q:Po} {i k:Nat} (h:p.length≤i∨q.length≤k):addM (p.drop i) (q.drop k)=p.drop i++q.drop k:=by
 rcases h with h | h
 ·rw [ZAo h];simp [addM,addP]
 ·rw [ZAo h,ZAh];exact Zte _
theorem poTimes1 {p:Po} {t:Tm} {i:Nat} (hi:i < p.length):Zbk mulM (p.take (i+1)) t=Zbk mulM (p.take i) t++[(p[i].1*t.1,mulM p[i].2 t.2)]:=by
 unfold Zbk;rw [ZCe hi,Zzz];rfl
theorem Zg4 (p:Po) (t:Tm):(Zbk mulM p t).length=p.length:=by unfold Zbk;simp
def SumOk (l:List Po) (K e:Nat):Prop:=∀a b,PK (sumH ltM ((l.drop a).take b)) K e∧(sumH ltM ((l.drop a).take b)).length≤1000000
theorem SumOk.take {l:List Po} {K e:Nat} (h:SumOk l K e) (k:Nat):SumOk (l.take k) K e:=λa b=>by
 rw [List.drop_take,List.take_take];exact h a _
theorem SumOk.drop {l:List Po} {K e:Nat} (h:SumOk l K e) (k:Nat):SumOk (l.drop k) K e:=λa b=>by
 rw [ZCc];exact h _ b
theorem SumOk.all {l:List Po} {K e:Nat} (h:SumOk l K e):PK (sumH ltM l) K e∧(sumH ltM l).length≤1000000:=by
 have:=h 0 l.length
 rwa [ZA0,ZAw] at this
def partsM (p q:Po):List Po:=if q.length < p.length then q.map λt=>Zbk mulM p t else p.map λt=>Zbk mulM q t
theorem SumOk.one {l:List Po} {K e:Nat} (hl:l.length≤1) (h:∀p∈l,PK p K e∧p.length≤1000000):SumOk l K e:=λa b=>by
 have h0:PK (sumH ltM []) K e∧(sumH ltM []).length≤1000000:=by rw [show sumH ltM []=[] from by simp [sumH]];exact⟨.nil,by simp⟩
 match l,hl,h with
 | [],_,_=>simpa using h0
 | [p],_,h =>
   match a,b with
   | 0,0=>simpa using h0
   | 0,b+1=>simp only [ZA0,ZDt,List.take_nil];rw [show sumH ltM [p]=p from by simp [sumH]];exact h p (.head _)
   | a+1,b=>simpa using h0
theorem PK.neg {q:Po} {k e:Nat} (hq:PK q k e):PK (Zb3 (-1) q) k e:=λt ht=>by
 obtain⟨s,hs,rfl⟩:=List.mem_map.1 ht;refine⟨?_,(hq s hs).2⟩;show Sz (s.1*-1) k;rw [show s.1*-1=-s.1 by grind];exact(hq s hs).1.neg
theorem Zgm (a:Rat) (p:Po):(Zb3 a p).length=p.length:=by unfold Zb3;simp
theorem unit_set (v:Nat):((List.replicate (v+1) (iv 0)).set v (iv 1))=(Zfl v).map iv:=by
 unfold Zfl;rw [Zzz,List.map_replicate,List.replicate_succ',List.set_append_right _ _ zs];simp
theorem Zwm (q:Rat) {k:Nat} (h:Sz q k) (hk:k≤100000000000):Pure prog 7 [ratQ q] (.v (.int .i64 q.num.sign)):=by
 have c:=zSign q.num (by have:=h.1;omega);have cn:=Zt1 q h hk;generalize q.num.sign=z at *;refine pI func7 rfl ntmps7 results7 call7 ?_;exact wklp w_t (w_2 cn c) w_t (w_r 0) w_z
theorem rpLex (a b:List Int) (hs:Sm a) (ht:Sm b):Pure prog 228 [ivs a,ivs b,iv 0] (iv (lexC a b (max a.length b.length))):=by
 have c:Pure prog 228 [ivs a,ivs b,iv 0] (iv (cmpI a b 0)):=mrCmp a b 0 hs ht;have e:cmpI a b 0=lexC a b (max a.length b.length):=by unfold cmpI;rw [Zy0 zo]
 rwa [e] at c
theorem Zoi (p q:Po) {j k e:Nat} (hp:PK p j e) (hq:PK q k e) (sp:SrtM p) (sq:SrtM q) (lp:p.length≤1000000) (lq:q.length≤1000000) (hj:j≤1000000) (hk:k≤1000000) (he:e≤16777216) :
 Pure prog 200 [poA p,poA q] (poA (addM p q)):=by
 refine pI func200 rfl ntmps200 results200 call200 ?_;(focus (refine wkad (w_1 @Zbq) w_t w_t ?_;(repeat' first|exact w_t|apply w_l);all_goals intros));refine Zc7 (Frz.nilOwn (d:=5) 100 4 280 (gC)) ?_;refine Zab (ι:=Nat × Nat) (λx e m=>x.1≤p.length∧x.2≤q.length∧e 0=poA p∧e 1=poA q∧e 6=iv x.1∧e 7=iv x.2∧∃sv out,e 5=.own 100 sv∧m 100=some (.row sv 280 4 (out.map tmA) 0)∧out.length≤x.1+x.2∧addM p q=out++addM (p.drop x.1) (q.drop x.2)) (λx=>p.length+q.length - (x.1+x.2)) (0,0) zr ?_ ?_
 ·rintro ⟨i,l⟩ e m ⟨hi,hl,e0,e1,e6,e7,sv,out,e5,em,ho,hs⟩
  simp only at hi hl e6 e7 ho hs;by_cases hil:i < p.length∧l < q.length
  ·obtain⟨hi2,hl2⟩:=hil;have hg:=Zac tmA hi2;have hh:=Zac tmA hl2;have st:=Zyv hi2 hl2;have ms:=hp _ (Zzm hi2);have mt:=hq _ (Zzm hl2);have m1:=hp.sm he (Zzm hi2);have m2:=hq.sm he (Zzm hl2);have d1:=sp.dom _ (Zzm hi2);have d2:=sq.dom _ (Zzm hl2);generalize p[i]=s at *;generalize q[l]=t at *;have cl:=rpLex s.2 t.2 m1 m2;have ca:=qAdd s.1 t.1 ms.1 mt.1 zo zo;have cz:=Zwm (s.1+t.1) (ms.1.add mt.1) zo;have hlen:(out.map tmA).length=out.length:=Zy3 ..;rw [st] at hs;obtain⟨s1,s2⟩:=s;obtain⟨t1,t2⟩:=t
   simp only at *;rcases Zug d1 d2 with⟨h1,h2⟩ | ⟨h1,h1',h2,h3⟩ | ⟨h1,h1',h2⟩
   ·have h3:¬ltM t2 s2:=λh=>ordM.irr _ (ordM.tr _ _ _ h h1);rw [Zy0 h3,Zy1 h1] at hs;rw [h2] at cl;clear st ms mt m1 m2 d1 d2 ca cz;(focus (refine wkad (w_9 e0 e1 e6 e7 e5 em hg hh @Zbq) (w_1 cl) (w_1 (w_d 8 [(10,iv (-1))] [] [])) ?_;(repeat' first|exact w_t|apply w_l);all_goals intros));refine⟨(i,l+1),⟨by simp only;omega,by simp only;omega,gW e0,gW e1,gW e6,gS,_,out++[(t1,t2)],gC,by(simp (disch:=omega) only [go_sem,Zzz]<;>repeat' first|rfl|refine⟨?_,?_⟩),by simp only [Zzq,Zze,Zzi];omega,by rw [hs,ZAa];rfl⟩,by simp only;omega⟩
   ·rw [Zy0 h1',Zy0 h1] at hs;rw [h3] at cl;by_cases hz:s1+t1=0
    ·rw [Zy1 hz] at hs;have hz2:(s1+t1).num.sign=0:=by rw [Zoe];exact hz
     clear st ms mt m1 m2 d1 d2;generalize (s1+t1)=z at *;(focus (refine wkad (w_10 e0 e1 e6 e7 e5 em hg hh @Zbq hz2) (w_3 cl ca cz) (w_2 (w_d 8 [(10,iv 0)] [] []) (w_d 9 [(10,ratQ z)] [] [9])) ?_;(repeat' first|exact w_t|apply w_l);all_goals intros));refine⟨(i+1,l+1),⟨by simp only;omega,by simp only;omega,gW e0,gW e1,gS,gS,_,out,gW e5,gW em,by simp only;omega,hs⟩,by simp only;omega⟩
    ·rw [Zy0 hz] at hs;have hz2:¬(s1+t1).num.sign=0:=by rw [Zoe];exact hz
     clear st ms mt m1 m2 d1 d2;generalize (s1+t1)=z at *;(focus (refine wkax (w_9 e0 e1 e6 e7 e5 em hg hh @Zbq) (w_3 cl ca cz) (w_3 (w_d 8 [(10,iv 0)] [] []) (w_d 9 [(10,ratQ z)] [] [9]) (w_d 11 [] [9,1009] [100,61])) w_t w_t w_t w_y (w_r 0) ?_;(repeat' first|exact w_t|apply w_l);all_goals intros));refine⟨(i+1,l+1),⟨by simp only;omega,by simp only;omega,gW e0,gW e1,gS,gS,_,out++[(z,s2)],gC,by(simp (disch:=omega) only [go_sem,Zzz]<;>repeat' first|rfl|refine⟨?_,?_⟩),by simp only [Zzq,Zze,Zzi];omega,by rw [hs,ZAa];rfl⟩,by simp only;omega⟩
   ·rw [Zy1 h1] at hs;rw [h2] at cl;clear st ms mt m1 m2 d1 d2 ca cz;(focus (refine wkad (w_9 e0 e1 e6 e7 e5 em hg hh @Zbq) (w_1 cl) (w_1 (w_d 8 [(10,iv 1)] [] [])) ?_;(repeat' first|exact w_t|apply w_l);all_goals intros));refine⟨(i+1,l),⟨by simp only;omega,by simp only;omega,gW e0,gW e1,gS,gW e7,_,out++[(s1,s2)],gC,by(simp (disch:=omega) only [go_sem,Zzz]<;>repeat' first|rfl|refine⟨?_,?_⟩),by simp only [Zzq,Zze,Zzi];omega,by rw [hs,ZAa];rfl⟩,by simp only;omega⟩
  ·rw [Zn4 zo] at hs;by_cases hi2:i < p.length
   ·have hl2:l=q.length:=zo;subst hl2;have hg:=Zac tmA hi2;have hd:p.drop i=p[i] :: p.drop (i+1):=ZBy hi2;rw [hd] at hs
    have hs:addM p q=(out++[p[i]])++addM (p.drop (i+1)) (q.drop q.length):=by
     rw [Zn4 (.inr (Zy5 _)),hs];simp
    clear hd;generalize p[i]=s at *;obtain⟨s1,s2⟩:=s;(focus (refine wkad (w_8 e0 e1 e6 e7 e5 em hg @Zbq) w_t w_t ?_;(repeat' first|exact w_t|apply w_l);all_goals intros));refine⟨(i+1,q.length),⟨by simp only;omega,by simp only;omega,gW e0,gW e1,gS,gW e7,_,out++[(s1,s2)],gC,by(simp (disch:=omega) only [go_sem,Zzz]<;>repeat' first|rfl|refine⟨?_,?_⟩),by simp only [Zzq,Zze,Zzi];omega,hs⟩,by simp only;omega⟩
   ·have hi3:i=p.length:=zo;subst hi3;by_cases hl2:l < q.length
    ·have hg:=Zac tmA hl2;have hd:q.drop l=q[l] :: q.drop (l+1):=ZBy hl2;rw [hd] at hs
     have hs:addM p q=(out++[q[l]])++addM (p.drop p.length) (q.drop (l+1)):=by
      rw [Zn4 (.inl (Zy5 _)),hs];simp
     clear hd;generalize q[l]=s at *;obtain⟨s1,s2⟩:=s;(focus (refine wkad (w_8 e0 e1 e6 e7 e5 em hg @Zbq) w_t w_t ?_;(repeat' first|exact w_t|apply w_l);all_goals intros));refine⟨(p.length,l+1),⟨by simp only;omega,by simp only;omega,gW e0,gW e1,gW e6,gS,_,out++[(s1,s2)],gC,by(simp (disch:=omega) only [go_sem,Zzz]<;>repeat' first|rfl|refine⟨?_,?_⟩),by simp only [Zzq,Zze,Zzi];omega,hs⟩,by simp only;omega⟩
    ·have hl3:l=q.length:=zo;subst hl3;rw [ZCz,ZCz,ZAh,ZAh] at hs;rw [hs];(focus (refine wkld (w_7 e0 e1 e6 e7 e5 em @Zbq) w_t (w_1 em) w_t ?_;(repeat' first|exact w_t|apply w_l);all_goals intros))
 ·exact⟨Zzb _,Zzb _,gC,gC,gC,gC,_,[],gC,by(simp (disch:=omega) only [go_sem,ZAg]<;>repeat' first|rfl|refine⟨?_,?_⟩),by simp,by simp⟩
theorem rpTimes (p:Po) (t:Tm) {j k e f:Nat} (hp:PK p j e) (ht:PK [t] k f) (lp:p.length≤1000000) (hj:j≤1000000) (hk:k≤1000000) (he:e≤16777216) (hf:f≤16777216) :
 Pure prog 227 [poA p,tmA t] (poA (Zbk mulM p t)):=by
 obtain⟨t1,t2⟩:=t;refine pI func227 rfl ntmps227 results227 call227 ?_;(focus (refine wkad (w_1 @Zbq) w_t w_t ?_;(repeat' first|exact w_t|apply w_l);all_goals intros));rename_i g3;refine Zc7 (Frz.nilOwn (d:=5) 100 4 280 (gC)) ?_;refine Zab (ι:=Nat) (λi e m=>i≤p.length∧e 3=.pbox 3 g3 0∧m 3=some (.box g3 280 [.v (.bool (decide (t1.num < 0))),lim (toL t1.num.natAbs),lim (toL t1.den),ivs t2] false)∧e 0=poA p∧e 6=iv i∧∃sv,e 5=.own 100 sv∧m 100=some (.row sv 280 4 ((Zbk mulM (p.take i) (t1,t2)).map tmA) 0)) (λi=>p.length - i) 0 zr ?_ ?_
 ·rintro i e m ⟨hi,e3,m3,e0,e6,sv,e5,m11⟩
  by_cases hlt:i < p.length
  ·have hg:=Zac tmA hlt;have hs:=poTimes1 (t:=(t1,t2)) hlt;have ms:=hp _ (Zzm hlt);have m1:=hp.sm he (Zzm hlt);have m2:=ht.sm hf (.head _);have mt:=(ht _ (.head _)).1;have hl:(Zbk mulM (p.take i) (t1,t2)).length≤1000000:=by rw [Zg4,Zzh];omega
   generalize p[i]=s at *;have c1:=qMul s.1 t1 ms.1 mt zo zo;have c3:Pure prog 240 [ivs s.2,ivs t2] (ivs (mulM s.2 t2)):=mrMul s.2 t2 m1.wd m2.wd;obtain⟨s1,s2⟩:=s;simp only at *;clear ms m1 m2 mt;generalize s1*t1=z at *;generalize mulM s2 t2=w at *;generalize Zbk mulM (p.take i) (t1,t2)=out at *;(focus (refine wkad (w_8 e3 m3 e0 e6 e5 m11 hg @Zbq) (w_2 c1 c3) (w_1 (w_d 5 [(8,ratQ z),(16,ivs w)] [19,1019] [100,31])) ?_;(repeat' first|exact w_t|apply w_l);all_goals intros));exact⟨i+1,⟨zo,gW e3,gW m3,gW e0,gS,_,gC,by rw [hs,Zzz];exact gC⟩,zo⟩
  ·have hi2:i=p.length:=zo;subst hi2;rw [ZAw] at m11;(focus (refine wkld (w_7 e3 m3 e0 e6 e5 m11 @Zbq) w_t (w_1 m11) w_t ?_;(repeat' first|exact w_t|apply w_l);all_goals intros))
 ·exact⟨Zzb _,gC,gC,gC,gC,_,gC,by(simp (disch:=omega) only [go_sem,ZBx,Zbk,ZAg]<;>repeat' first|rfl|refine⟨?_,?_⟩)⟩
theorem Ztv {p:Po} {a:Rat} {i:Nat} (hi:i < p.length):Zb3 a (p.take (i+1))=Zb3 a (p.take i)++[(p[i].1*a,p[i].2)]:=by
 unfold Zb3;rw [ZCe hi,Zzz];rfl
theorem rpScale0 (p:Po) (a:Rat) {j k e:Nat} (hp:PK p j e) (ha:Sz a k) (lp:p.length≤1000000) (hj:j≤1000000) (hk:k≤1000000) (h:a≠0) :
 Pure prog 202 [poA p,ratQ a] (poA (Zb3 a p)):=by
 have cs:=Zwm a ha zo;have hz:¬a.num.sign=0:=by rw [Zoe];exact h
 generalize a.num.sign=sg at *;refine pI func202 rfl ntmps202 results202 call202 ?_;(focus (refine wkad (w_1 @Zbq) w_t w_t ?_;(repeat' first|exact w_t|apply w_l);all_goals intros));rename_i g3;refine Zc7 (Frz.nilOwn (d:=5) 100 4 280 (gC)) ?_;refine Zab (ι:=Nat) (λi e m=>i≤p.length∧e 3=.pbox 3 g3 0∧m 3=some (.box g3 28 [.v (.bool (decide (a.num < 0))),lim (toL a.num.natAbs),lim (toL a.den)] false)∧e 0=poA p∧e 6=iv i∧∃sv,e 5=.own 100 sv∧m 100=some (.row sv 280 4 ((Zb3 a (p.take i)).map tmA) 0)) (λi=>p.length - i) 0 zr ?_ ?_
 ·rintro i e m ⟨hi,e3,m3,e0,e6,sv,e5,m11⟩
  by_cases hlt:i < p.length
  ·have hg:=Zac tmA hlt;have hs:=Ztv (a:=a) hlt;have ms:=(hp _ (Zzm hlt)).1;have hl:(Zb3 a (p.take i)).length≤1000000:=by rw [Zgm,Zzh];omega
   generalize p[i]=s at *;have c1:=qMul s.1 a ms ha zo zo;obtain⟨s1,s2⟩:=s;simp only at *;clear ms;generalize s1*a=z at *;generalize Zb3 a (p.take i)=out at *;(focus (refine wkad (w_8 e3 m3 e0 e6 e5 m11 hg @Zbq) (w_2 c1 cs) (w_1 (w_d 5 [(7,ratQ z)] [15,1015] [100,32])) ?_;(repeat' first|exact w_t|apply w_l);all_goals intros));exact⟨i+1,⟨zo,gW e3,gW m3,gW e0,gS,_,gC,by rw [hs,Zzz];exact gC⟩,zo⟩
  ·have hi2:i=p.length:=zo;subst hi2;rw [ZAw] at m11;(focus (refine wkld (w_7 e3 m3 e0 e6 e5 m11 @Zbq) w_t (w_1 m11) w_t ?_;(repeat' first|exact w_t|apply w_l);all_goals intros))
 ·exact⟨Zzb _,gC,gC,gC,gC,_,gC,by(simp (disch:=omega) only [go_sem,ZBx,Zb3,ZAg]<;>repeat' first|rfl|refine⟨?_,?_⟩)⟩
theorem rpNeg (p:Po) {j e:Nat} (hp:PK p j e) (lp:p.length≤1000000) (hj:j≤1000000):Pure prog 226 [poA p] (poA (Zb3 (-1) p)):=by
 have c:=rpScale0 p (-1) hp ((Zkx 1 zo).neg) lp hj zo neg1;have co:=qOfM;generalize Zb3 (-1) p=r at *;generalize (-1:Rat)=q at *;refine pI func226 rfl ntmps226 results226 call226 ?_;(focus (refine wklp w_t (w_2 co c) w_t (w_r 0) ?_;(repeat' first|exact w_t|apply w_l);all_goals intros))
theorem Zty (p q:Po) {j k e:Nat} (hp:PK p j e) (hq:PK q k e) (sp:SrtM p) (sq:SrtM q) (lp:p.length≤1000000) (lq:q.length≤1000000) (hj:j≤1000000) (hk:k≤1000000) (he:e≤16777216) :
 Pure prog 196 [poA p,poA q] (poA (subM p q)):=by
 have c1:=rpNeg q hq lq hk;have c2:=Zoi p (Zb3 (-1) q) hp hq.neg sp (Ze1 sq neg1) lp (by rw [Zgm];exact lq) hj hk he;show Pure _ _ _ (poA (addM p (Zb3 (-1) q)));generalize Zb3 (-1) q=n at *;generalize addM p n=r at *;refine pI func196 rfl ntmps196 results196 call196 ?_;(focus (refine wklp w_t (w_2 c1 c2) w_t (w_r 0) ?_;(repeat' first|exact w_t|apply w_l);all_goals intros))
theorem Zo9 {p q:Po} {i:Nat} (hi:i < q.length):mlM p (q.take (i+1))=addM (mlM p (q.take i)) (Zbk mulM p q[i]):=by
 unfold mlM mulR;rw [ZCe hi,List.foldl_append];rfl
theorem Zj0 {q:Po} (h:SrtM q) (i:Nat):SrtM (q.take i):=⟨λt ht=>h.1 t (ZAe ht),List.Pairwise.sublist (List.take_sublist i q) h.2⟩
theorem rpMul (p q:Po) {j k e f K E:Nat} (hp:PK p j e) (hq:PK q k f) (sp:SrtM p) (sq:SrtM q) (lp:p.length≤1000000) (lq:q.length≤1000000) (hj:j≤500000) (hk:k≤500000) (he:e≤8000000) (hf:f≤8000000)
 (ho:∀i,PK (mlM p (q.take i)) K E∧(mlM p (q.take i)).length≤1000000) (hK:K≤1000000) (hE:E≤16777216) :
 Pure prog 197 [poA p,poA q] (poA (mlM p q)):=by
 refine pI func197 rfl ntmps197 results197 call197 ?_;(focus (refine wkap (w_1 @Zbq) w_t (w_r 0) ?_;(repeat' first|exact w_t|apply w_l);all_goals intros));refine Zc7 (Frz.nil (d:=5) 4 (gC)) ?_;refine Zab (ι:=Nat) (λi e' m=>i≤q.length∧e' 0=poA p∧e' 1=poA q∧e' 6=iv i∧e' 5=poA (mlM p (q.take i))) (λi=>q.length - i) 0 zr ?_ ?_
 ·rintro i e' m ⟨hi,e0,e1,e6,e5⟩
  by_cases hlt:i < q.length
  ·have hg:=Zac tmA hlt;have ht:PK [q[i]] k f:=λu hu=>by rw [ZBa] at hu;subst hu;exact hq _ (Zzm hlt)
   have c1:=rpTimes p q[i] hp ht lp zo zo zo zo;have c2:=Zoi (mlM p (q.take i)) (Zbk mulM p q[i]) (k:=j+k) (e:=max E (e+f)) ((ho i).1.mono (Zy5 _) zo) ((hp.times ht).mono (Zy5 _) zo) (Zes ordM mulK sp (Zj0 sq i)) (Zib mulK sp (sq.1 _ (Zzm hlt)).1 (sq.1 _ (Zzm hlt)).2) (ho i).2 (by rw [Zg4];exact lp) hK zo zo;rw [←Zo9 hlt] at c2;generalize q[i]=t at *;obtain⟨t1,t2⟩:=t;generalize Zbk mulM p (t1,t2)=w at *;generalize mlM p (q.take i)=out at *;generalize hout:mlM p (q.take (i+1))=out' at *;(focus (refine wkap (w_6 e0 e1 e6 e5 hg @Zbq) (w_2 c1 c2) (w_r 0) ?_;(repeat' first|exact w_t|apply w_l);all_goals intros))
   exact⟨i+1,⟨zo,gW e0,gW e1,gS,by rw [hout];exact gC⟩,zo⟩
  ·have hi2:i=q.length:=zo;subst hi2;rw [ZAw] at e5;(focus (refine wklp (w_5 e0 e1 e6 e5 @Zbq) w_t w_t (w_r 0) ?_;(repeat' first|exact w_t|apply w_l);all_goals intros))
 ·exact⟨Zzb _,gC,gC,gC,by(simp (disch:=omega) only [go_sem,ZBx,mlM,mulR,List.foldl_nil,ZAg]<;>repeat' first|rfl|refine⟨?_,?_⟩)⟩
theorem Zr1 (c:Rat) (m:List Int) {k:Nat} (hc:Sz c k) (hk:k≤1000000):Pure prog 225 [.v (.slice none 0 0),ratQ c,ivs m] (poA (if c=0 then [] else [(c,m)])):=by
 have cs:=Zwm c hc zo;have cn:=Zt1 c hc zo;by_cases h:c=0
 ·rw [Zy1 h];have hz:c.num.sign=0:=by rw [Zoe];exact h
  refine pI func225 rfl ntmps225 results225 call225 ?_;(focus (refine wkax (w_1 hz) (w_1 cs) w_t w_t w_t w_t w_y (w_r 2) ?_;(repeat' first|exact w_t|apply w_l);all_goals intros))
  (all_goals (try simp (disch:=omega) only [go_sem,Zy6,Zy2,Zy1,Zy0,Int.reduceAdd,Int.reduceSub,Int.reduceToNat,Zzd]));(all_goals first|done|rfl|(congr 2;first|done|omega|(rw [Zzy];simp only [bool_to_prop,Zzf,Zz4,Zz5,Zz6,Zz7];omega))|skip)
 ·rw [Zy0 h];have hz:¬c.num.sign=0:=by rw [Zoe];exact h
  generalize c.num.sign=z at *;refine pI func225 rfl ntmps225 results225 call225 ?_;(focus (refine wkax w_t (w_2 cs cn) w_t w_t w_t w_t w_y (w_r 2) ?_;(repeat' first|exact w_t|apply w_l);all_goals intros))
  (all_goals (try simp (disch:=omega) only [go_sem,Zy6,Zy2,Zy1,Zy0,Int.reduceAdd,Int.reduceSub,Int.reduceToNat,Zzd]));(all_goals first|done|rfl|(congr 2;first|done|omega|(rw [Zzy];simp only [bool_to_prop,Zzf,Zz4,Zz5,Zz6,Zz7];omega))|skip)
theorem rpVar (v:Nat) (hv:v < 1000):Pure prog 198 [iv v] (poA (varM v)):=by
 unfold varM;by_cases h:v < 64
 ·rw [Zy1 h];have c1:=qOf 1 zo;rw [show((1:Nat):Rat)=1 from rfl] at c1;have c2:=Zr1 1 (Zfl v) (Zkx 1 zo) zo;rw [Zy0 (show(1:Rat)≠0 by decide)] at c2;have hu:(iv 0 :: List.replicate v (iv 0)).set v (iv 1)=(Zfl v).map iv:=by rw [←List.replicate_succ];exact unit_set v
  generalize (1:Rat)=q at *;have hl:(List.replicate (v+1) (iv 0)).length=v+1:=by simp
  refine pI func198 rfl ntmps198 results198 call198 ?_;(focus (refine wkax (w_2 hl hu) (w_1 c1) w_t (w_1 c2) w_t w_t w_y (w_r 0) ?_;(repeat' first|exact w_t|apply w_l);all_goals intros))
  (all_goals (try simp (disch:=omega) only [go_sem,Zy6,Zy2,Zy1,Zy0,Int.reduceAdd,Int.reduceSub,Int.reduceToNat,Zzd]));(all_goals first|done|rfl|(congr 2;first|done|omega|(rw [Zzy];simp only [bool_to_prop,Zzf,Zz4,Zz5,Zz6,Zz7];omega))|skip)
 ·rw [Zy0 h];refine Zcm (r:=.v (.slice none 0 0)) ?_ (.nil 4);refine pI func198 rfl ntmps198 results198 call198 ?_;(focus (refine wklp w_t w_t w_t (w_r 0) ?_;(repeat' first|exact w_t|apply w_l);all_goals intros))
theorem Zv0 (c:Rat) {k:Nat} (hc:Sz c k) (hk:k≤1000000):Pure prog 190 [ratQ c] (poA (if c=0 then [] else [(c,[])])):=by
 have c2:=Zr1 c [] hc hk;have c2:=Zm6 c2 (.cons (.refl _) (.cons (.refl _) (.cons (.nil 1) .nil)));generalize (if c=0 then [] else [(c,[])])=r at *;refine pI func190 rfl ntmps190 results190 call190 ?_;(focus (refine wklp w_t (w_1 c2) w_t (w_r 0) ?_;(repeat' first|exact w_t|apply w_l);all_goals intros))
attribute [go_sem] underlying275 underlying60 underlying203 underlying59 underlying62 zVar zSlV zSlC
attribute [local go_sem] Zbt Zbm Zbo Za3 Za4 Zb8 Zca Zbx Zb9 Zft Zf1 Zen Zcb Zcf Zdh Zeo Zbs Zcs
theorem Sub.nil (m:Nat):Sub (.v (.slice none 0 0)) (.sl m []):=λw imm x h=>by
 rw [h.v_inv];exact .pure ((Wk.nil m).rd (.v _))
theorem Sub.agg2 {a b a' b':AV} (h:Sub a a') (k:Sub b b'):Sub (.agg [a,b]) (.agg [a',b']):=Sub.agg _ _ rfl λj x y h1 h2=>by
 match j with
 | 0=>simp at h1 h2;subst h1;subst h2;exact h
 | 1=>simp at h1 h2;subst h1;subst h2;exact k
 | j+2=>simp at h1
theorem Zia {σ:Mem} {k:Nat} {e:Ent} (h:σ k=some e):upd σ k (some e)=σ:=by
 funext j;rw [Zal];split
 ·subst_vars;exact h.symm
 ·rfl
theorem Zcd {K c:Nat} (h:c < 1000):(K+1000 == c)=false:=by rw [ZD0];omega
theorem Zrt {a b:List Nat} (h:u16s a=u16s b):a=b:=by
 induction a generalizing b with
 | nil=>cases b with
   | nil=>rfl
   | cons y b=>simp [u16s] at h
 | cons x a ih=>cases b with
   | nil=>simp [u16s] at h
   | cons y b =>
     rw [Zvc,Zvc] at h;simp only [List.cons.injEq,AV.v.injEq,Value.int.injEq,true_and] at h;rw [ih h.2,show x=y by omega]
theorem RQ.ok_eq {r:RQ} {k:Nat} (hl:r.lm k) (h:r.ok=true):r=⟨decide (r.q.num < 0),toL r.q.num.natAbs,toL r.q.den⟩:=by
 have h1:=(RQ.ok_av hl h).1;simp only [RQ.av,ratQ,AV.agg.injEq,List.cons.injEq,AV.v.injEq,Value.bool.injEq,lim,AV.sl.injEq,true_and,and_true] at h1;obtain⟨s,l,d⟩:=r;simp only at h1;rw [RQ.mk.injEq];exact⟨h1.1,Zrt h1.2.1,Zrt h1.2.2⟩
section
attribute [local go_sem] underlying3 underlying4 underlying125 underlying9 underlying53 underlying41 underlying28 underlying26 underlying24 underlying78 underlying46 underlying49 underlying275 underlying60 underlying203 underlying59 underlying62 underlying157 underlying280 sz3 by3 z3 szB zB Zbt zErr Zbm Zbo zStr Za6 zRat Zba zInt Za9 zNat Za3 Za4 Zb8 Zca zFig Zbx zSlI Zb9 zSlS Zft Zf1 zVar Zen zSlV Zcb Zcf Zdh Zeo zSlC Zbs Zcs Zcu Zcz Zem Zct Zel
end
theorem PK.sub {p q:Po} {j k e:Nat} (hp:PK p j e) (hq:PK q k e):PK (subM p q) (j+k+1) e:=hp.add hq.neg
theorem PK.scl {p:Po} {j k e:Nat} {a:Rat} (hp:PK p j e) (ha:Sz a k):PK (sclM a p) (j+k) e:=by
 unfold sclM;split
 ·exact .nil
 ·exact hp.scale ha
theorem PK.mulV {p:Po} {j e v:Nat} (hp:PK p j e):PK (mlM p (varM v)) (j+1) (e+1):=by
 rw [Zq1];split
 ·refine hp.times (t:=(1,Zfl v)) λu hu=>?_;rw [ZBa] at hu;subst hu;have h:=Zpz v (1,Zfl v) (by unfold varM;rw [Zy1 (by assumption)];exact .head _);exact h
 ·exact .nil
theorem Zkj {a:Rat} {p:Po} (h:SrtM p):SrtM (sclM a p):=by
 unfold sclM;split
 ·exact .nil
 ·exact Ze1 h ‹_›
theorem Zp9 (a:Rat) (p:Po):(sclM a p).length≤p.length:=by
 unfold sclM;split
 ·simp
 ·rw [Zgm];exact Zy5 _
theorem Zj2 (p:Po) (v:Nat):(mlM p (varM v)).length≤p.length:=by
 rw [Zq1];split
 ·rw [Zg4];exact Zy5 _
 ·simp
theorem Zhx (p q:Po):(subM p q).length≤p.length+q.length:=by
 have:=Zj8 (lt:=ltM) p (Zb3 (-1) q);rw [Zgm] at this;exact this
structure Co (p:Po):Prop where
 pk:PK p 110 1
 st:SrtM p
 ln:p.length≤4000
structure StOk (cs:List (Po × Po)) (s:RS):Prop where
 k0:0≤arS s.k
 al:(s.ar.length:Int)=arS s.k
 ai:∀k,k < s.ar.length→0≤gI s.ar k∧gI s.ar k < (cs.length:Int)
 r2:s.k=2→s.r.ok=true
 rl:s.r.lm 2
section
attribute [local go_sem] underlying3 underlying4 underlying125 underlying9 underlying53 underlying41 underlying28 underlying26 underlying24 underlying78 underlying46 underlying49 underlying275 underlying60 underlying203 underlying59 underlying62 underlying157 underlying280 sz3 by3 z3 szB zB Zbt zErr Zbm Zbo zStr Za6 zRat Zba zInt Za9 zNat Za3 Za4 Zb8 Zca zFig Zbx zSlI Zb9 zSlS Zft Zf1 zVar Zen zSlV Zcb Zcf Zdh Zeo zSlC Zbs Zcs Zcu Zcz Zem Zct Zel
end
abbrev frmA (cs:List (Po × Po)) (vs:List Vt):AV:=.agg [.sl 2 (cs.map coA),.sl 3 (vs.map Vt.av)]
def parsN (l:List Vt) (i:Nat):List Int:=((List.range i).filter λj=>decide ((l.getD j (0,0,0)).1=1)).map λn:Nat=>(n:Int)
def cnt1 (l:List Vt):Nat:=(l.filter λv=>decide (v.1=1)).length
def cF (ss:List RS):Nat→Nat
 | 0=>0
 | i+1=>cF ss i+if (ss.getD i RS.zero).k=1 then 1 else 0
def cP (ss:List RS):Nat→Nat
 | 0=>0
 | i+1=>cP ss i+if (ss.getD i RS.zero).k=5∨(ss.getD i RS.zero).k=6 then 1 else 0
def cD (ss:List RS):Nat→Nat
 | 0=>0
 | i+1=>cD ss i+if (ss.getD i RS.zero).k=1∨(ss.getD i RS.zero).k=2∨(ss.getD i RS.zero).k=3∨(ss.getD i RS.zero).k=4∨(ss.getD i RS.zero).k=5 then 0 else 2
theorem Zx4 (ss:List RS):∀i,(frN ss i).fr≤i
 | 0=>Zy5 _
 | i+1=>by
   have:=Zx4 ss i;unfold frN;simp only [FS.push];split<;>omega
theorem Zsk (ss:List RS):∀i k,nfN ss i≤nfN ss (i+k)
 | i,0=>Zy5 _
 | i,k+1=>Zzg (Zsk ss i k) (by show _≤nfN ss (i+k)+_;omega)
structure FigOk (ss:List RS):Prop where
 len:ss.length≤40
 er:∀i,i < ss.length→errS ss i=0
 lm:∀s∈ss,s.r.lm 2
 nf:nfN ss ss.length≤20
theorem FigOk.fi {ss:List RS} (h:FigOk ss) {i:Nat} (hi:i≤ss.length) (hj:∀j,j < i→bigN ss j=false):∃D,FI (frN ss i) (nfN ss i) D∧nfN ss i≤20:=by
 have hr:∀s∈ss,s.k=2→s.r.ok=true:=λs hs=>by
  obtain⟨j,hj,rfl⟩:=List.mem_iff_getElem.1 hs;exact(Zle hj (h.er j hj)).2.2.2
 obtain⟨D,hD⟩:=frN_ok ss hr (λs hs=>lm_bd (h.lm s hs)) i hi hj;refine⟨D,hD,Zzg ?_ h.nf⟩;have:=Zsk ss i (ss.length - i)
 rwa [show i+(ss.length - i)=ss.length by omega] at this
theorem FI.co {f:FS} {n D:Nat} (h:FI f n D) (hn:n≤20):∀c∈f.cs,Co c.1∧Co c.2:=λc hc=>by
 obtain⟨h1,h2⟩:=h.cs c hc;obtain⟨l1,l2⟩:=h.ln c hc;have hv:=h.nv;exact⟨⟨h1.pk zo h.D0 h.Dl hn,h1.1,l1⟩,⟨h2.pk zo h.D0 h.Dl hn,h2.1,l2⟩⟩
theorem FigOk.st {ss:List RS} (h:FigOk ss) {i:Nat} (hi:i < ss.length):StOk (frN ss i).cs ss[i]:=by
 obtain⟨h1,h2,h3,h4⟩:=Zle hi (h.er i hi);exact⟨h1,h2,λk hk=>by rw [Zh5];exact h3 k hk,h4,h.lm _ (Zzm hi)⟩
theorem Zir {ss:List RS} {i:Nat} (hi:i < ss.length):frN ss (i+1)=⟨(frN ss i).cs++[((frN ss i).nxt i ss[i]).2],(frN ss i).vs++((frN ss i).nxt i ss[i]).1,if ss[i].k=1 then (frN ss i).fr+1 else (frN ss i).fr⟩:=by
 show(frN ss i).push i (ss.getD i RS.zero)=_;rw [show ss.getD i RS.zero=ss[i] from by rw [Zzc,Zy4 hi];rfl];rfl
theorem Zyq {ss:List RS} {i:Nat} (hi:i < ss.length):bigN ss i=(decide (64 < ((frN ss i).vs++((frN ss i).nxt i ss[i]).1).length) || decide (4000 < ((frN ss i).nxt i ss[i]).2.1.length) || decide (4000 < ((frN ss i).nxt i ss[i]).2.2.length)):=by
 unfold bigN;rw [Zir hi,show ss.getD i ⟨0,.empty,[],⟨false,[],[]⟩⟩=ss[i] from by rw [Zzc,Zy4 hi];rfl]
theorem Zsi (f:FS) (i:Nat) (s:RS):(f.nxt i s).1.length≤3:=by
 unfold FS.nxt;simp only
 repeat' split
 all_goals simp
structure PB (p:Po) (n j e:Nat):Prop where
 s:SrtM p
 k:PK p j e
 l:p.length≤n
theorem PB.mono {p:Po} {n j e m i f:Nat} (h:PB p n j e) (hn:n≤m) (hj:j≤i) (he:e≤f):PB p m i f:=⟨h.s,h.k.mono hj he,Zzg h.l hn⟩
theorem PB.nil {n j e:Nat}:PB [] n j e:=⟨.nil,.nil,Zzb _⟩
theorem PB.add {p q:Po} {n j e m k f:Nat} (h:PB p n j e) (g:PB q m k f):PB (addM p q) (n+m) (j+k+1) (max e f) :=
 ⟨Zc0 ordM h.s g.s,(h.k.mono (Zy5 _) (Nat.le_max_left ..)).add (g.k.mono (Zy5 _) (Nat.le_max_right ..)),Zzg (Zj8 p q) (ZDm h.l g.l)⟩
theorem PB.neg {p:Po} {n j e:Nat} (h:PB p n j e):PB (Zb3 (-1) p) n j e:=⟨Ze1 h.s neg1,h.k.neg,by rw [Zgm];exact h.l⟩
theorem PB.sub {p q:Po} {n j e m k f:Nat} (h:PB p n j e) (g:PB q m k f):PB (subM p q) (n+m) (j+k+1) (max e f):=h.add g.neg
theorem PB.times {p:Po} {t:Tm} {n j e k f:Nat} (h:PB p n j e) (ht:PK [t] k f) (h0:t.1≠0) (hd:Can t.2):PB (Zbk mulM p t) n (j+k) (e+f) :=
 ⟨Zib mulK h.s h0 hd,h.k.times ht,by rw [Zg4];exact h.l⟩
theorem PB.take {q:Po} {m k f:Nat} (g:PB q m k f) (i:Nat):PB (q.take i) m k f :=
 ⟨Zj0 g.s i,λt ht=>g.k t (ZAe ht),by rw [Zzh];have:=g.l;omega⟩
theorem PB.one {q:Po} {m k f:Nat} (g:PB q m k f) {t:Tm} (ht:t∈q):PK [t] k f:=λu hu=>by rw [ZBa] at hu;subst hu;exact g.k _ ht
theorem Zq2 {p q:Po} {n j e m k f:Nat} (h:PB p n j e) (g:PB q m k f):∀i,i≤q.length→PB (mlM p (q.take i)) (n*i) (i*(j+k+1)) (e+f)
 | 0,_=>by rw [ZBx];exact .nil
 | i+1,hi=>by
   rw [Zo9 hi];have h1:=Zq2 h g i zo;have h2:=h.times (g.one (Zzm hi)) (g.s.1 _ (Zzm hi)).1 (g.s.1 _ (Zzm hi)).2;refine(h1.add h2).mono ?_ ?_ ?_
   ·rw [Nat.mul_succ];omega
   ·rw [Nat.succ_mul];omega
   ·omega
theorem Zq3 {p q:Po} {n j e m k f:Nat} (h:PB p n j e) (g:PB q m k f) (i:Nat):PB (mlM p (q.take i)) (n*m) (m*(j+k+1)) (e+f):=by
 by_cases hi:i≤q.length
 ·have hm:=g.l;exact(Zq2 h g i hi).mono (ZBz _ zo) (Zzx _ zo) (Zy5 _)
 ·rw [ZA4 zo];have:=Zq2 h g q.length (Zy5 _);rw [ZAw] at this;exact this.mono (ZBz _ g.l) (Zzx _ g.l) (Zy5 _)
theorem PB.mul {p q:Po} {n j e m k f:Nat} (h:PB p n j e) (g:PB q m k f):PB (mlM p q) (n*m) (m*(j+k+1)) (e+f):=by
 have:=Zq3 h g q.length
 rwa [ZAw] at this
theorem Zxw {p q:Po} {n j e m k f:Nat} (h:PB p n j e) (g:PB q m k f) (hn:n≤1000000) (hm:m≤1000000) (hj:j≤1000000) (hk:k≤1000000) (he:e≤100) (hf:f≤100) :
 True∧Pure prog 200 [poA p,poA q] (poA (addM p q)) :=
 have l1:=h.l;have l2:=g.l
 ⟨trivial,Zoi p q (h.k.mono (Zy5 _) he) (g.k.mono (Zy5 _) hf) h.s g.s zo zo hj hk zo⟩
theorem Zpm {p q:Po} {n j e m k f:Nat} (h:PB p n j e) (g:PB q m k f) (hn:n≤1000000) (hm:m≤1000000) (hj:j≤1000000) (hk:k≤1000000) (he:e≤100) (hf:f≤100) :
 True∧Pure prog 196 [poA p,poA q] (poA (subM p q)) :=
 have l1:=h.l;have l2:=g.l
 ⟨trivial,Zty p q (h.k.mono (Zy5 _) he) (g.k.mono (Zy5 _) hf) h.s g.s zo zo hj hk zo⟩
theorem Zlw {p q:Po} {n j e m k f:Nat} (h:PB p n j e) (g:PB q m k f) (hn:n≤1000000) (hm:m≤1000000) (hj:j≤500000) (hk:k≤500000) (he:e≤100) (hf:f≤100) (hnm:n*m≤1000000) (hK:min n m*(j+k+1)≤1000000) (hR:m*(j+k+1)≤1000000) :
 True∧Pure prog 197 [poA p,poA q] (poA (mlM p q)) :=
 have l1:=h.l;have l2:=g.l
 ⟨trivial,
  rpMul p q h.k g.k h.s g.s zo zo hj hk zo zo (λi=>⟨(Zq3 h g i).k,Zzg (Zq3 h g i).l hnm⟩) hR zo⟩
abbrev Pt:=Po × Po
abbrev dfM (a b:Pt):Pt:=(subM b.1 a.1,subM b.2 a.2)
def Zb7 (a b c d:Pt):Po:=subM (mlM (subM b.1 a.1) (subM d.2 c.2)) (mlM (subM b.2 a.2) (subM d.1 c.1))
def dotM (a b c d:Pt):Po:=addM (mlM (subM b.1 a.1) (subM d.1 c.1)) (mlM (subM b.2 a.2) (subM d.2 c.2))
def dblM (p:Po):Po:=addM p p
abbrev oneM:Po:=[(1,[])]
def Zea (t:Po):Po:=addM oneM (mlM t t)
def Zuq (o a x:Pt) (t:Po):List Po :=
 let s:=dblM (addM (subM o.1 a.1) (mlM t (subM o.2 a.2)))
 [subM (mlM (Zea t) (subM x.1 a.1)) s,subM (mlM (Zea t) (subM x.2 a.2)) (mlM t s)]
def Zoy (p q o x:Pt):List Po :=
 let n:=dotM p q p q
 let s:=dblM (dotM p o p q)
 [subM (mlM n (subM x.1 p.1)) (mlM s (subM q.1 p.1)),subM (mlM n (subM x.2 p.2)) (mlM s (subM q.2 p.2))]
def Zdv (a b c d:Pt):Po:=subM (dotM a b a b) (dotM c d c d)
def eqsM (k:Int) (a b c d x:Pt) (t:Po):List Po :=
 if k=6 then Zuq a b x t
 else if k=7 then [Zb7 b c b x,dotM b c a x]
 else if k=8 then [dotM b c a x,addM (Zb7 b c b a) (Zb7 b c b x)]
 else if k=9 then [Zb7 a b a x,Zb7 c d c x]
 else if k=10 then Zoy a b c x
 else if k=11 then [Zdv a x b x,Zdv a x c x]
 else if k=12 then [Zb7 a b a x,Zdv c x c d]
 else if k=13 then [Zdv a x a b,Zdv c x c d]
 else if k=14 then [Zdv a x a b,Zdv b x a b]
 else []
structure CB (c:Pt):Prop where
 x:PB c.1 8 110 8
 y:PB c.2 8 110 8
theorem CB.df {a b:Pt} (h:CB a) (g:CB b):PB (subM b.1 a.1) 16 221 8∧PB (subM b.2 a.2) 16 221 8:=⟨(g.x.sub h.x).mono zo zo zo,(g.y.sub h.y).mono zo zo zo⟩
theorem PB.m2 {p q:Po} (h:PB p 16 221 8) (g:PB q 16 221 8):PB (mlM p q) 256 7088 16:=(h.mul g).mono zo zo zo
theorem CB.cross {a b c d:Pt} (ha:CB a) (hb:CB b) (hc:CB c) (hd:CB d):PB (Zb7 a b c d) 512 14177 16 :=
 (((ha.df hb).1.m2 (hc.df hd).2).sub ((ha.df hb).2.m2 (hc.df hd).1)).mono zo zo zo
theorem CB.dot {a b c d:Pt} (ha:CB a) (hb:CB b) (hc:CB c) (hd:CB d):PB (dotM a b c d) 512 14177 16 :=
 (((ha.df hb).1.m2 (hc.df hd).1).add ((ha.df hb).2.m2 (hc.df hd).2)).mono zo zo zo
theorem PB.dbl {p:Po} {n j e:Nat} (h:PB p n j e):PB (dblM p) (n+n) (j+j+1) (max e e):=h.add h
theorem one_pb:PB oneM 1 1 0:=by
 refine⟨Srt.nil.cons zd Zrl zs,λt ht=>?_,by simp⟩;rw [ZBa] at ht;subst ht;exact⟨Zkx 1 zo,by simp,λj=>by rw [Zc5 (Zzb _)];omega⟩
theorem Zu6 (v:Nat):PB (varM v) 1 1 1:=⟨Zfc v,Zpz v,by unfold varM;split<;>simp⟩
theorem one_mul {p:Po} (h:SrtM p):mlM oneM p=p:=by
 rw [Zo7 zd h];unfold Zb3
 conv=>rhs;rw [←List.map_id p]
 exact ZBp λt ht=>by show(t.1*1,t.2)=t;rw [Rat.mul_one]
theorem CB.subs {a b:Pt} (ha:CB a) (hb:CB b):(True∧Pure prog 196 [poA b.1,poA a.1] (poA (subM b.1 a.1)))∧(True∧Pure prog 196 [poA b.2,poA a.2] (poA (subM b.2 a.2))) :=
 ⟨Zpm hb.x ha.x zo zo zo zo zo zo,Zpm hb.y ha.y zo zo zo zo zo zo⟩
theorem hpM2 {p q:Po} (h:PB p 16 221 8) (g:PB q 16 221 8):True∧Pure prog 197 [poA p,poA q] (poA (mlM p q)) :=
 Zlw h g zo zo zo zo zo zo zo zo zo
theorem Zgn {a b c d:Pt} (ha:CB a) (hb:CB b) (hc:CB c) (hd:CB d):Pure prog 146 [coA a,coA b,coA c,coA d] (poA (Zb7 a b c d)):=by
 obtain⟨⟨-,s1⟩,-,s2⟩:=ha.subs hb;obtain⟨⟨-,t1⟩,-,t2⟩:=hc.subs hd;obtain⟨x1,y1⟩:=ha.df hb;obtain⟨x2,y2⟩:=hc.df hd;have m1:=(hpM2 x1 y2).2;have m2:=(hpM2 y1 x2).2;have s:=(Zpm (x1.m2 y2) (y1.m2 x2) zo zo zo zo zo zo).2;rw [show subM (mlM (subM b.1 a.1) (subM d.2 c.2)) (mlM (subM b.2 a.2) (subM d.1 c.1))=Zb7 a b c d from rfl] at s;generalize Zb7 a b c d=r at *;clear x1 y1 x2 y2 ha hb hc hd;generalize mlM (subM b.1 a.1) (subM d.2 c.2)=p at *;generalize mlM (subM b.2 a.2) (subM d.1 c.1)=q at *;generalize subM b.1 a.1=u1 at *;generalize subM b.2 a.2=u2 at *;generalize subM d.1 c.1=v1 at *;generalize subM d.2 c.2=v2 at *
 obtain⟨a1,a2⟩:=a;obtain⟨b1,b2⟩:=b;obtain⟨c1,c2⟩:=c;obtain⟨d1,d2⟩:=d
 try simp only at *
 refine pI func146 rfl ntmps146 results146 call146 ?_;(focus (refine wkld w_t (w_7 s1 s2 t1 t2 m1 m2 s) w_t (w_1 (w_d 1 [(4,poA u1),(9,poA v2),(10,poA p),(15,poA u2),(20,poA v1),(21,poA q),(22,poA r)] [] [])) ?_;(repeat' first|exact w_t|apply w_l);all_goals intros))
theorem rhDot {a b c d:Pt} (ha:CB a) (hb:CB b) (hc:CB c) (hd:CB d):Pure prog 195 [coA a,coA b,coA c,coA d] (poA (dotM a b c d)):=by
 obtain⟨⟨-,s1⟩,-,s2⟩:=ha.subs hb;obtain⟨⟨-,t1⟩,-,t2⟩:=hc.subs hd;obtain⟨x1,y1⟩:=ha.df hb;obtain⟨x2,y2⟩:=hc.df hd;have m1:=(hpM2 x1 x2).2;have m2:=(hpM2 y1 y2).2;have s:=(Zxw (x1.m2 x2) (y1.m2 y2) zo zo zo zo zo zo).2;rw [show addM (mlM (subM b.1 a.1) (subM d.1 c.1)) (mlM (subM b.2 a.2) (subM d.2 c.2))=dotM a b c d from rfl] at s;generalize dotM a b c d=r at *;clear x1 y1 x2 y2 ha hb hc hd;generalize mlM (subM b.1 a.1) (subM d.1 c.1)=p at *;generalize mlM (subM b.2 a.2) (subM d.2 c.2)=q at *;generalize subM b.1 a.1=u1 at *;generalize subM b.2 a.2=u2 at *;generalize subM d.1 c.1=v1 at *;generalize subM d.2 c.2=v2 at *
 obtain⟨a1,a2⟩:=a;obtain⟨b1,b2⟩:=b;obtain⟨c1,c2⟩:=c;obtain⟨d1,d2⟩:=d
 try simp only at *
 refine pI func195 rfl ntmps195 results195 call195 ?_;(focus (refine wkld w_t (w_7 s1 s2 t1 t2 m1 m2 s) w_t (w_1 (w_d 1 [(4,poA u1),(9,poA v1),(10,poA p),(15,poA u2),(20,poA v2),(21,poA q),(22,poA r)] [] [])) ?_;(repeat' first|exact w_t|apply w_l);all_goals intros))
theorem Zej {a b:Pt} (ha:CB a) (hb:CB b):Pure prog 145 [coA a,coA b] (poA (dotM a b a b)):=by
 have c:=rhDot ha hb ha hb;generalize dotM a b a b=r at *;clear ha hb;obtain⟨a1,a2⟩:=a;obtain⟨b1,b2⟩:=b;refine pI func145 rfl ntmps145 results145 call145 ?_;(focus (refine wklp w_t (w_1 c) w_t (w_r 0) ?_;(repeat' first|exact w_t|apply w_l);all_goals intros))
theorem Sub.tup2 {a b a' b':AV} (h:Sub a a') (k:Sub b b'):Sub (.tup [a,b]) (.tup [a',b']):=Sub.tup _ _ rfl λj x y h1 h2=>by
 match j with
 | 0=>simp at h1 h2;subst h1;subst h2;exact h
 | 1=>simp at h1 h2;subst h1;subst h2;exact k
 | j+2=>simp at h1
theorem Agr.re {m σ:Mem} {t k:Nat} {e1 e e':Ent} (h:Agr m (upd σ k (some e1))) (ht:t=k+1000) (he:e'=e.sh):Agr (upd m t (some e')) (upd σ k (some e)):=by
 have:=h.put (k:=k) (e:=e) ht he
 rwa [upd_over] at this
theorem Sub.frame (KC KV KC' KV':Nat) (svC svV:Value):Sub (.agg [.own KC svC,.own KV svV]) (.agg [.own KC' svC,.own KV' svV]):=Sub.agg2 (Sub.own _ _ _) (Sub.own _ _ _)
theorem Zh2 (σ:Mem) (KC KV:Nat) (svC svV:Value) (vs:List Vt) (kind step number:Int) (hV:σ KV=some (.row svV 275 3 (vs.map Vt.av) 0)) (hl:vs.length≤200) :
 ACall prog 192 [.agg [.own KC svC,.own KV svV],iv kind,iv step,iv number] σ λr σ'=>∃sv,r=.tup [.agg [.own KC svC,.own KV sv],poA (varM vs.length)]∧σ'=upd σ KV (some (.row sv 275 3 ((vs++[(kind,step,number)]).map Vt.av) 0)):=by
 have mV:=Za8 hV;have cv:=rpVar vs.length zo;have hln:(vs.map Vt.av).length=vs.length:=Zy3 ..;have hm1:((vs.length+1:Nat):Int) - 1=(vs.length:Int):=zo;simp only [Ent.sh,AV.shL,AV.sh] at mV;simp only [Zzz,ZAj,ZAg];refine Za5 func192 rfl ntmps192 results192 call192 zr zs ?_;(focus (refine wkad (w_6 mV hln hm1 @l_app @Zaj @Zcd) (w_1 cv) (w_1 (w_d 2 [(5,poA (varM vs.length))] [] [8])) ?_;(repeat' first|exact w_t|apply w_l);all_goals intros));simp (disch:=omega) only [go_sem];rename_i sv1;refine Zfq (Sub.tup2 (Sub.frame _ _ _ _ _ _) (Sub.refl _)) ⟨sv1,rfl,rfl⟩ ?_
 (repeat (refine Agr.own ?_ zo))
 refine Agr.put ?_ rfl rfl
 (repeat' (first|exact Agr.start _|(refine Agr.own ?_ zo)))
theorem rcFree (σ:Mem) (KC KV:Nat) (svC svV:Value) (vs:List Vt) (i fr:Nat) (hV:σ KV=some (.row svV 275 3 (vs.map Vt.av) 0)) (hl:vs.length≤100) (hf:fr≤1000) :
 ACall prog 188 [.agg [.own KC svC,.own KV svV],iv i,iv fr] σ λr σ'=>∃sv,r=.tup [.agg [.own KC svC,.own KV sv],coA (if fr=0 then ([],[]) else if fr=1 then (varM vs.length,[]) else (varM vs.length,varM (vs.length+1)))] ∧
  σ'=upd σ KV (some (.row sv 275 3 ((vs++(if fr=0 then [] else if fr=1 then [(1,(i:Int),0)] else [(1,(i:Int),0),(1,(i:Int),1)])).map Vt.av) 0)):=by
 have mV:=Za8 hV;simp only [Ent.sh,AV.shL,AV.sh] at mV;by_cases h0:fr=0
 ·subst h0;simp only [Zzt,ZAh];refine Za5 func188 rfl ntmps188 results188 call188 zr zs ?_;(focus (refine wkad (w_1 mV) w_t (w_1 (w_d 6 [] [] [6,7])) ?_;(repeat' first|exact w_t|apply w_l);all_goals intros));simp (disch:=omega) only [go_sem];refine Zfq (Sub.tup2 (Sub.frame _ _ _ _ _ _) (Sub.agg2 (Sub.nil 4) (Sub.nil 4))) ⟨svV,rfl,rfl⟩ ?_;rw [Zia hV]
  (repeat' (first|exact Agr.start _|(refine Agr.own ?_ zo)))
 ·by_cases h1:fr=1
  ·subst h1;simp only [Zy0 h0,Zzt];refine Za5 func188 rfl ntmps188 results188 call188 zr zs ?_;(focus (refine wkad (w_1 mV) w_t w_t ?_;(repeat' first|exact w_t|apply w_l);all_goals intros));refine Zcp (Zh2 _ (KC+1000) (KV+1000) svC svV vs 1 (i:Int) 0 (by(simp (disch:=omega) only [go_sem,mV,Zy0,Zy1,Zzz,ZAj,ZAg]<;>repeat' first|rfl|refine⟨?_,?_⟩)) (by first|omega|(simp;omega))) ?_;intro sv1;(focus (refine wkad (w_1 mV) w_t (w_1 (w_d 6 [] [] [6,7])) ?_;(repeat' first|exact w_t|apply w_l);all_goals intros));simp (disch:=omega) only [go_sem]
   refine Zfq (Sub.tup2 (Sub.frame _ _ _ _ _ _) (Sub.agg2 (Sub.refl _) (Sub.nil 4))) ⟨sv1,rfl,rfl⟩ ?_;simp only [Zzz,ZAj,ZAg]
   (repeat (refine Agr.own ?_ zo))
   refine Agr.put ?_ rfl rfl
   (repeat' (first|exact Agr.start _|(refine Agr.own ?_ zo)))
  ·simp only [Zy0 h0,Zy0 h1];have hl1:(vs++[((1:Int),(i:Int),(0:Int))]).length=vs.length+1:=by simp
   refine Za5 func188 rfl ntmps188 results188 call188 zr zs ?_;(focus (refine wkad (w_1 mV) w_t w_t ?_;(repeat' first|exact w_t|apply w_l);all_goals intros));refine Zcp (Zh2 _ (KC+1000) (KV+1000) svC svV vs 1 (i:Int) 0 (by(simp (disch:=omega) only [go_sem,mV,Zy0,Zy1,Zzz,ZAj,ZAg]<;>repeat' first|rfl|refine⟨?_,?_⟩)) (by first|omega|(simp;omega))) ?_;intro sv1;(focus (refine wkad (w_1 mV) w_t w_t ?_;(repeat' first|exact w_t|apply w_l);all_goals intros));refine Zcp (Zh2 _ (KC+1000) (KV+1000) svC sv1 (vs++[(1,(i:Int),0)]) 1 (i:Int) 1 (by(simp (disch:=omega) only [go_sem,mV,Zy0,Zy1,Zzz,ZAj,ZAg]<;>repeat' first|rfl|refine⟨?_,?_⟩)) (by first|omega|(simp;omega))) ?_
   intro sv2;(focus (refine wkad (w_2 mV hl1) w_t (w_1 (w_d 6 [] [] [6,7])) ?_;(repeat' first|exact w_t|apply w_l);all_goals intros));simp (disch:=omega) only [go_sem,hl1];refine Zfq (Sub.tup2 (Sub.frame _ _ _ _ _ _) (Sub.refl _)) ⟨sv2,rfl,rfl⟩ ?_;simp only [ZAa,ZB1,ZCk]
   (repeat (refine Agr.own ?_ zo))
   refine Agr.re (e1:=.row sv1 275 3 ((vs++[(1,(i:Int),0)]).map Vt.av) 0) ?_ rfl rfl
   (repeat (refine Agr.own ?_ zo))
   refine Agr.put ?_ rfl rfl
   (repeat' (first|exact Agr.start _|(refine Agr.own ?_ zo)))
theorem rcDep (σ:Mem) (KC KV:Nat) (svC svV:Value) (vs:List Vt) (i:Nat) (num:Int) (hV:σ KV=some (.row svV 275 3 (vs.map Vt.av) 0)) (hl:vs.length≤100) (hn:0≤num∧num≤10) :
 ACall prog 193 [.agg [.own KC svC,.own KV svV],iv i,iv num] σ λr σ'=>∃sv,r=.tup [.agg [.own KC svC,.own KV sv],coA (varM vs.length,varM (vs.length+1))] ∧
  σ'=upd σ KV (some (.row sv 275 3 ((vs++[(2,(i:Int),num),(2,(i:Int),num+1)]).map Vt.av) 0)):=by
 have mV:=Za8 hV;simp only [Ent.sh,AV.shL,AV.sh] at mV;have hl1:(vs++[((2:Int),(i:Int),num)]).length=vs.length+1:=by simp
 refine Za5 func193 rfl ntmps193 results193 call193 zr zs ?_;(focus (refine wkad (w_1 mV) w_t w_t ?_;(repeat' first|exact w_t|apply w_l);all_goals intros));refine Zcp (Zh2 _ (KC+1000) (KV+1000) svC svV vs 2 (i:Int) num (by(simp (disch:=omega) only [go_sem,mV,Zy0,Zy1,Zzz,ZAj,ZAg]<;>repeat' first|rfl|refine⟨?_,?_⟩)) (by first|omega|(simp;omega))) ?_;intro sv1;(focus (refine wkad (w_1 mV) w_t w_t ?_;(repeat' first|exact w_t|apply w_l);all_goals intros));refine Zcp (Zh2 _ (KC+1000) (KV+1000) svC sv1 (vs++[(2,(i:Int),num)]) 2 (i:Int) (num+1) (by(simp (disch:=omega) only [go_sem,mV,Zy0,Zy1,Zzz,ZAj,ZAg]<;>repeat' first|rfl|refine⟨?_,?_⟩)) (by first|omega|(simp;omega))) ?_
 intro sv2;(focus (refine wkad (w_2 mV hl1) w_t (w_1 (w_d 4 [] [] [6,7])) ?_;(repeat' first|exact w_t|apply w_l);all_goals intros));simp (disch:=omega) only [go_sem,hl1];refine Zfq (Sub.tup2 (Sub.frame _ _ _ _ _ _) (Sub.refl _)) ⟨sv2,rfl,rfl⟩ ?_;simp only [ZAa,ZB1,ZCk]
 (repeat (refine Agr.own ?_ zo))
 refine Agr.re (e1:=.row sv1 275 3 ((vs++[(2,(i:Int),num)]).map Vt.av) 0) ?_ rfl rfl
 (repeat (refine Agr.own ?_ zo))
 refine Agr.put ?_ rfl rfl
 (repeat' (first|exact Agr.start _|(refine Agr.own ?_ zo)))
theorem Zv9 (a b:Po × Po) (m d1 d2 e1 e2 f1 f2:Po) (s1:Pure prog 196 [poA b.1,poA a.1] (poA d1)) (s2:Pure prog 196 [poA b.2,poA a.2] (poA d2))
 (m1:Pure prog 197 [poA m,poA d1] (poA e1)) (m2:Pure prog 197 [poA m,poA d2] (poA e2)) (a1:Pure prog 200 [poA a.1,poA e1] (poA f1)) (a2:Pure prog 200 [poA a.2,poA e2] (poA f2)) :
 Pure prog 189 [coA a,coA b,poA m] (coA (f1,f2)):=by
 obtain⟨x1,x2⟩:=a;obtain⟨y1,y2⟩:=b;simp only at *;refine pI func189 rfl ntmps189 results189 call189 ?_;(focus (refine wkld w_t (w_6 s1 s2 m1 m2 a1 a2) w_t (w_1 (w_d 1 [(7,poA d1),(8,poA e1),(9,poA f1),(17,poA d2),(18,poA e2),(19,poA f2)] [] [6])) ?_;(repeat' first|exact w_t|apply w_l);all_goals intros))
theorem rcPlus (p q r d f:Po) (s:Pure prog 196 [poA q,poA r] (poA d)) (a:Pure prog 200 [poA p,poA d] (poA f)):Pure prog 191 [poA p,poA q,poA r] (poA f):=by
 refine pI func191 rfl ntmps191 results191 call191 ?_;(focus (refine wklp w_t (w_2 s a) w_t (w_r 0) ?_;(repeat' first|exact w_t|apply w_l);all_goals intros))
abbrev cstM (q:Rat):Po:=if q=0 then [] else [(q,[])]
theorem cst_pk (q:Rat) {k:Nat} (h:Sz q k):PK (cstM q) k 1:=by
 unfold cstM;split
 ·exact PK.nil
 ·intro t ht;rw [ZBa] at ht;subst ht;exact⟨h,Zzb _,λj=>by rw [Zc5 (Zzb _)];omega⟩
theorem cst_srt (q:Rat):SrtM (cstM q):=by
 unfold cstM;split
 ·exact .nil
 ·rename_i h;exact Srt.nil.cons h Zrl zs
theorem cst_len (q:Rat):(cstM q).length≤1:=by
 unfold cstM;split<;>simp
theorem Zye (q:Rat) {d:Po} (sd:SrtM d):mlM (cstM q) d=sclM q d:=by
 unfold sclM cstM;by_cases h:q=0
 ·rw [Zy1 h,Zy1 h];exact Zsp d
 ·rw [Zy0 h,Zy0 h];exact Zo7 h sd
theorem PK.take {p:Po} {k e:Nat} (h:PK p k e) (i:Nat):PK (p.take i) k e:=λt ht=>h t (ZAe ht)
theorem Zu7 (v:Nat) {d:Po} (sd:SrtM d):mlM (varM v) d=mlM d (varM v):=Zxf ordM mulK (Zfc v) sd
theorem var_len (v:Nat):(varM v).length≤1:=by unfold varM;split<;>simp
theorem rcMulC (q:Rat) (d:Po) (hq:Sz q 2) (hd:PK d 221 1) (sd:SrtM d) (ld:d.length≤8000):Pure prog 197 [poA (cstM q),poA d] (poA (sclM q d)):=by
 rw [←Zye q sd];have:=cst_len q;refine rpMul (cstM q) d (cst_pk q hq) hd (cst_srt q) sd zo zo zo zo zo zo (K:=223) (E:=1) (λi=>?_) zo zo;rw [Zye q (Zj0 sd i)];have h1:=Zp9 q (d.take i);have h2:(d.take i).length≤d.length:=by rw [Zzh];omega
 exact⟨((hd.take i).scl hq).mono zo zo,zo⟩
theorem rcMulV (v:Nat) (d:Po) (hd:PK d 221 1) (sd:SrtM d) (ld:d.length≤8000):Pure prog 197 [poA (varM v),poA d] (poA (mlM d (varM v))):=by
 rw [←Zu7 v sd];have:=var_len v;refine rpMul (varM v) d (Zpz v) hd (Zfc v) sd zo zo zo zo zo zo (K:=222) (E:=2) (λi=>?_) zo zo;rw [Zu7 v (Zj0 sd i)];have h1:=Zj2 (d.take i) v;have h2:(d.take i).length≤d.length:=by rw [Zzh];omega
 exact⟨(hd.take i).mulV.mono zo zo,zo⟩
theorem rcAlongS (a b:Po × Po) (q:Rat) (hq:Sz q 2) (a1:Co a.1) (a2:Co a.2) (b1:Co b.1) (b2:Co b.2):Pure prog 189 [coA a,coA b,poA (cstM q)] (coA (addM a.1 (sclM q (subM b.1 a.1)),addM a.2 (sclM q (subM b.2 a.2)))):=by
 have n1:=a1.ln;have n2:=a2.ln;have n3:=b1.ln;have n4:=b2.ln;have s1:=Zty b.1 a.1 b1.pk a1.pk b1.st a1.st zo zo zo zo zo;have s2:=Zty b.2 a.2 b2.pk a2.pk b2.st a2.st zo zo zo zo zo;have d1:=b1.pk.sub a1.pk;have d2:=b2.pk.sub a2.pk;have t1:=Zdm ordM b1.st a1.st;have t2:=Zdm ordM b2.st a2.st;have l1:=Zhx b.1 a.1;have l2:=Zhx b.2 a.2;have m1:=rcMulC q (subM b.1 a.1) hq d1 t1 zo;have m2:=rcMulC q (subM b.2 a.2) hq d2 t2 zo;have e1:=Zoi a.1 (sclM q (subM b.1 a.1)) a1.pk (d1.scl hq) a1.st (Zkj t1) zo (by have:=Zp9 q (subM b.1 a.1);omega) zo zo zo;have e2:=Zoi a.2 (sclM q (subM b.2 a.2)) a2.pk (d2.scl hq) a2.st (Zkj t2) zo (by have:=Zp9 q (subM b.2 a.2);omega) zo zo zo
 exact Zv9 a b (cstM q) _ _ _ _ _ _ s1 s2 m1 m2 e1 e2
theorem rcAlongM (a b:Po × Po) (v:Nat) (a1:Co a.1) (a2:Co a.2) (b1:Co b.1) (b2:Co b.2):Pure prog 189 [coA a,coA b,poA (varM v)] (coA (addM a.1 (mlM (subM b.1 a.1) (varM v)),addM a.2 (mlM (subM b.2 a.2) (varM v)))):=by
 have n1:=a1.ln;have n2:=a2.ln;have n3:=b1.ln;have n4:=b2.ln;have s1:=Zty b.1 a.1 b1.pk a1.pk b1.st a1.st zo zo zo zo zo;have s2:=Zty b.2 a.2 b2.pk a2.pk b2.st a2.st zo zo zo zo zo;have d1:=b1.pk.sub a1.pk;have d2:=b2.pk.sub a2.pk;have t1:=Zdm ordM b1.st a1.st;have t2:=Zdm ordM b2.st a2.st;have l1:=Zhx b.1 a.1;have l2:=Zhx b.2 a.2;have m1:=rcMulV v (subM b.1 a.1) d1 t1 zo;have m2:=rcMulV v (subM b.2 a.2) d2 t2 zo;have e1:=Zoi a.1 (mlM (subM b.1 a.1) (varM v)) (a1.pk.mono (Zy5 110) (show 1≤1+1 by omega)) d1.mulV a1.st (Zes ordM mulK t1 (Zfc v)) zo (by have:=Zj2 (subM b.1 a.1) v;omega) zo zo zo
 have e2:=Zoi a.2 (mlM (subM b.2 a.2) (varM v)) (a2.pk.mono (Zy5 110) (show 1≤1+1 by omega)) d2.mulV a2.st (Zes ordM mulK t2 (Zfc v)) zo (by have:=Zj2 (subM b.2 a.2) v;omega) zo zo zo;exact Zv9 a b (varM v) _ _ _ _ _ _ s1 s2 m1 m2 e1 e2
theorem Zm4 (p q r:Po) (hp:Co p) (hq:Co q) (hr:Co r):Pure prog 191 [poA p,poA q,poA r] (poA (addM p (subM q r))):=by
 have n1:=hp.ln;have n2:=hq.ln;have n3:=hr.ln;have l1:=Zhx q r;have s:=Zty q r hq.pk hr.pk hq.st hr.st zo zo zo zo zo;have a:=Zoi p (subM q r) hp.pk (hq.pk.sub hr.pk) hp.st (Zdm ordM hq.st hr.st) zo zo zo zo zo;exact rcPlus p q r _ _ s a
theorem Agr.at {m σ:Mem} (h:Agr m σ) {k:Nat} {e:Ent} (hk:σ k=some e):m (k+1000)=some e.sh:=by rw [h k,hk];rfl
def ptsN (cs:List (Po × Po)) (ar:List Int):List (Po × Po):=ar.map λa=>cs.getD a.toNat ([],[])
theorem Zih (cs:List (Po × Po)) (ar:List Int):(ptsN cs ar).length=ar.length:=by unfold ptsN;simp
theorem Zsc {cs:List (Po × Po)} {ar:List Int} {k:Nat} (h:k < ar.length):(ptsN cs ar)[k]'(by rw [Zih];exact h)=cs.getD (gI ar k).toNat ([],[]):=by
 unfold ptsN;rw [List.getElem_map,Zga h]
theorem Zhq {cs:List (Po × Po)} {ar:List Int} {k:Nat} (h:k < ar.length):((ptsN cs ar).map coA).getD k .u=coA (cs.getD (gI ar k).toNat ([],[])):=by
 rw [Zac coA (by rw [Zih];exact h),Zsc h]
theorem Zwq {cs:List (Po × Po)} {ar:List Int} {k:Nat} (h:k < ar.length):(ptsN cs ar).take (k+1)=(ptsN cs ar).take k++[cs.getD (gI ar k).toNat ([],[])]:=by
 rw [ZCi,Zy4 (by rw [Zih];exact h),Zsc h];rfl
theorem arS_le (k:Int):arS k≤4:=by
 unfold arS
 repeat' split
 all_goals omega
theorem rcNext (σ:Mem) (KC KV:Nat) (svC svV:Value) (cs:List (Po × Po)) (vs:List Vt) (fr i:Nat) (ss:List RS) (gs:List RG) (s:RS) (hi:i < ss.length) (hs:ss[i]=s) (hV:σ KV=some (.row svV 275 3 (vs.map Vt.av) 0)) (hC:σ KC=some (.row svC 203 2 (cs.map coA) 0)) (hVC:KV≠KC) (hl:vs.length≤64) (hf:fr≤100) (hi1:i≤1000) (hok:StOk cs s) (hco:∀c∈cs,Co c.1∧Co c.2) :
 ACall prog 142 [.agg [.own KC svC,.own KV svV],figA ss gs,iv i,iv fr] σ λr σ'=>∃sv,r=.tup [.agg [.own KC svC,.own KV sv],coA (FS.nxt ⟨cs,vs,fr⟩ i s).2] ∧
  σ'=upd σ KV (some (.row sv 275 3 ((vs++(FS.nxt ⟨cs,vs,fr⟩ i s).1).map Vt.av) 0)):=by
 have hgi:(ss.map RS.av).getD i .u=s.av:=by rw [←hs];exact Zac RS.av hi
 have hls:(ss.map RS.av).length=ss.length:=Zy3 ..;have hcl:(cs.map coA).length=cs.length:=Zy3 ..;show ACall _ _ [.agg [.own KC svC,.own KV svV],.agg [.sl 6 (ss.map RS.av),.sl 5 (gs.map RG.av)],iv i,iv fr] _ _;generalize ss.map RS.av=M at *;generalize gs.map RG.av=N at *;clear hs;obtain⟨k0,nm,ar,⟨rs,rl,rd⟩⟩:=s;have hll:(ar.map iv).length=ar.length:=Zy3 ..;refine Za5 func142 rfl ntmps142 results142 call142 zr zs ?_;(focus (refine wkad (w_3 hgi hls hll) w_t w_t ?_;(repeat' first|exact w_t|apply w_l);all_goals intros));rename_i g4 g5 g8 g9 g10
 refine Zc7 (Frz.nilOwn (d:=11) 37 2 203 (gC)) ?_;refine Zab (ι:=Nat) (λk e m=>k≤ar.length∧e 2=iv i∧e 3=iv fr∧e 4=.pbox 4 g4 0∧m 4=some (.box g4 62 [.own (KC+1000) svC,.own (KV+1000) svV] false)∧e 8=.pbox 8 g8 0∧m 8=some (.box g8 62 [.v (.slice none 0 0),.v (.slice none 0 0)] false)∧e 9=.pbox 9 g9 0∧m 9=some (.box g9 203 [.v (.slice none 0 0),.v (.slice none 0 0)] false)∧e 10=.pbox 10 g10 0∧m 10=some (.box g10 78 [iv k0,strA nm,ivs ar,.v (.bool rs),lim rl,lim rd] false)∧e 24=ivs ar∧e 25=iv ar.length∧e 26=iv k∧(∃sv,e 11=.own 37 sv∧m 37=some (.row sv 203 2 (((ptsN cs ar).take k).map coA) 0))∧Agr m σ) (λk=>ar.length - k) 0 zr ?_ ?_
 ·rintro k e m ⟨hk,hA2,hA3,e4,m4,e8,m8,e9,m9,e10,m10,e24,e25,e26,⟨sv,e11,m37⟩,hAg⟩
  have mV:=Agr.at hAg hV;have mC:=Agr.at hAg hC;simp only [Ent.sh,AV.shL,AV.sh] at mV mC;by_cases hlt:k < ar.length
  ·have h0:=hok.ai k hlt;simp only at h0;have hga:(ar.map iv).getD k .u=iv (gI ar k):=by rw [Zac iv hlt,Zga hlt]
   have hgc:(cs.map coA).getD (gI ar k).toNat .u=coA (cs.getD (gI ar k).toNat ([],[])):=Zxz zo;have htk:=Zwq (cs:=cs) hlt
   have har4:ar.length≤4:=by
    have h1:(ar.length:Int)=arS k0:=hok.al;have h2:=arS_le k0;omega
   have hL:((ptsN cs ar).take k).length≤4:=by
    have h1:(ar.length:Int)=arS k0:=hok.al;have h2:=arS_le k0;rw [Zzh];omega
   generalize (ptsN cs ar).take k=L at *;generalize cs.getD (gI ar k).toNat ([],[])=c at *;generalize gI ar k=a at *;obtain⟨c1,c2⟩:=c;(focus (refine wkad (w_21 hA2 hA3 e4 m4 e8 m8 e9 m9 e10 m10 e11 e24 e25 e26 m37 mV mC hll hcl hga hgc) w_t w_t ?_;(repeat' first|exact w_t|apply w_l);all_goals intros));rename_i sv2;refine⟨k+1,⟨zo,by(simp (disch:=omega) only [go_sem,hA2]<;>repeat' first|rfl|refine⟨?_,?_⟩),by(simp (disch:=omega) only [go_sem,hA3]<;>repeat' first|rfl|refine⟨?_,?_⟩),gW e4,gW m4,gW e8,gW m8,gW e9,gW m9,gW e10,gW m10,gW e24,gW e25,gS,⟨_,gC,by(rw [htk,Zzz];exact gC)⟩,?_⟩,zo⟩
   (repeat' (first|exact hAg|(refine Agr.own ?_ zo)))
  ·have hkk:k=ar.length:=zo;subst hkk;rw [show(ptsN cs ar).take ar.length=ptsN cs ar from ZA4 (by rw [Zih];exact Zy5 _)] at m37;have hlp:((ptsN cs ar).map coA).length=ar.length:=by rw [Zy3,Zih]
   by_cases k1:k0=1
   ·subst k1
    have en:FS.nxt ⟨cs,vs,fr⟩ i ⟨1,nm,ar,⟨rs,rl,rd⟩⟩=(if fr=0 then [] else if fr=1 then [(1,(i:Int),0)] else [(1,(i:Int),0),(1,(i:Int),1)],if fr=0 then ([],[]) else if fr=1 then (varM vs.length,[]) else (varM vs.length,varM (vs.length+1))):=by
     unfold FS.nxt;simp only [Zzt];by_cases f0:fr=0
     ·simp only [Zy1 f0]
     ·by_cases f1:fr=1
      ·simp only [Zy0 f0,Zy1 f1]
      ·simp only [Zy0 f0,Zy0 f1]
    rw [en];have cF:=rcFree m (KC+1000) (KV+1000) svC svV vs i fr mV zo zo;generalize (if fr=0 then (([],[]):Po × Po) else if fr=1 then (varM vs.length,[]) else (varM vs.length,varM (vs.length+1)))=x at *;generalize (if fr=0 then ([]:List Vt) else if fr=1 then [(1,(i:Int),0)] else [(1,(i:Int),0),(1,(i:Int),1)])=nv at *;obtain⟨x1,x2⟩:=x;(focus (refine wkad (w_21 hA2 hA3 e4 m4 e8 m8 e9 m9 e10 m10 e11 e24 e25 e26 m37 mV mC hll hlp @Zaj @Zcd) w_t w_t ?_;(repeat' first|exact w_t|apply w_l);all_goals intros));refine Zcp cF ?_;intro sv1;(focus (refine wkad (w_21 hA2 hA3 e4 m4 e8 m8 e9 m9 e10 m10 e11 e24 e25 e26 m37 mV mC hll hlp @Zaj @Zcd) w_t w_t ?_;(repeat' first|exact w_t|apply w_l);all_goals intros))
    simp (disch:=omega) only [go_sem,e8,e9];refine Zfq (Sub.tup2 (Sub.frame _ _ _ _ _ _) (Sub.refl _)) ⟨sv1,rfl,rfl⟩ ?_
    (repeat (refine Agr.own ?_ zo))
    refine Agr.put ?_ rfl rfl
    (repeat' (first|exact hAg|(refine Agr.own ?_ zo)))
   ·by_cases k2:k0=2
    ·subst k2;have hal2:ar.length=2:=by have h1:(ar.length:Int)=arS 2:=hok.al;have h2:arS 2=2:=rfl;omega
     have h0:0≤gI ar 0∧gI ar 0 < (cs.length:Int):=hok.ai 0 (show 0 < ar.length by omega);obtain⟨a1,a2⟩:Co (cs.getD (gI ar 0).toNat ([],[])).1∧Co (cs.getD (gI ar 0).toNat ([],[])).2:=hco _ (Zcx zo);have p0:((ptsN cs ar).map coA).getD 0 .u=coA (cs.getD (gI ar 0).toNat ([],[])):=Zhq zo;generalize ha:cs.getD (gI ar 0).toNat ([],[])=a at *;have h1:0≤gI ar 1∧gI ar 1 < (cs.length:Int):=hok.ai 1 (show 1 < ar.length by omega);obtain⟨b1,b2⟩:Co (cs.getD (gI ar 1).toNat ([],[])).1∧Co (cs.getD (gI ar 1).toNat ([],[])).2:=hco _ (Zcx zo);have p1:((ptsN cs ar).map coA).getD 1 .u=coA (cs.getD (gI ar 1).toNat ([],[])):=Zhq zo
     generalize hb:cs.getD (gI ar 1).toNat ([],[])=b at *;have ro:=hok.r2 rfl;have zr:=(RQ.ok_av hok.rl ro).2;have re:=RQ.ok_eq hok.rl ro
     have en:FS.nxt ⟨cs,vs,fr⟩ i ⟨2,nm,ar,⟨rs,rl,rd⟩⟩=([],(addM a.1 (sclM (RQ.q ⟨rs,rl,rd⟩) (subM b.1 a.1)),addM a.2 (sclM (RQ.q ⟨rs,rl,rd⟩) (subM b.2 a.2)))):=by
      rw [←ha,←hb];rfl
     rw [en];simp only at zr re;generalize hq:RQ.q ⟨rs,rl,rd⟩=q at *;simp only [RQ.mk.injEq] at re;obtain⟨rfl,rfl,rfl⟩:=re;have al:=rcAlongS a b q zr a1 a2 b1 b2;have cc:=Zv0 q zr zo;generalize addM a.1 (sclM q (subM b.1 a.1))=x1 at *;generalize addM a.2 (sclM q (subM b.2 a.2))=x2 at *;clear a1 a2 b1 b2 ha hb hok hco en;obtain⟨aa,ab⟩:=a;obtain⟨ba,bb⟩:=b;(focus (refine wkad (w_24 hA2 hA3 e4 m4 e8 m8 e9 m9 e10 m10 e11 e24 e25 e26 m37 mV mC hll hlp @Zaj @Zcd hal2 p0 p1) (w_2 cc al) (w_1 (w_d 12 [(9,poA (cstM q)),(10,coA (x1,x2))] [] [8,9])) ?_;(repeat' first|exact w_t|apply w_l);all_goals intros))
     simp (disch:=omega) only [go_sem,e8,e9];refine Zfq (Sub.tup2 (Sub.frame _ _ _ _ _ _) (Sub.refl _)) ⟨svV,rfl,rfl⟩ ?_;simp only [ZAh,Zia hV]
     (repeat' (first|exact hAg|(refine Agr.own ?_ zo)))
    ·by_cases k3:k0=3
     ·subst k3;have hal2:ar.length=3:=by have h1:(ar.length:Int)=arS 3:=hok.al;have h2:arS 3=3:=rfl;omega
      have h0:0≤gI ar 0∧gI ar 0 < (cs.length:Int):=hok.ai 0 (show 0 < ar.length by omega);obtain⟨a1,a2⟩:Co (cs.getD (gI ar 0).toNat ([],[])).1∧Co (cs.getD (gI ar 0).toNat ([],[])).2:=hco _ (Zcx zo);have p0:((ptsN cs ar).map coA).getD 0 .u=coA (cs.getD (gI ar 0).toNat ([],[])):=Zhq zo;generalize ha:cs.getD (gI ar 0).toNat ([],[])=a at *;have h1:0≤gI ar 1∧gI ar 1 < (cs.length:Int):=hok.ai 1 (show 1 < ar.length by omega);obtain⟨b1,b2⟩:Co (cs.getD (gI ar 1).toNat ([],[])).1∧Co (cs.getD (gI ar 1).toNat ([],[])).2:=hco _ (Zcx zo);have p1:((ptsN cs ar).map coA).getD 1 .u=coA (cs.getD (gI ar 1).toNat ([],[])):=Zhq zo
      generalize hb:cs.getD (gI ar 1).toNat ([],[])=b at *;have h2:0≤gI ar 2∧gI ar 2 < (cs.length:Int):=hok.ai 2 (show 2 < ar.length by omega);obtain⟨c1,c2⟩:Co (cs.getD (gI ar 2).toNat ([],[])).1∧Co (cs.getD (gI ar 2).toNat ([],[])).2:=hco _ (Zcx zo);have p2:((ptsN cs ar).map coA).getD 2 .u=coA (cs.getD (gI ar 2).toNat ([],[])):=Zhq zo;generalize hc:cs.getD (gI ar 2).toNat ([],[])=c at *
      have en:FS.nxt ⟨cs,vs,fr⟩ i ⟨3,nm,ar,⟨rs,rl,rd⟩⟩=([],(addM a.1 (subM c.1 b.1),addM a.2 (subM c.2 b.2))):=by
       rw [←ha,←hb,←hc];rfl
      rw [en];have q1:=Zm4 a.1 c.1 b.1 a1 c1 b1;have q2:=Zm4 a.2 c.2 b.2 a2 c2 b2;generalize addM a.1 (subM c.1 b.1)=x1 at *;generalize addM a.2 (subM c.2 b.2)=x2 at *;clear a1 a2 b1 b2 c1 c2 ha hb hc hok hco en;obtain⟨aa,ab⟩:=a;obtain⟨ba,bb⟩:=b;obtain⟨ca,cb⟩:=c;(focus (refine wkad (w_a hA2 (w_24 hA3 e4 m4 e8 m8 e9 m9 e10 m10 e11 e24 e25 e26 m37 mV mC hll hlp @Zaj @Zcd hal2 p0 p1 p2)) (w_2 q1 q2) (w_1 (w_d 14 [(13,poA x1),(26,poA x2)] [] [8,9])) ?_;(repeat' first|exact w_t|apply w_l);all_goals intros));simp (disch:=omega) only [go_sem,e8,e9];refine Zfq (Sub.tup2 (Sub.frame _ _ _ _ _ _) (Sub.refl _)) ⟨svV,rfl,rfl⟩ ?_
      simp only [ZAh,Zia hV]
      (repeat' (first|exact hAg|(refine Agr.own ?_ zo)))
     ·by_cases k4:k0=4
      ·subst k4;have hal2:ar.length=3:=by have h1:(ar.length:Int)=arS 4:=hok.al;have h2:arS 4=3:=rfl;omega
       have h0:0≤gI ar 0∧gI ar 0 < (cs.length:Int):=hok.ai 0 (show 0 < ar.length by omega);obtain⟨a1,a2⟩:Co (cs.getD (gI ar 0).toNat ([],[])).1∧Co (cs.getD (gI ar 0).toNat ([],[])).2:=hco _ (Zcx zo);have p0:((ptsN cs ar).map coA).getD 0 .u=coA (cs.getD (gI ar 0).toNat ([],[])):=Zhq zo;generalize ha:cs.getD (gI ar 0).toNat ([],[])=a at *;have h1:0≤gI ar 1∧gI ar 1 < (cs.length:Int):=hok.ai 1 (show 1 < ar.length by omega);obtain⟨b1,b2⟩:Co (cs.getD (gI ar 1).toNat ([],[])).1∧Co (cs.getD (gI ar 1).toNat ([],[])).2:=hco _ (Zcx zo);have p1:((ptsN cs ar).map coA).getD 1 .u=coA (cs.getD (gI ar 1).toNat ([],[])):=Zhq zo
       generalize hb:cs.getD (gI ar 1).toNat ([],[])=b at *;have h2:0≤gI ar 2∧gI ar 2 < (cs.length:Int):=hok.ai 2 (show 2 < ar.length by omega);obtain⟨c1,c2⟩:Co (cs.getD (gI ar 2).toNat ([],[])).1∧Co (cs.getD (gI ar 2).toNat ([],[])).2:=hco _ (Zcx zo);have p2:((ptsN cs ar).map coA).getD 2 .u=coA (cs.getD (gI ar 2).toNat ([],[])):=Zhq zo;generalize hc:cs.getD (gI ar 2).toNat ([],[])=c at *
       have en:FS.nxt ⟨cs,vs,fr⟩ i ⟨4,nm,ar,⟨rs,rl,rd⟩⟩=([],(addM a.1 (subM b.2 c.2),addM a.2 (subM c.1 b.1))):=by
        rw [←ha,←hb,←hc];rfl
       rw [en];have q1:=Zm4 a.1 b.2 c.2 a1 b2 c2;have q2:=Zm4 a.2 c.1 b.1 a2 c1 b1;generalize addM a.1 (subM b.2 c.2)=x1 at *;generalize addM a.2 (subM c.1 b.1)=x2 at *;clear a1 a2 b1 b2 c1 c2 ha hb hc hok hco en;obtain⟨aa,ab⟩:=a;obtain⟨ba,bb⟩:=b;obtain⟨ca,cb⟩:=c;(focus (refine wkad (w_a hA2 (w_24 hA3 e4 m4 e8 m8 e9 m9 e10 m10 e11 e24 e25 e26 m37 mV mC hll hlp @Zaj @Zcd hal2 p0 p1 p2)) (w_2 q1 q2) (w_1 (w_d 16 [(13,poA x1),(26,poA x2)] [] [8,9])) ?_;(repeat' first|exact w_t|apply w_l);all_goals intros));simp (disch:=omega) only [go_sem,e8,e9];refine Zfq (Sub.tup2 (Sub.frame _ _ _ _ _ _) (Sub.refl _)) ⟨svV,rfl,rfl⟩ ?_
       simp only [ZAh,Zia hV]
       (repeat' (first|exact hAg|(refine Agr.own ?_ zo)))
      ·by_cases k5:k0=5
       ·subst k5;have hal2:ar.length=2:=by have h1:(ar.length:Int)=arS 5:=hok.al;have h2:arS 5=2:=rfl;omega
        have h0:0≤gI ar 0∧gI ar 0 < (cs.length:Int):=hok.ai 0 (show 0 < ar.length by omega);obtain⟨a1,a2⟩:Co (cs.getD (gI ar 0).toNat ([],[])).1∧Co (cs.getD (gI ar 0).toNat ([],[])).2:=hco _ (Zcx zo);have p0:((ptsN cs ar).map coA).getD 0 .u=coA (cs.getD (gI ar 0).toNat ([],[])):=Zhq zo;generalize ha:cs.getD (gI ar 0).toNat ([],[])=a at *;have h1:0≤gI ar 1∧gI ar 1 < (cs.length:Int):=hok.ai 1 (show 1 < ar.length by omega);obtain⟨b1,b2⟩:Co (cs.getD (gI ar 1).toNat ([],[])).1∧Co (cs.getD (gI ar 1).toNat ([],[])).2:=hco _ (Zcx zo);have p1:((ptsN cs ar).map coA).getD 1 .u=coA (cs.getD (gI ar 1).toNat ([],[])):=Zhq zo
        generalize hb:cs.getD (gI ar 1).toNat ([],[])=b at *
        have en:FS.nxt ⟨cs,vs,fr⟩ i ⟨5,nm,ar,⟨rs,rl,rd⟩⟩=([(1,(i:Int),0)],(addM a.1 (mlM (subM b.1 a.1) (varM vs.length)),addM a.2 (mlM (subM b.2 a.2) (varM vs.length)))):=by
         rw [←ha,←hb];rfl
        rw [en];have al:=rcAlongM a b vs.length a1 a2 b1 b2;have cP:=Zh2 m (KC+1000) (KV+1000) svC svV vs 1 (i:Int) 0 mV zo;generalize addM a.1 (mlM (subM b.1 a.1) (varM vs.length))=x1 at *;generalize addM a.2 (mlM (subM b.2 a.2) (varM vs.length))=x2 at *;clear a1 a2 b1 b2 ha hb hok hco en;obtain⟨aa,ab⟩:=a;obtain⟨ba,bb⟩:=b;generalize varM vs.length=vv at *;(focus (refine wkad (w_22 hA2 hA3 e4 m4 e8 m8 e9 m9 e10 m10 e11 e24 e25 e26 m37 mV mC hll hlp @Zaj @Zcd hal2) w_t w_t ?_;(repeat' first|exact w_t|apply w_l);all_goals intros));refine Zcp cP ?_;intro sv1;(focus (refine wkad (w_24 hA2 hA3 e4 m4 e8 m8 e9 m9 e10 m10 e11 e24 e25 e26 m37 mV mC hll hlp @Zaj @Zcd hal2 p0 p1) (w_1 al) (w_1 (w_d 19 [(8,coA (x1,x2))] [] [8,9])) ?_;(repeat' first|exact w_t|apply w_l);all_goals intros))
        simp (disch:=omega) only [go_sem,e8,e9];refine Zfq (Sub.tup2 (Sub.frame _ _ _ _ _ _) (Sub.refl _)) ⟨sv1,rfl,rfl⟩ ?_
        (repeat (refine Agr.own ?_ zo))
        refine Agr.put ?_ rfl rfl
        (repeat' (first|exact hAg|(refine Agr.own ?_ zo)))
       ·by_cases k6:k0=6
        ·subst k6;have en:FS.nxt ⟨cs,vs,fr⟩ i ⟨6,nm,ar,⟨rs,rl,rd⟩⟩=([(1,(i:Int),0),(2,(i:Int),1),(2,(i:Int),2)],(varM (vs.length+1),varM (vs.length+2))):=rfl;rw [en];have hl1:(vs++[((1:Int),(i:Int),(0:Int))]).length=vs.length+1:=by simp
         have cP:=Zh2 m (KC+1000) (KV+1000) svC svV vs 1 (i:Int) 0 mV zo;(focus (refine wkad (w_21 hA2 hA3 e4 m4 e8 m8 e9 m9 e10 m10 e11 e24 e25 e26 m37 mV mC hll hlp @Zaj @Zcd) w_t w_t ?_;(repeat' first|exact w_t|apply w_l);all_goals intros));refine Zcp cP ?_;intro sv1;(focus (refine wkad (w_21 hA2 hA3 e4 m4 e8 m8 e9 m9 e10 m10 e11 e24 e25 e26 m37 mV mC hll hlp @Zaj @Zcd) w_t w_t ?_;(repeat' first|exact w_t|apply w_l);all_goals intros));refine Zcp (rcDep _ (KC+1000) (KV+1000) svC sv1 (vs++[(1,(i:Int),0)]) i 1 (by(simp (disch:=omega) only [go_sem,mV,Zy0,Zy1,Zzz,ZAj,ZAg]<;>repeat' first|rfl|refine⟨?_,?_⟩)) (by first|omega|(simp;omega)) zo) ?_
         intro sv2;(focus (refine wkad (w_22 hA2 hA3 e4 m4 e8 m8 e9 m9 e10 m10 e11 e24 e25 e26 m37 mV mC hll hlp @Zaj @Zcd hl1) w_t w_t ?_;(repeat' first|exact w_t|apply w_l);all_goals intros));simp (disch:=omega) only [go_sem,hl1,e8,e9];refine Zfq (Sub.tup2 (Sub.frame _ _ _ _ _ _) (Sub.refl _)) ⟨sv2,rfl,rfl⟩ ?_;simp only [ZAa,ZB1,ZCk]
         (repeat (refine Agr.own ?_ zo))
         refine Agr.re (e1:=.row sv1 275 3 ((vs++[(1,(i:Int),0)]).map Vt.av) 0) ?_ rfl rfl
         (repeat (refine Agr.own ?_ zo))
         refine Agr.put ?_ rfl rfl
         (repeat' (first|exact hAg|(refine Agr.own ?_ zo)))
        ·have en:FS.nxt ⟨cs,vs,fr⟩ i ⟨k0,nm,ar,⟨rs,rl,rd⟩⟩=([(2,(i:Int),0),(2,(i:Int),1)],(varM vs.length,varM (vs.length+1))):=by
          unfold FS.nxt;simp only [Zy0 k1,Zy0 k2,Zy0 k3,Zy0 k4,Zy0 k5,Zy0 k6]
         rw [en];have cD:=rcDep m (KC+1000) (KV+1000) svC svV vs i 0 mV zo zo;(focus (refine wkad (w_21 hA2 hA3 e4 m4 e8 m8 e9 m9 e10 m10 e11 e24 e25 e26 m37 mV mC hll hlp @Zaj @Zcd) w_t w_t ?_;(repeat' first|exact w_t|apply w_l);all_goals intros));refine Zcp cD ?_;intro sv1;(focus (refine wkad (w_21 hA2 hA3 e4 m4 e8 m8 e9 m9 e10 m10 e11 e24 e25 e26 m37 mV mC hll hlp @Zaj @Zcd) w_t w_t ?_;(repeat' first|exact w_t|apply w_l);all_goals intros));simp (disch:=omega) only [go_sem,e8,e9];refine Zfq (Sub.tup2 (Sub.frame _ _ _ _ _ _) (Sub.refl _)) ⟨sv1,rfl,rfl⟩ ?_
         (repeat (refine Agr.own ?_ zo))
         refine Agr.put ?_ rfl rfl
         (repeat' (first|exact hAg|(refine Agr.own ?_ zo)))
 ·refine⟨Zzb _,gC,gC,gC,gC,gC,gC,gC,gC,gC,gC,gC,gW hll,gC,⟨_,gC,by(simp (disch:=omega) only [go_sem,ZBx,ZAg]<;>repeat' first|rfl|refine⟨?_,?_⟩)⟩,?_⟩
  (repeat' (first|exact Agr.start _|(refine Agr.own ?_ zo)))
attribute [go_sem] zSlP
attribute [local go_sem] Zlr Zbz Zb1 Zdb Zdd
def fstN (vs:List Vt) (i:Int):Nat→Option Nat
 | 0=>none
 | y+1=>match fstN vs i y with
   | some v=>some v
   | none=>if (vs.getD y (0,0,0)).2.1=i then some y else none
theorem Zla {vs:List Vt} {i:Int}:∀{n:Nat},(∀j,j < n→(vs.getD j (0,0,0)).2.1≠i)→fstN vs i n=none
 | 0,_=>rfl
 | n+1,h=>by
   unfold fstN;rw [Zla λj hj=>h j zo];simp only;rw [Zy0 (h n zo)]
theorem Zx3 {vs:List Vt} {i:Int} {y:Nat} (h:∀j,j < y→(vs.getD j (0,0,0)).2.1≠i) (hy:(vs.getD y (0,0,0)).2.1=i):∀{n:Nat},y < n→fstN vs i n=some y
 | 0,hn=>zo
 | n+1,hn=>by
   unfold fstN;by_cases e:y=n
   ·subst e;rw [Zla h];simp only;rw [Zy1 hy]
   ·rw [Zx3 h hy (n:=n) zo]
def parM (vs:List Vt) (i:Int):Po:=match fstN vs i vs.length with
 | some v=>varM v
 | none=>[]
def fitS (s:RS):Bool:=!(decide (2 < s.r.l.length) || decide (2 < s.r.d.length) || decide (8 < s.ar.length))
def fitsB (ss:List RS) (gs:List RG):Bool:=ss.all fitS && (decide (nfN ss ss.length≤12) && (decide (ss.length≤42) && decide (gs.length≤10)))
theorem nfN_le (ss:List RS):∀i,nfN ss i≤i
 | 0=>Zy5 _
 | i+1=>by
   have:=nfN_le ss i;unfold nfN;split<;>omega
section
attribute [local go_sem] underlying3 underlying4 underlying125 underlying9 underlying53 underlying41 underlying28 underlying26 underlying24 underlying78 underlying46 underlying49 underlying275 underlying60 underlying203 underlying59 underlying62 underlying157 underlying280 sz3 by3 z3 szB zB Zbt zErr Zbm Zbo zStr Za6 zRat Zba zInt Za9 zNat Za3 Za4 Zb8 Zca zFig Zbx zSlI Zb9 zSlS Zft Zf1 zVar Zen zSlV Zcb Zcf Zdh Zeo zSlC Zbs Zcs Zcu Zcz Zem Zct Zel underlying80 underlying47 szL byL zL Zbz Zb1 Zdb Zdd zSlF
end
theorem ar2 {ar:List Int} {n:Nat} (hl:(ar.length:Int)=2) (h:∀k,k < ar.length→0≤gI ar k∧gI ar k < (n:Int)):∃a b:Nat,ar=[(a:Int),(b:Int)]∧a < n∧b < n:=by
 match ar,hl,h with
 | [x,y],_,h =>
   have h0:=h 0 zs;have h1:=h 1 zs;simp only [gI,ZAt,ZAu] at h0 h1;exact⟨x.toNat,y.toNat,by rw [ZB0 h0.1,ZB0 h1.1],zo,zo⟩
theorem ar3 {ar:List Int} {n:Nat} (hl:(ar.length:Int)=3) (h:∀k,k < ar.length→0≤gI ar k∧gI ar k < (n:Int)):∃a b c:Nat,ar=[(a:Int),(b:Int),(c:Int)]∧a < n∧b < n∧c < n:=by
 match ar,hl,h with
 | [x,y,z],_,h =>
   have h0:=h 0 zs;have h1:=h 1 zs;have h2:=h 2 zs;simp only [gI,ZAt,ZAu] at h0 h1 h2;exact⟨x.toNat,y.toNat,z.toNat,by rw [ZB0 h0.1,ZB0 h1.1,ZB0 h2.1],zo,zo,zo⟩
theorem ar4 {ar:List Int} {n:Nat} (hl:(ar.length:Int)=4) (h:∀k,k < ar.length→0≤gI ar k∧gI ar k < (n:Int)):∃a b c d:Nat,ar=[(a:Int),(b:Int),(c:Int),(d:Int)]∧a < n∧b < n∧c < n∧d < n:=by
 match ar,hl,h with
 | [x,y,z,w],_,h =>
   have h0:=h 0 zs;have h1:=h 1 zs;have h2:=h 2 zs;have h3:=h 3 zs;simp only [gI,ZAt,ZAu] at h0 h1 h2 h3;exact⟨x.toNat,y.toNat,z.toNat,w.toNat,by rw [ZB0 h0.1,ZB0 h1.1,ZB0 h2.1,ZB0 h3.1],zo,zo,zo,zo⟩
def wOf (w:List Int) (s:RS):Int :=
 if s.k=2 then gI w (gI s.ar 0).toNat+gI w (gI s.ar 1).toNat
 else if s.k=3∨s.k=4 then gI w (gI s.ar 0).toNat+gI w (gI s.ar 1).toNat+gI w (gI s.ar 2).toNat
 else if s.k=5 then 2*gI w (gI s.ar 0).toNat+gI w (gI s.ar 1).toNat
 else 1
def wts (ss:List RS):Nat→List Int
 | 0=>[]
 | i+1=>wts ss i++[wOf (wts ss i) (ss.getD i RS.zero)]
theorem Zpy (ss:List RS):∀i,(wts ss i).length=i
 | 0=>rfl
 | i+1=>by show(wts ss i++[_]).length=i+1;rw [Zzq,Zpy ss i];rfl
theorem gI_app (l:List Int) (x:Int) (n:Nat):gI (l++[x]) n=if n < l.length then gI l n else if n=l.length then x else 0:=by
 split
 ·rename_i h;rw [Zga (by simp;omega),Zga h,List.getElem_append_left h]
 ·split
  ·rename_i h1 h2;subst h2;rw [Zga zs];simp
  ·rw [Zc5 (by simp;omega)]
def Ztl (ss:List RS) (gs:List RG):Bool :=
 (wts ss ss.length).all (λw=>decide (w≤8)) && gs.all λg=>!(decide (g.k=6) || decide (g.k=7)) || g.ar.all λa=>decide (gI (wts ss ss.length) a.toNat≤3)
def rat2 (r:RQ):Bool:=decide (r.l.length≤2) && decide (r.d.length≤2)
def fewB (ss:List RS) (gs:List RG):Bool :=
 decide (ss.length≤8) && (decide (gs.length≤3) && (decide (figE ss gs=0) && (Ztl ss gs && (ss.all (λs=>rat2 s.r) && gs.all λg=>rat2 g.r))))
theorem Zum {ss:List RS} {gs:List RG} (h:figE ss gs=0):∀i,i < ss.length→errS ss i=0:=by
 unfold figE at h;split at h
 ·omega
 ·split at h
  ·rename_i h2;exact absurd h h2
  ·rename_i h2;exact Ziq (Decidable.byContradiction λh3=>h2 h3)
def bigE (E:Nat→List Po) (i:Nat):Bool:=(E i).any λp=>decide (4000 < p.length)
def hypL (E:Nat→List Po):Nat→List Po
 | 0=>[]
 | i+1=>hypL E i++E i
theorem any_yes {E:Nat→List Po} {i n:Nat} (hi:i < n) (h:bigE E i=true):(List.range n).any (bigE E)=true:=List.any_eq_true.2 ⟨i,List.mem_range.2 hi,h⟩
theorem any_no {E:Nat→List Po} {n:Nat} (h:∀j,j < n→bigE E j=false):(List.range n).any (bigE E)=false:=by
 rw [List.any_eq_false];intro j hj;rw [h j (List.mem_range.1 hj)];simp
theorem rhOf (ss:List RS) (gs:List RG) (cs:List Pt) (vs:List Vt) (E:Nat→List Po) (hE:∀i,(E i).length≤10) (hl:ss.length≤1000)
 (co:Pure prog 91 [figA ss gs] (.tup [frmA cs vs,iv 0]))
 (hst:∀i,i < ss.length→Pure prog 141 [figA ss gs,frmA cs vs,iv i] (.tup [.sl 1 ((E i).map poA),iv 0])) :
 Pure prog 90 [figA ss gs] (if (List.range ss.length).any (bigE E)=true then .tup [.v (.slice none 0 0),iv 4] else .tup [.sl 1 ((hypL E ss.length).map poA),iv 0]):=by
 have co:Pure prog 91 [.agg [.sl 6 (ss.map RS.av),.sl 5 (gs.map RG.av)]] (.tup [.agg [.sl 2 (cs.map coA),.sl 3 (vs.map Vt.av)],iv 0]):=co;have hst:∀i,i < ss.length→Pure prog 141 [.agg [.sl 6 (ss.map RS.av),.sl 5 (gs.map RG.av)],.agg [.sl 2 (cs.map coA),.sl 3 (vs.map Vt.av)],iv i] (.tup [.sl 1 ((E i).map poA),iv 0]):=hst;have hls:(ss.map RS.av).length=ss.length:=Zy3 ..;have hhl:∀i,i≤ss.length→(hypL E i).length≤10*i:=λi=>by
  induction i with
  | zero=>intro _;simp [hypL]
  | succ i ih =>
    intro h;have h1:=ih zo;have h2:=hE i;have h3:hypL E (i+1)=hypL E i++E i:=rfl;rw [h3,Zzq];omega
 show Pure _ _ [.agg [.sl 6 (ss.map RS.av),.sl 5 (gs.map RG.av)]] _;generalize ss.map RS.av=M at *;generalize gs.map RG.av=N at *;generalize cs.map coA=C at *;generalize vs.map Vt.av=V at *;refine pI func90 rfl ntmps90 results90 call90 ?_;(focus (refine wkap (w_1 hls) (w_1 co) (w_r 0) ?_;(repeat' first|exact w_t|apply w_l);all_goals intros));rename_i g1 g4;refine Zc7 (Frz.nilOwn (d:=6) 47 1 157 (gC)) ?_;refine Zab (ι:=Nat) (λi e m=>i≤ss.length∧e 1=.pbox 1 g1 0∧m 1=some (.box g1 49 [.sl 6 M,.sl 5 N] false)∧e 4=.pbox 4 g4 0∧m 4=some (.box g4 62 [.sl 2 C,.sl 3 V] false)∧e 7=iv i∧(∃sv,e 6=.own 47 sv∧m 47=some (.row sv 157 1 ((hypL E i).map poA) 0))∧∀j,j < i→bigE E j=false) (λi=>ss.length - i) 0 zr ?_ ?_
 ·rintro i e m ⟨hi,e1,m1,e4,m4,e7,⟨sv,e6,m6⟩,hj⟩
  by_cases hlt:i < ss.length
  ·have cst:=hst i hlt;have hyes:bigE E i=true→(List.range ss.length).any (bigE E)=true:=any_yes hlt;have hnx:bigE E i=false→∀j,j < i+1→bigE E j=false:=λh j hjj=>by
    by_cases e:j=i
    ·rw [e];exact h
    ·exact hj j zo
   have hrow:(hypL E (i+1)).map poA=(hypL E i).map poA++(E i).map poA:=by show(hypL E i++E i).map poA=_;rw [Zzz]
   have hll:((hypL E i).map poA).length≤10000:=by rw [Zy3];have:=hhl i hi;omega
   have hbig:bigE E i=(E i).any λp=>decide (4000 < p.length):=rfl;have hle:=hE i;have hgE:∀y (h:y < (E i).length),((E i).map poA).getD y .u=.sl 4 ((E i)[y].map tmA):=λy h=>Zac poA h;have hlE:((E i).map poA).length=(E i).length:=Zy3 ..;clear hst hhl hj co;generalize bigE E i=b at *;generalize (hypL E i).map poA=R at *;generalize (E i).map poA=LA at *;generalize hL:E i=L at *;(focus (refine wkap (w_9 e1 m1 e4 m4 e7 e6 m6 hls hlE) (w_1 cst) (w_r 0) ?_;(repeat' first|exact w_t|apply w_l);all_goals intros));refine Zab (ι:=Nat) (λy e m=>y≤L.length∧e 1=.pbox 1 g1 0∧m 1=some (.box g1 49 [.sl 6 M,.sl 5 N] false)∧e 4=.pbox 4 g4 0∧m 4=some (.box g4 62 [.sl 2 C,.sl 3 V] false)∧e 7=iv i∧e 6=.own 47 sv∧m 47=some (.row sv 157 1 R 0)∧e 8=.sl 1 LA∧e 10=iv y∧∀j (h:j < L.length),j < y→¬4000 < L[j].length) (λy=>L.length - y) 0 zr ?_ ?_
   ·rintro y e m ⟨hy,e1,m1,e4,m4,e7,e6,m6,e8,e10,hq⟩
    by_cases hly:y < L.length
    ·have hgy:=hgE y hly;have hpl:(L[y].map tmA).length=L[y].length:=Zy3 ..;have hby:4000 < L[y].length→b=true:=λh=>by rw [hbig,List.any_eq_true];exact⟨L[y],Zzm hly,by simpa using h⟩
     have hqx:¬4000 < L[y].length→∀j (h:j < L.length),j < y+1→¬4000 < L[j].length:=λh j hjj h2=>by
      by_cases e:j=y
      ·subst e;exact h
      ·exact hq j hjj zo
     clear hq hbig hgE hrow;generalize L[y].map tmA=P at *;by_cases h4:4000 < L[y].length
     ·rw [Zy1 (hyes (hby h4))];clear hqx hby hnx hyes;(focus (refine wklp (w_13 e1 m1 e4 m4 e7 e6 m6 e8 e10 hls hlE hgy hpl) w_t w_t (w_r 0) ?_;(repeat' first|exact w_t|apply w_l);all_goals intros))
     ·have:=hqx h4;clear hqx hby hnx hyes;(focus (refine wkap (w_13 e1 m1 e4 m4 e7 e6 m6 e8 e10 hls hlE hgy hpl) w_t (w_r 0) ?_;(repeat' first|exact w_t|apply w_l);all_goals intros));exact⟨y+1,⟨zo,gW e1,gW m1,gW e4,gW m4,gW e7,gW e6,gW m6,gW e8,gS,this⟩,zo⟩
    ·have hb:b=false:=by
      rw [hbig,List.any_eq_false];intro x hx;obtain⟨j,hjl,rfl⟩:=List.mem_iff_getElem.1 hx;have:=hq j hjl zo
      simpa using this
     have:=hnx hb;clear hq hbig hgE hnx hyes hb;(focus (refine wkap (w_11 e1 m1 e4 m4 e7 e6 m6 e8 e10 hls hlE) w_t (w_r 0) ?_;(repeat' first|exact w_t|apply w_l);all_goals intros));exact⟨i+1,⟨zo,gW e1,gW m1,gW e4,gW m4,gS,⟨_,gC,by rw [hrow];exact gC⟩,this⟩,zo⟩
   ·exact⟨Zzb _,gW e1,gW m1,gW e4,gW m4,gW e7,gW e6,gW m6,gC,gC,λj h h2=>zo⟩
  ·have hin:i=ss.length:=zo;subst hin;rw [Zy0 (by rw [any_no hj];simp)];clear hst hhl hj co;generalize (hypL E ss.length).map poA=R at *;(focus (refine wklp (w_8 e1 m1 e4 m4 e7 e6 m6 hls) w_t (w_1 m6) (w_r 0) ?_;(repeat' first|exact w_t|apply w_l);all_goals intros))
 ·exact⟨Zzb _,gC,gC,gC,gC,gC,⟨_,gC,by(simp (disch:=omega) only [go_sem,hypL,ZAg]<;>repeat' first|rfl|refine⟨?_,?_⟩)⟩,λj h=>zo⟩
theorem rcFrame1 (ss:List RS) (gs:List RG) (cR:Pure prog 13 [figA ss gs] (iv 0)) (ho:FigOk ss) :
 Pure prog 91 [figA ss gs] (if (List.range ss.length).any (bigN ss)=true then .tup [.agg [.v (.slice none 0 0),.v (.slice none 0 0)],iv 4] else .tup [frmA (frN ss ss.length).cs (frN ss ss.length).vs,iv 0]):=by
 have cR:Pure prog 13 [.agg [.sl 6 (ss.map RS.av),.sl 5 (gs.map RG.av)]] (iv 0):=cR;show Pure _ _ [.agg [.sl 6 (ss.map RS.av),.sl 5 (gs.map RG.av)]] _;have hg:∀i (h:i < ss.length),(ss.map RS.av).getD i .u=ss[i].av:=λi h=>Zac RS.av h;have hls:(ss.map RS.av).length=ss.length:=Zy3 ..;have hlen:=ho.len;have hN:∀(i:Nat) (hlt:i < ss.length) (svC svV:Value) (m':Mem),m' 21=some (.row svV 275 3 ((frN ss i).vs.map Vt.av) 0)→m' 20=some (.row svC 203 2 ((frN ss i).cs.map coA) 0)→(frN ss i).vs.length≤64→StOk (frN ss i).cs ss[i]→(∀c∈(frN ss i).cs,Co c.1∧Co c.2) →
  ACall prog 142 [.agg [.own 20 svC,.own 21 svV],.agg [.sl 6 (ss.map RS.av),.sl 5 (gs.map RG.av)],iv i,iv (frN ss i).fr] m' λr σ'=>∃sv,r=.tup [.agg [.own 20 svC,.own 21 sv],coA ((frN ss i).nxt i ss[i]).2]∧σ'=upd m' 21 (some (.row sv 275 3 (((frN ss i).vs++((frN ss i).nxt i ss[i]).1).map Vt.av) 0)) :=
  λi hlt svC svV m' hV hC h1 h2 h3=>rcNext m' 20 21 svC svV (frN ss i).cs (frN ss i).vs (frN ss i).fr i ss gs ss[i] hlt rfl hV hC zo h1 (by have:=Zx4 ss i;omega) zo h2 h3
 generalize ss.map RS.av=M at *;generalize gs.map RG.av=N at *;refine pI func91 rfl ntmps91 results91 call91 ?_;(focus (refine wkap (w_1 hls) (w_1 cR) (w_r 0) ?_;(repeat' first|exact w_t|apply w_l);all_goals intros));rename_i g1 g2 g5;refine Zc7 (Frz.nilBox (k:=5) 0 20 2 203 (gC) rfl zo) ?_;refine Zc7 (Frz.nilBox (k:=5) 1 21 3 275 (gC) rfl zo) ?_;refine Zab (ι:=Nat) (λi e m=>i≤ss.length∧e 1=.pbox 1 g1 0∧m 1=some (.box g1 49 [.sl 6 M,.sl 5 N] false)∧e 2=.pbox 2 g2 0∧m 2=some (.box g2 62 [.v (.slice none 0 0),.v (.slice none 0 0)] false)∧e 5=.pbox 5 g5 0∧e 6=iv (frN ss i).fr∧e 18=.sl 6 M∧e 19=iv ss.length∧e 20=iv i∧(∃svC svV,m 5=some (.box g5 62 [.own 20 svC,.own 21 svV] false)∧m 20=some (.row svC 203 2 ((frN ss i).cs.map coA) 0)∧m 21=some (.row svV 275 3 ((frN ss i).vs.map Vt.av) 0))∧∀j,j < i→bigN ss j=false) (λi=>ss.length - i) 0 zr ?_ ?_
 ·rintro i e m ⟨hi,e1,m1,e2,m2,e5,e6,e18,e19,e20,⟨svC,svV,m5,m20,m21⟩,hbig⟩
  by_cases hlt:i < ss.length
  ·have hgi:=hg i hlt;obtain⟨D,hD,hn⟩:=ho.fi hi hbig;have hco:=hD.co hn;have hst:=ho.st hlt;have hfr:=Zx4 ss i;have hnv:=hD.nv;have hb:=Zyq hlt;have hsu:=Zir hlt;have hn3:=Zsi (frN ss i) i ss[i];have hcl:=Zh5 ss i;have hst2:=λm' hV hC=>hN i hlt svC svV m' hV hC hnv hst hco;clear hD hco hst hN hg cR;generalize hs:ss[i]=s at *;generalize hf:frN ss i=f at *;generalize hx:f.nxt i s=nx at *;obtain⟨nv,c1,c2⟩:=nx;obtain⟨k,nm,ar,⟨rs,rl,rd⟩⟩:=s;obtain⟨cs,vs,fr⟩:=f;simp only at *;(focus (refine wkap (w_14 e1 m1 e2 m2 e5 e6 e18 e19 e20 m5 m20 m21 hgi hls) w_t (w_r 0) ?_;(repeat' first|exact w_t|apply w_l);all_goals intros))
   refine Zcp (hst2 _ (gW m21) (gW m20)) ?_;intro sv;have hvl:((vs++nv).map Vt.av).length=(vs++nv).length:=Zy3 ..;have hvl2:(vs++nv).length≤67:=by rw [Zzq];omega
   have hnx:∀j,j < i+1→bigN ss i=false→bigN ss j=false:=λj hj h=>by
    by_cases e:j=i
    ·rw [e];exact h
    ·exact hbig j zo
   have hany:bigN ss i=true→(List.range ss.length).any (bigN ss)=true:=λh=>List.any_eq_true.2 ⟨i,List.mem_range.2 hlt,h⟩;generalize vs++nv=vs2 at *;have hc1:(c1.map tmA).length=c1.length:=Zy3 ..;have hc2:(c2.map tmA).length=c2.length:=Zy3 ..;have hcsl:(cs.map coA).length=cs.length:=Zy3 ..;by_cases b1:64 < vs2.length
   ·rw [Zy1 (hany (by rw [hb];simp [b1]))];(focus (refine wklp (w_12 e1 e2 m2 e5 e6 e18 e19 e20 m5 m20 hvl hls) w_t (w_1 e2) (w_r 0) ?_;(repeat' first|exact w_t|apply w_l);all_goals intros))
   ·by_cases b2:4000 < c1.length
    ·rw [Zy1 (hany (by rw [hb];simp [b2]))];(focus (refine wklp (w_13 e1 e2 m2 e5 e6 e18 e19 e20 m5 m20 hvl hc1 hls) w_t (w_1 e2) (w_r 0) ?_;(repeat' first|exact w_t|apply w_l);all_goals intros))
    ·by_cases b3:4000 < c2.length
     ·rw [Zy1 (hany (by rw [hb];simp [b3]))];(focus (refine wklp (w_14 e1 e2 m2 e5 e6 e18 e19 e20 m5 m20 hvl hc1 hc2 hls) w_t (w_1 e2) (w_r 0) ?_;(repeat' first|exact w_t|apply w_l);all_goals intros))
     ·have hbf:bigN ss i=false:=by rw [hb];simp [b1,b2,b3]
      clear hany;by_cases k1:k=1
      ·subst k1;(focus (refine wkap (w_15 e1 e2 m2 e5 e6 e18 e19 e20 m5 m20 hvl hc1 hc2 hcsl hls) w_t (w_r 0) ?_;(repeat' first|exact w_t|apply w_l);all_goals intros));rename_i svC2;refine⟨i+1,⟨zo,gW e1,gW m1,gW e2,gW m2,gW e5,by(rw [hsu];exact gS),gW e18,gW e19,gS,⟨svC2,sv,?_,?_,?_⟩,λj hj=>hnx j hj hbf⟩,zo⟩
       ·(simp (disch:=omega) only [go_sem,List.set_cons_zero]<;>repeat' first|rfl|refine⟨?_,?_⟩)
       ·rw [hsu,Zzz];exact gC
       ·rw [hsu];exact gC
      ·(focus (refine wkap (w_15 e1 e2 m2 e5 e6 e18 e19 e20 m5 m20 hvl hc1 hc2 hcsl hls) w_t (w_r 0) ?_;(repeat' first|exact w_t|apply w_l);all_goals intros));rename_i svC2;refine⟨i+1,⟨zo,gW e1,gW m1,gW e2,gW m2,gW e5,by(rw [hsu];simp only [Zy0 k1];exact gW e6),gW e18,gW e19,gS,⟨svC2,sv,?_,?_,?_⟩,λj hj=>hnx j hj hbf⟩,zo⟩
       ·(simp (disch:=omega) only [go_sem,List.set_cons_zero]<;>repeat' first|rfl|refine⟨?_,?_⟩)
       ·rw [hsu,Zzz];exact gC
       ·rw [hsu];exact gC
  ·have hin:i=ss.length:=zo;subst hin
   have hno:¬(List.range ss.length).any (bigN ss)=true:=by
    rw [List.any_eq_true]
    rintro ⟨j,hj,hb⟩
    rw [hbig j (List.mem_range.1 hj)] at hb;cases hb
   rw [Zy0 hno];clear hN hg;generalize (frN ss ss.length).fr=fr at *;generalize (frN ss ss.length).cs=cs at *;generalize (frN ss ss.length).vs=vs at *;(focus (refine wklp (w_12 e1 e2 m2 e5 e6 e18 e19 e20 m5 m20 m21 hls) w_t (w_5 e2 m2 m5 m20 m21) (w_r 0) ?_;(repeat' first|exact w_t|apply w_l);all_goals intros))
 ·exact⟨Zzb _,gC,gC,gC,gC,gC,by(simp (disch:=omega) only [go_sem,frN]<;>repeat' first|rfl|refine⟨?_,?_⟩),gC,gW hls,gC,⟨_,_,by(simp (disch:=omega) only [go_sem,List.set_cons_zero,List.set_cons_succ,frN]<;>repeat' first|rfl|refine⟨?_,?_⟩),by(simp (disch:=omega) only [go_sem,frN,ZAg]<;>repeat' first|rfl|refine⟨?_,?_⟩),by(simp (disch:=omega) only [go_sem,frN,ZAg]<;>repeat' first|rfl|refine⟨?_,?_⟩)⟩,λj hj=>zo⟩
end Go.Proofs.YtjbjejmmnbdbiaaGreat
namespace Go.Proofs.YtjbjejmmnbdbiaaGreat
open Go Go.RowKit Go.Pg Go.Proofs.Tryz
attribute [-bool_to_prop] Bool.and_eq_decide Bool.or_eq_decide Bool.decide_beq_decide decide_eq_decide
attribute [go_sem] underlying161
attribute [local go_sem] Zbt Zbm Zbo Zbx Zey Zgi Zkd Zlk Zpw
structure RC where
 k:Int
 ar:List Int
 st:Int
abbrev RC.av (c:RC):AV:=.agg [iv c.k,ivs c.ar,iv c.st]
def cAr (k:Int):Int:=if k=1 then 2 else if k=2 then 3 else if k=3 then 4 else if k=4 then 0 else -1
def cErr (k:Int) (ar:List Int) (n:Nat):Int:=if cAr k < 0 then 8 else if (ar.length:Int)≠cAr k then 1 else if outB n ar=true then 2 else 0
def lineB (a b:ByteArray):ByteArray:=if 1 < a.size∨1 < b.size then ⟨#[40]⟩++a++⟨#[32]⟩++b++⟨#[41]⟩ else a++b
def cTxt (k:Int) (x y z w:ByteArray):ByteArray :=
 if k=1 then x++⟨#[32,33,61,32]⟩++y
 else if k=2 then x++⟨#[44,32]⟩++y++⟨#[44,32]⟩++z++⟨#[32,97,114,101,32,110,111,116,32,99,111,108,108,105,110,101,97,114]⟩
 else lineB x y++⟨#[32,97,110,100,32]⟩++lineB z w++⟨#[32,97,114,101,32,110,111,116,32,112,97,114,97,108,108,101,108]⟩
abbrev nmA (ss:List ByteArray) (j:Int):ByteArray:=ss.getD j.toNat ByteArray.empty
def cRes (c:RC) (ss:List ByteArray):AV :=
 if cErr c.k c.ar ss.length≠0 then .tup [strA ⟨#[]⟩,iv (cErr c.k c.ar ss.length)]
 else if c.k=4 then (if c.st < 0∨(ss.length:Int)≤c.st then .tup [strA ⟨#[]⟩,iv 2] else .tup [strA (⟨#[115,108,111,112,101,32,111,102,32]⟩++nmA ss c.st),iv 0])
 else .tup [strA (cTxt c.k (nmA ss (gI c.ar 0)) (nmA ss (gI c.ar 1)) (nmA ss (gI c.ar 2)) (nmA ss (gI c.ar 3))),iv 0]
attribute [go_sem] underlying153
attribute [local go_sem] Za6 Zba Za9 Za3 Za4 Zb8 Zca Zb9 Zbz Zb1 Zdb Zdd Zbs Zcs Zeo Zen Zl1 Zth
def cHas (k:Int):Bool:=decide (6≤k∧k≤14)
def cOf (s:RS) (i:Nat):RC :=
 if s.k=6 then ⟨4,[],i⟩
 else if s.k=7∨s.k=8 then ⟨1,[gI s.ar 1,gI s.ar 2],i⟩
 else if s.k=9 then ⟨3,s.ar,i⟩
 else if s.k=10∨s.k=12∨s.k=14 then ⟨1,[gI s.ar 0,gI s.ar 1],i⟩
 else if s.k=11 then ⟨2,s.ar,i⟩
 else if s.k=13 then ⟨1,[gI s.ar 0,gI s.ar 2],i⟩
 else ⟨0,[],0⟩
theorem Zu5 (k:Int) (i:Int) (b:Bool):Vk (.tup [.agg [iv k,.v (.slice none 0 0),iv i],.v (.bool b)]) (.tup [(RC.mk k [] i).av,.v (.bool b)]) :=
 Vk.tupL (.cons (Vk.aggL (.cons (.refl _) (.cons (.nil 1) (.cons (.refl _) .nil)))) (.cons (.refl _) .nil))
theorem len2 {ar:List Int} (h:(ar.length:Int)=2):∃x y,ar=[x,y]:=by
 match ar,h with
 | [x,y],_=>exact⟨x,y,rfl⟩
theorem len3 {ar:List Int} (h:(ar.length:Int)=3):∃x y z,ar=[x,y,z]:=by
 match ar,h with
 | [x,y,z],_=>exact⟨x,y,z,rfl⟩
theorem len4 {ar:List Int} (h:(ar.length:Int)=4):∃x y z w,ar=[x,y,z,w]:=by
 match ar,h with
 | [x,y,z,w],_=>exact⟨x,y,z,w,rfl⟩
theorem rkStep (ss:List RS) (gs:List RG) (i:Nat) (s:RS) (hi:i < ss.length) (hs:ss[i]=s) (hl:(s.ar.length:Int)=arS s.k):Pure prog 143 [figA ss gs,iv i] (.tup [(cOf s i).av,.v (.bool (cHas s.k))]):=by
 have hg:(ss.map RS.av).getD i .u=s.av:=by rw [Zac RS.av hi,hs]
 have hls:(ss.map RS.av).length=ss.length:=Zy3 ..;show Pure _ _ [.agg [.sl 6 (ss.map RS.av),.sl 5 (gs.map RG.av)],iv i] _;clear hs;generalize ss.map RS.av=M at *;generalize gs.map RG.av=N at *;obtain⟨k,nm,ar,⟨rs,rl,rd⟩⟩:=s;simp only at *;by_cases k6:k=6
 ·subst k6;refine Zcm (r:=.tup [.agg [iv 4,.v (.slice none 0 0),iv i],.v (.bool true)]) ?_ (Zu5 4 i true);refine pI func143 rfl ntmps143 results143 call143 ?_;(focus (refine wkld (w_2 hls hg) w_t w_t w_t ?_;(repeat' first|exact w_t|apply w_l);all_goals intros))
 by_cases k7:k=7
 ·subst k7;obtain⟨x,y,z,rfl⟩:=len3 (by simpa [arS] using hl);unfold cOf cHas;simp [gI];refine pI func143 rfl ntmps143 results143 call143 ?_;(focus (refine wkld (w_2 hls hg) w_t w_t (w_1 (w_d 7 [] [9] [32])) ?_;(repeat' first|exact w_t|apply w_l);all_goals intros))
 by_cases k8:k=8
 ·subst k8;obtain⟨x,y,z,rfl⟩:=len3 (by simpa [arS] using hl);unfold cOf cHas;simp [gI];refine pI func143 rfl ntmps143 results143 call143 ?_;(focus (refine wkld (w_2 hls hg) w_t w_t (w_1 (w_d 7 [] [9] [32])) ?_;(repeat' first|exact w_t|apply w_l);all_goals intros))
 by_cases k9:k=9
 ·subst k9;obtain⟨x,y,z,w,rfl⟩:=len4 (by simpa [arS] using hl);unfold cOf cHas;simp [gI];refine pI func143 rfl ntmps143 results143 call143 ?_;(focus (refine wkld (w_2 hls hg) w_t w_t (w_1 (w_d 9 [] [15] [49])) ?_;(repeat' first|exact w_t|apply w_l);all_goals intros))
 by_cases k10:k=10
 ·subst k10;obtain⟨x,y,z,rfl⟩:=len3 (by simpa [arS] using hl);unfold cOf cHas;simp [gI];refine pI func143 rfl ntmps143 results143 call143 ?_;(focus (refine wkld (w_2 hls hg) w_t w_t (w_1 (w_d 13 [] [9] [62])) ?_;(repeat' first|exact w_t|apply w_l);all_goals intros))
 by_cases k11:k=11
 ·subst k11;obtain⟨x,y,z,rfl⟩:=len3 (by simpa [arS] using hl);unfold cOf cHas;simp [gI];refine pI func143 rfl ntmps143 results143 call143 ?_;(focus (refine wkld (w_2 hls hg) w_t w_t (w_1 (w_d 15 [] [12] [76])) ?_;(repeat' first|exact w_t|apply w_l);all_goals intros))
 by_cases k12:k=12
 ·subst k12;obtain⟨x,y,z,w,rfl⟩:=len4 (by simpa [arS] using hl);unfold cOf cHas;simp [gI];refine pI func143 rfl ntmps143 results143 call143 ?_;(focus (refine wkld (w_2 hls hg) w_t w_t (w_1 (w_d 13 [] [9] [62])) ?_;(repeat' first|exact w_t|apply w_l);all_goals intros))
 by_cases k13:k=13
 ·subst k13;obtain⟨x,y,z,w,rfl⟩:=len4 (by simpa [arS] using hl);unfold cOf cHas;simp [gI];refine pI func143 rfl ntmps143 results143 call143 ?_;(focus (refine wkld (w_2 hls hg) w_t w_t (w_1 (w_d 17 [] [9] [87])) ?_;(repeat' first|exact w_t|apply w_l);all_goals intros))
 by_cases k14:k=14
 ·subst k14;obtain⟨x,y,rfl⟩:=len2 (by simpa [arS] using hl);unfold cOf cHas;simp [gI];refine pI func143 rfl ntmps143 results143 call143 ?_;(focus (refine wkld (w_2 hls hg) w_t w_t (w_1 (w_d 13 [] [9] [62])) ?_;(repeat' first|exact w_t|apply w_l);all_goals intros))
 have e1:cOf ⟨k,nm,ar,⟨rs,rl,rd⟩⟩ i=⟨0,[],0⟩:=by unfold cOf;simp [k6,k7,k8,k9,k10,k11,k12,k13,k14]
 have e2:cHas k=false:=by unfold cHas;rw [ZBe];omega
 rw [e1];simp only [e2];refine Zcm (r:=.tup [.agg [iv 0,.v (.slice none 0 0),iv 0],.v (.bool false)]) ?_ (Zu5 0 0 false);clear e1 e2;refine pI func143 rfl ntmps143 results143 call143 ?_;(focus (refine wkld (w_2 hls hg) w_t w_t w_t ?_;(repeat' first|exact w_t|apply w_l);all_goals intros))
def sameC (a b:RC):Bool:=decide (a.k=b.k) && (decide (a.st=b.st) && decide (a.ar=b.ar))
theorem rkSame (a b:RC) (h1:a.ar.length≤1000000000) (h2:b.ar.length≤1000000000):Pure prog 194 [a.av,b.av] (.v (.bool (sameC a b))):=by
 obtain⟨k,ar,st⟩:=a;obtain⟨k',ar',st'⟩:=b;unfold sameC;simp only at *;show Pure _ _ [.agg [iv k,.sl 1 (ar.map iv),iv st],.agg [iv k',.sl 1 (ar'.map iv),iv st']] _;have l1:(ar.map iv).length=ar.length:=Zy3 ..;have l2:(ar'.map iv).length=ar'.length:=Zy3 ..;by_cases hk:k=k'
 ·by_cases hs:st=st'
  ·by_cases hl:ar.length=ar'.length
   ·have g1:∀i (h:i < ar.length),(ar.map iv).getD i .u=iv (gI ar i):=λi h=>by rw [Zac iv h,Zga h]
    have g2:∀i (h:i < ar.length),(ar'.map iv).getD i .u=iv (gI ar' i):=λi h=>by rw [Zac iv zo,Zga zo]
    have hne:∀i,i < ar.length→gI ar i≠gI ar' i→decide (ar=ar')=false:=λi hi h=>Zy2 λe=>h (by rw [e]);have heq:(∀i,i < ar.length→gI ar i=gI ar' i)→decide (ar=ar')=true:=λh=>Zy6 (List.ext_getElem hl λi h3 h4=>by have:=h i h3;rwa [Zga h3,Zga h4] at this);subst hk hs;simp only [decide_true,ZAz];generalize decide (ar=ar')=v at *;generalize ar.map iv=A at *;generalize ar'.map iv=B at *;rw [←hl] at l2;generalize ar.length=n at *;refine pI func194 rfl ntmps194 results194 call194 ?_;(focus (refine wkad (w_2 l1 l2) w_t w_t ?_;(repeat' first|exact w_t|apply w_l);all_goals intros))
    all_goals rename_i ga gb
    refine Zab (ι:=Nat) (λi e m=>i≤n∧e 2=.pbox 2 ga 0∧m 2=some (.box ga 161 [iv k,.sl 1 A,iv st] false)∧e 3=.pbox 3 gb 0∧m 3=some (.box gb 161 [iv k,.sl 1 B,iv st] false)∧e 5=iv i∧∀j,j < i→gI ar j=gI ar' j) (λi=>n - i) 0 zr ?_ ?_
    ·rintro i e m ⟨hi,e2,m2,e3,m3,e5,hj⟩
     by_cases hlt:i < n
     ·have x1:=g1 i hlt;have x2:=g2 i hlt;have hnx:gI ar i=gI ar' i→∀j,j < i+1→gI ar j=gI ar' j:=λh j hjj=>by
       by_cases e:j=i
       ·rw [e];exact h
       ·exact hj j zo
      have hn:=hne i hlt;clear hj heq hne g1 g2;by_cases hx:gI ar i=gI ar' i
      ·have:=hnx hx;rw [←hx] at x2;clear hnx hn;generalize gI ar i=x at *;(focus (refine wkad (w_9 e2 m2 e3 m3 e5 l1 l2 x1 x2) w_t w_t ?_;(repeat' first|exact w_t|apply w_l);all_goals intros));exact⟨i+1,⟨zo,gW e2,gW m2,gW e3,gW m3,gS,this⟩,zo⟩
      ·rw [hn hx];clear hnx hn;generalize gI ar i=x at *;generalize gI ar' i=y at *;(focus (refine wkad (w_9 e2 m2 e3 m3 e5 l1 l2 x1 x2) w_t w_t ?_;(repeat' first|exact w_t|apply w_l);all_goals intros));all_goals exact gL
     ·rw [heq λj h=>hj j zo];clear hj heq hne g1 g2;(focus (refine wkld (w_7 e2 m2 e3 m3 e5 l1 l2) w_t w_t w_t ?_;(repeat' first|exact w_t|apply w_l);all_goals intros))
    ·exact⟨Zzb _,gC,gC,gC,gC,gC,λj h=>zo⟩
   ·have:decide (ar=ar')=false:=Zy2 λe=>hl (by rw [e]);rw [this,ZBt,ZBt];subst hk hs;refine pI func194 rfl ntmps194 results194 call194 ?_;(focus (refine wkad (w_2 l1 l2) w_t w_t ?_;(repeat' first|exact w_t|apply w_l);all_goals intros));all_goals exact gL
  ·rw [Zy2 hs,Zzr,ZBt];subst hk;refine pI func194 rfl ntmps194 results194 call194 ?_;(focus (refine wkad (w_2 l1 l2) w_t w_t ?_;(repeat' first|exact w_t|apply w_l);all_goals intros));all_goals exact gL
 ·rw [Zy2 hk,Zzr];refine pI func194 rfl ntmps194 results194 call194 ?_;(focus (refine wkad (w_2 l1 l2) w_t w_t ?_;(repeat' first|exact w_t|apply w_l);all_goals intros));all_goals exact gL
def cndN (ss:List RS):Nat→List RC
 | 0=>[]
 | i+1=>cndN ss i++if cHas (ss.getD i RS.zero).k=true then [cOf (ss.getD i RS.zero) i] else []
theorem cndN_y {ss:List RS} {i:Nat} (hi:i < ss.length) (h:cHas ss[i].k=true):(cndN ss (i+1)).map RC.av=(cndN ss i).map RC.av++[(cOf ss[i] i).av]:=by
 show(cndN ss i++_).map RC.av=_;rw [show ss.getD i RS.zero=ss[i] from by rw [Zzc,Zy4 hi];rfl,Zy1 h,Zzz];rfl
theorem cndN_n {ss:List RS} {i:Nat} (hi:i < ss.length) (h:cHas ss[i].k=false):(cndN ss (i+1)).map RC.av=(cndN ss i).map RC.av:=by
 show(cndN ss i++_).map RC.av=_;rw [show ss.getD i RS.zero=ss[i] from by rw [Zzc,Zy4 hi];rfl,Zy0 (by rw [h];simp),ZAh]
theorem Zs3 (ss:List RS):∀i,(cndN ss i).length≤i
 | 0=>by simp [cndN]
 | i+1=>by
   show(cndN ss i++_).length≤_;have:=Zs3 ss i;rw [Zzq];split<;>simp<;>omega
theorem rkOf (ss:List RS) (gs:List RG) (cs:List (Po × Po)) (vs:List Vt) (z:Int) (co:Pure prog 91 [figA ss gs] (.tup [frmA cs vs,iv z])) (hl:ss.length≤1000) (hk:z=0→∀i (h:i < ss.length),(ss[i].ar.length:Int)=arS ss[i].k) :
 Pure prog 92 [figA ss gs] (.tup [.sl 3 (if z=0 then (cndN ss ss.length).map RC.av else []),iv z]):=by
 have hg:∀i (h:i < ss.length),(ss.map RS.av).getD i .u=ss[i].av:=λi h=>Zac RS.av h;have hls:(ss.map RS.av).length=ss.length:=Zy3 ..;by_cases hz:z=0
 ·subst hz;rw [Zy1 rfl];have hy:=λi (h:i < ss.length)=>cndN_y (ss:=ss) h;have hn:=λi (h:i < ss.length)=>cndN_n (ss:=ss) h;have hcl:=Zs3 ss;have hst:∀i (h:i < ss.length),Pure prog 143 [.agg [.sl 6 (ss.map RS.av),.sl 5 (gs.map RG.av)],iv i] (.tup [(cOf ss[i] i).av,.v (.bool (cHas ss[i].k))]):=λi h=>rkStep ss gs i ss[i] h rfl (hk rfl i h);show Pure _ _ [.agg [.sl 6 (ss.map RS.av),.sl 5 (gs.map RG.av)]] _;have co:Pure prog 91 [.agg [.sl 6 (ss.map RS.av),.sl 5 (gs.map RG.av)]] (.tup [.agg [.sl 2 (cs.map coA),.sl 3 (vs.map Vt.av)],iv 0]):=co;clear hk;generalize ss.map RS.av=M at *;generalize gs.map RG.av=N at *
  generalize cs.map coA=C at *;generalize vs.map Vt.av=V at *;refine pI func92 rfl ntmps92 results92 call92 ?_;(focus (refine wkap (w_1 hls) (w_1 co) (w_r 0) ?_;(repeat' first|exact w_t|apply w_l);all_goals intros));rename_i g1 g4;refine Zc7 (Frz.nilOwn (d:=6) 35 3 161 (gC)) ?_;refine Zab (ι:=Nat) (λi e m=>i≤ss.length∧e 1=.pbox 1 g1 0∧m 1=some (.box g1 49 [.sl 6 M,.sl 5 N] false)∧e 7=iv i∧∃sv,e 6=.own 35 sv∧m 35=some (.row sv 161 3 ((cndN ss i).map RC.av) 0)) (λi=>ss.length - i) 0 zr ?_ ?_
  ·rintro i e m ⟨hi,e1,m1,e7,sv,e6,m6⟩
   by_cases hlt:i < ss.length
   ·have hgi:=hg i hlt;have cst:=hst i hlt;have hy:=hy i hlt;have hn:=hn i hlt;have hll:((cndN ss i).map RC.av).length≤1000:=by rw [Zy3];have:=hcl i;omega
    clear hst hg hcl;generalize (cndN ss i).map RC.av=L at *;generalize cOf ss[i] i=c at *;obtain⟨ck,ca,ci⟩:=c;generalize ss[i]=s at *;obtain⟨k,nm,ar,⟨rs,rl,rd⟩⟩:=s;simp only at *;generalize cHas k=b at *
    cases b with
    | true =>
      have hy:=hy rfl;(focus (refine wkap (w_7 e1 m1 e7 e6 m6 hls hgi) (w_1 cst) (w_r 0) ?_;(repeat' first|exact w_t|apply w_l);all_goals intros));exact⟨i+1,⟨zo,gW e1,gW m1,gS,_,gC,by rw [hy];exact gC⟩,zo⟩
    | false =>
      have hn:=hn rfl;(focus (refine wkap (w_7 e1 m1 e7 e6 m6 hls hgi) (w_1 cst) (w_r 0) ?_;(repeat' first|exact w_t|apply w_l);all_goals intros));exact⟨i+1,⟨zo,gW e1,gW m1,gS,sv,gW e6,by rw [hn];exact gW m6⟩,zo⟩
   ·have hin:i=ss.length:=zo;subst hin;clear hst hg hcl hy hn;generalize (cndN ss ss.length).map RC.av=L at *;(focus (refine wklp (w_6 e1 m1 e7 e6 m6 hls) w_t (w_1 m6) (w_r 0) ?_;(repeat' first|exact w_t|apply w_l);all_goals intros))
  ·exact⟨Zzb _,gC,gC,gC,_,gC,by(simp (disch:=omega) only [go_sem,cndN,ZAg]<;>repeat' first|rfl|refine⟨?_,?_⟩)⟩
 ·rw [Zy0 hz];refine Zcm (r:=.tup [.v (.slice none 0 0),iv z]) ?_ (Vk.tupL (.cons (.nil 3) (.cons (.refl _) .nil)));show Pure _ _ [.agg [.sl 6 (ss.map RS.av),.sl 5 (gs.map RG.av)]] _;have co:Pure prog 91 [.agg [.sl 6 (ss.map RS.av),.sl 5 (gs.map RG.av)]] (.tup [.agg [.sl 2 (cs.map coA),.sl 3 (vs.map Vt.av)],iv z]):=co;clear hk hg;generalize ss.map RS.av=M at *;generalize gs.map RG.av=N at *;generalize cs.map coA=C at *;generalize vs.map Vt.av=V at *;refine pI func92 rfl ntmps92 results92 call92 ?_;(focus (refine wklp (w_2 hls hz) (w_1 co) w_t (w_r 0) ?_;(repeat' first|exact w_t|apply w_l);all_goals intros))
def cndOk (c:RC) (ss:List RS):Bool:=decide (0≤c.st∧c.st < (ss.length:Int)) && (cHas (ss.getD c.st.toNat RS.zero).k && sameC c (cOf (ss.getD c.st.toNat RS.zero) c.st.toNat))
theorem cOf_len {s:RS} {i:Nat} (h:s.ar.length≤1000):(cOf s i).ar.length≤1000:=by
 unfold cOf
 repeat' split
 all_goals first|exact h|simp
theorem arS_le' (k:Int):arS k≤4:=by
 unfold arS
 repeat' split
 all_goals omega
theorem rkRight (c:RC) (ss:List RS) (gs:List RG) (hc:c.ar.length≤1000) (hl:ss.length≤1000) (hk:∀i (h:i < ss.length),(ss[i].ar.length:Int)=arS ss[i].k):Pure prog 144 [c.av,figA ss gs] (.v (.bool (cndOk c ss))):=by
 show Pure _ _ [c.av,.agg [.sl 6 (ss.map RS.av),.sl 5 (gs.map RG.av)]] _;have hls:(ss.map RS.av).length=ss.length:=Zy3 ..;obtain⟨k,ar,st⟩:=c;unfold cndOk;simp only at *;by_cases hs:0≤st∧st < (ss.length:Int)
 ·rw [Zy6 hs,ZAz];obtain⟨s,rfl⟩:∃s:Nat,st=s:=⟨st.toNat,zo⟩;rw [ZAm];have hlt:s < ss.length:=zo;have hgi:(ss.map RS.av).getD s .u=ss[s].av:=Zac RS.av hlt;rw [show ss.getD s RS.zero=ss[s] from by rw [Zzc,Zy4 hlt];rfl];have cst:Pure prog 143 [.agg [.sl 6 (ss.map RS.av),.sl 5 (gs.map RG.av)],iv s] (.tup [(cOf ss[s] s).av,.v (.bool (cHas ss[s].k))]):=rkStep ss gs s ss[s] hlt rfl (hk s hlt);have cm:=rkSame ⟨k,ar,s⟩ (cOf ss[s] s) (by show ar.length≤_;omega) (by have:=cOf_len (s:=ss[s]) (i:=s) (by have:=hk s hlt;have:=arS_le' ss[s].k;omega);omega)
  clear hk;generalize sameC ⟨k,ar,s⟩ (cOf ss[s] s)=v at *;generalize cOf ss[s] s=c at *;obtain⟨ck,ca,ci⟩:=c;generalize ss.map RS.av=M at *;generalize gs.map RG.av=N at *;generalize ss[s]=t at *;obtain⟨k',nm,ar',⟨rs,rl,rd⟩⟩:=t;simp only at *;generalize cHas k'=b at *;cases b
  ·refine pI func144 rfl ntmps144 results144 call144 ?_;(focus (refine wklp (w_2 hls hgi) (w_2 cst cm) w_t (w_r 0) ?_;(repeat' first|exact w_t|apply w_l);all_goals intros))
  ·refine pI func144 rfl ntmps144 results144 call144 ?_;(focus (refine wklp (w_2 hls hgi) (w_2 cst cm) w_t (w_r 0) ?_;(repeat' first|exact w_t|apply w_l);all_goals intros))
 ·rw [Zy2 hs,Zzr];clear hk;generalize ss.map RS.av=M at *;generalize gs.map RG.av=N at *;by_cases h0:st < 0
  ·refine pI func144 rfl ntmps144 results144 call144 ?_;(focus (refine wklp (w_1 hls) w_t w_t (w_r 0) ?_;(repeat' first|exact w_t|apply w_l);all_goals intros))
  ·have h1:(ss.length:Int)≤st:=zo;refine pI func144 rfl ntmps144 results144 call144 ?_;(focus (refine wklp (w_1 hls) w_t w_t (w_r 0) ?_;(repeat' first|exact w_t|apply w_l);all_goals intros))
end Go.Proofs.YtjbjejmmnbdbiaaGreat
namespace Go.Proofs.YtjbjejmmnbdbiaaGreat
attribute [-bool_to_prop] Bool.and_eq_decide Bool.or_eq_decide Bool.decide_beq_decide decide_eq_decide
section
open Go Go.RowKit Go.Pg Go.Pol
end
end Go.Proofs.YtjbjejmmnbdbiaaGreat
namespace Go.Proofs.YtjbjejmmnbdbiaaGreat
open Go Go.RowKit Go.Pg Go.Pol Go.Proofs.Tryz
attribute [-bool_to_prop] Bool.and_eq_decide Bool.or_eq_decide Bool.decide_beq_decide decide_eq_decide
theorem Zo3 {α:Type} [DecidableEq α]:∀(l m:List α),l.Nodup→(∀x∈l,x∈m)→l.length≤m.length
 | [],_,_,_=>Zzb _
 | x :: l,m,h,hs=>by
   obtain⟨h1,h2⟩:=List.nodup_cons.1 h;have hx:=hs x (.head _);have:=Zo3 l (m.erase x) h2 λy hy=>(List.mem_erase_of_ne (show y≠x from λe=>h1 (by rw [←e];exact hy))).2 (hs y (.tail _ hy));rw [List.length_erase_of_mem hx] at this;have hp:=List.length_pos_of_mem hx;rw [Zze];omega
theorem Zvi {p:Po} (h:SrtM p):(p.map (·.2)).Nodup:=by
 rw [List.Nodup,List.pairwise_map];refine List.Pairwise.imp ?_ h.2;intro s t hst e;rw [e] at hst;exact ordM.irr _ hst
theorem len_of {r a b:Po} (hr:SrtM r) (h:∀t∈r,t.2∈a.map (·.2)∨t.2∈b.map (·.2)):r.length≤a.length+b.length:=by
 have:=Zo3 (r.map (·.2)) (a.map (·.2)++b.map (·.2)) (Zvi hr) λx hx=>by
  obtain⟨t,ht,rfl⟩:=List.mem_map.1 hx;exact List.mem_append.2 (h t ht)
 simpa using this
theorem mem_scl {q:Rat} {p:Po} {t:Tm} (h:t∈sclM q p):t.2∈p.map (·.2):=by
 unfold sclM at h;split at h
 ·cases h
 ·obtain⟨s,hs,rfl⟩:=List.mem_map.1 h;exact List.mem_map.2 ⟨s,hs,rfl⟩
theorem Zq5 {p q:Po} {t:Tm} (h:t∈addM p q):t.2∈p.map (·.2)∨t.2∈q.map (·.2):=by
 obtain⟨s,hs,e⟩:=Zj3 h;rcases List.mem_append.1 hs with h1 | h1
 ·exact .inl (List.mem_map.2 ⟨s,h1,e.symm⟩)
 ·exact .inr (List.mem_map.2 ⟨s,h1,e.symm⟩)
theorem mem_neg {p:Po} {x:List Int} (h:x∈(Zb3 (-1) p).map (·.2)):x∈p.map (·.2):=by
 unfold Zb3 at h;rw [List.map_map] at h;exact h
theorem Zxn {a b:Po} (q:Rat) (ha:SrtM a) (hb:SrtM b):(addM a (sclM q (subM b a))).length≤a.length+b.length :=
 len_of (Zc0 ordM ha (Zkj (Zdm ordM hb ha))) λt ht=>by
  rcases Zq5 ht with h | h
  ·exact .inl h
  ·obtain⟨s,hs,e⟩:=List.mem_map.1 h;have h1:=mem_scl hs;obtain⟨u,hu,e2⟩:=List.mem_map.1 h1;rcases Zq5 hu with h2 | h2
   ·exact .inr (by rw [←e,←e2];exact h2)
   ·exact .inl (by rw [←e,←e2];exact mem_neg h2)
theorem Zpu {f:FS} (h:∀c∈f.cs,SrtM c.1∧SrtM c.2) (s:RS) (k:Nat):SrtM (f.at s k).1∧SrtM (f.at s k).2:=by
 unfold FS.at;by_cases hk:(gI s.ar k).toNat < f.cs.length
 ·exact h _ (Zcx hk)
 ·rw [Zzc,ZAf zo];exact⟨.nil,.nil⟩
theorem nxt_srt {f:FS} (h:∀c∈f.cs,SrtM c.1∧SrtM c.2) (i:Nat) (s:RS):SrtM (f.nxt i s).2.1∧SrtM (f.nxt i s).2.2:=by
 obtain⟨a1,a2⟩:=Zpu h s 0;obtain⟨b1,b2⟩:=Zpu h s 1;obtain⟨c1,c2⟩:=Zpu h s 2;have hv:=Zfc;unfold FS.nxt;simp only;split
 ·split
  ·exact⟨.nil,.nil⟩
  ·split
   ·exact⟨hv _,.nil⟩
   ·exact⟨hv _,hv _⟩
 ·split
  ·exact⟨Zc0 ordM a1 (Zkj (Zdm ordM b1 a1)),Zc0 ordM a2 (Zkj (Zdm ordM b2 a2))⟩
  ·split
   ·exact⟨Zc0 ordM a1 (Zdm ordM c1 b1),Zc0 ordM a2 (Zdm ordM c2 b2)⟩
   ·split
    ·exact⟨Zc0 ordM a1 (Zdm ordM b2 c2),Zc0 ordM a2 (Zdm ordM c1 b1)⟩
    ·split
     ·exact⟨Zc0 ordM a1 (Zes ordM mulK (Zdm ordM b1 a1) (hv _)),Zc0 ordM a2 (Zes ordM mulK (Zdm ordM b2 a2) (hv _))⟩
     ·split
      ·exact⟨hv _,hv _⟩
      ·exact⟨hv _,hv _⟩
theorem Zrg (ss:List RS):∀i,∀c∈(frN ss i).cs,SrtM c.1∧SrtM c.2
 | 0,c,h=>by simp [frN] at h
 | i+1,c,h=>by
   rcases List.mem_append.1 (show c∈(frN ss i).cs++[_] from h) with h1 | h1
   ·exact Zrg ss i c h1
   ·rw [ZBa] at h1;subst h1;exact nxt_srt (Zrg ss i) i _
theorem at_w {f:FS} {w:List Int} (h:∀n,((f.cs.getD n ([],[])).1.length:Int)≤gI w n∧((f.cs.getD n ([],[])).2.length:Int)≤gI w n) (s:RS) (k:Nat):((f.at s k).1.length:Int)≤gI w (gI s.ar k).toNat∧((f.at s k).2.length:Int)≤gI w (gI s.ar k).toNat:=h _
theorem nxt_w {f:FS} {w:List Int} (h0:∀c∈f.cs,SrtM c.1∧SrtM c.2) (h:∀n,((f.cs.getD n ([],[])).1.length:Int)≤gI w n∧((f.cs.getD n ([],[])).2.length:Int)≤gI w n) (i:Nat) (s:RS) :
 ((f.nxt i s).2.1.length:Int)≤wOf w s∧((f.nxt i s).2.2.length:Int)≤wOf w s:=by
 obtain⟨a1,a2⟩:=at_w h s 0;obtain⟨b1,b2⟩:=at_w h s 1;obtain⟨c1,c2⟩:=at_w h s 2;obtain⟨r1,r2⟩:=Zpu h0 s 0;obtain⟨t1,t2⟩:=Zpu h0 s 1;have hv:=λv=>(Zu6 v).l;have d1:=Zxn s.r.q r1 t1;have d2:=Zxn s.r.q r2 t2;unfold FS.nxt wOf;simp only;generalize f.at s 0=a at *;generalize f.at s 1=b at *;generalize f.at s 2=c at *;have hw:∀p q r:Po,(addM p (subM q r)).length≤p.length+(q.length+r.length):=fun(p q r:Po)=>Zzg (Zj8 (lt:=ltM) p (subM q r)) (Nat.add_le_add_left (Zhx q r) _);have hw':∀(p q:Po) (v:Nat),(addM p (mlM (subM q p) (varM v))).length≤p.length+(q.length+p.length):=fun(p q:Po) (v:Nat)=>Zzg (Zj8 (lt:=ltM) p (mlM (subM q p) (varM v))) (Nat.add_le_add_left (Zzg (Zj2 (subM q p) v) (Zhx q p)) _)
 have two:∀{x y:Po} {v:Int},(x.length:Int)≤v→(y.length:Int)≤v→(x.length:Int)≤v∧(y.length:Int)≤v:=λh k=>⟨h,k⟩;have v1:=hv f.vs.length;have v2:=hv (f.vs.length+1);have v3:=hv (f.vs.length+2);have n0:((([]:Po)).length:Int)≤1:=by simp
 by_cases k1:s.k=1
 ·rw [Zy1 k1,Zy0 (show ¬s.k=2 by omega),Zy0 (show ¬(s.k=3∨s.k=4) by omega),Zy0 (show ¬s.k=5 by omega)];split
  ·exact two n0 n0
  ·split
   ·exact two (x:=varM f.vs.length) zo n0
   ·exact two (x:=varM f.vs.length) (y:=varM (f.vs.length+1)) zo zo
 ·rw [Zy0 k1];by_cases k2:s.k=2
  ·rw [Zy1 k2,Zy1 k2];exact two (x:=addM a.1 (sclM s.r.q (subM b.1 a.1))) (y:=addM a.2 (sclM s.r.q (subM b.2 a.2))) zo zo
  ·rw [Zy0 k2,Zy0 k2];by_cases k3:s.k=3
   ·rw [Zy1 k3,Zy1 (Or.inl k3)];have h1:=hw a.1 c.1 b.1;have h2:=hw a.2 c.2 b.2;exact two (x:=addM a.1 (subM c.1 b.1)) (y:=addM a.2 (subM c.2 b.2)) zo zo
   ·rw [Zy0 k3];by_cases k4:s.k=4
    ·rw [Zy1 k4,Zy1 (Or.inr k4)];have h1:=hw a.1 b.2 c.2;have h2:=hw a.2 c.1 b.1;exact two (x:=addM a.1 (subM b.2 c.2)) (y:=addM a.2 (subM c.1 b.1)) zo zo
    ·rw [Zy0 k4,Zy0 (show ¬(s.k=3∨s.k=4) by omega)];by_cases k5:s.k=5
     ·rw [Zy1 k5,Zy1 k5];have h1:=hw' a.1 b.1 f.vs.length;have h2:=hw' a.2 b.2 f.vs.length;exact two (x:=addM a.1 (mlM (subM b.1 a.1) (varM f.vs.length))) (y:=addM a.2 (mlM (subM b.2 a.2) (varM f.vs.length))) zo zo
     ·rw [Zy0 k5,Zy0 k5];split
      ·exact two (x:=varM (f.vs.length+1)) (y:=varM (f.vs.length+2)) zo zo
      ·exact two (x:=varM f.vs.length) (y:=varM (f.vs.length+1)) zo zo
theorem frN_w (ss:List RS):∀i n,(((frN ss i).cs.getD n ([],[])).1.length:Int)≤gI (wts ss i) n∧(((frN ss i).cs.getD n ([],[])).2.length:Int)≤gI (wts ss i) n
 | 0,n=>by simp [frN,wts,gI]
 | i+1,n=>by
   have ih:=frN_w ss i;show((((frN ss i).cs++[_]).getD n ([],[])).1.length:Int)≤gI (wts ss i++[_]) n∧((((frN ss i).cs++[_]).getD n ([],[])).2.length:Int)≤gI (wts ss i++[_]) n;rw [gI_app,Zpy];have hl:=Zh5 ss i;by_cases h1:n < i
   ·rw [Zy1 h1,Zzc,Zz8 zo,←Zzc];exact ih n
   ·rw [Zy0 h1];by_cases h2:n=i
    ·rw [Zy1 h2,Zzc,ZAd zo,hl,h2,ZC6];exact nxt_w (Zrg ss i) ih i _
    ·rw [Zy0 h2,Zzc,ZAf (by simp;omega)];simp
theorem vs_le (ss:List RS):∀i,(frN ss i).vs.length≤3*i
 | 0=>by simp [frN]
 | i+1=>by
   show((frN ss i).vs++((frN ss i).nxt i (ss.getD i RS.zero)).1).length≤_;rw [Zzq];have:=vs_le ss i;have:=Zsi (frN ss i) i (ss.getD i RS.zero);omega
def dgS (S:Nat→Bool) (m:List Int):Nat→Int
 | 0=>0
 | n+1=>dgS S m n+if S n then gI m n else 0
theorem Zx9 (S:Nat→Bool) (a b:List Int):∀n,dgS S (mulM a b) n=dgS S a n+dgS S b n
 | 0=>rfl
 | n+1=>by
   show dgS S (mulM a b) n+_=(dgS S a n+_)+(dgS S b n+_);rw [Zx9 S a b n,show gI (mulM a b) n=gI a n+gI b n from Zhu _ rfl a b n];split<;>omega
def DP (S:Nat→Bool) (V:Nat) (d:Int) (p:Po):Prop:=∀t∈p,t.2.length≤V∧dgS S t.2 V≤d
theorem DP.mono {S:Nat→Bool} {V:Nat} {d e:Int} {p:Po} (h:DP S V d p) (hd:d≤e):DP S V e p:=λt ht=>⟨(h t ht).1,by have:=(h t ht).2;omega⟩
theorem DP.add {S:Nat→Bool} {V:Nat} {d:Int} {p q:Po} (h:DP S V d p) (g:DP S V d q):DP S V d (addM p q):=λt ht=>by
 rcases Zq5 ht with h1 | h1
 ·obtain⟨u,hu,e⟩:=List.mem_map.1 h1;rw [←e];exact h u hu
 ·obtain⟨u,hu,e⟩:=List.mem_map.1 h1;rw [←e];exact g u hu
theorem DP.neg {S:Nat→Bool} {V:Nat} {d:Int} {p:Po} (h:DP S V d p):DP S V d (Zb3 (-1) p):=λt ht=>by
 obtain⟨u,hu,rfl⟩:=List.mem_map.1 ht;exact h u hu
theorem DP.sub {S:Nat→Bool} {V:Nat} {d:Int} {p q:Po} (h:DP S V d p) (g:DP S V d q):DP S V d (subM p q):=h.add g.neg
theorem DP.mul {S:Nat→Bool} {V:Nat} {d e:Int} {p q:Po} (h:DP S V d p) (g:DP S V e q):DP S V (d+e) (mlM p q):=by
 have key:∀(q out:Po),DP S V e q→DP S V (d+e) out→DP S V (d+e) (q.foldl (λout t=>addP ltM out (Zbk mulM p t)) out):=by
  intro q
  induction q with
  | nil=>exact λout _ h2=>h2
  | cons t q ih =>
    intro out h1 h2;rw [ZDr];refine ih _ (λu hu=>h1 u (.tail _ hu)) (h2.add λu hu=>?_);obtain⟨s,hs,rfl⟩:=List.mem_map.1 hu;obtain⟨a1,a2⟩:=h s hs;obtain⟨b1,b2⟩:=h1 t (.head _);exact⟨by show(mulM s.2 t.2).length≤V;rw [Zik];omega,by show dgS S (mulM s.2 t.2) V≤_;rw [Zx9];omega⟩
 exact key q [] g λt ht=>by cases ht
section
attribute [local go_sem] underlying3 underlying4 underlying125 underlying9 underlying53 underlying41 underlying28 underlying26 underlying24 underlying78 underlying46 underlying49 underlying275 underlying60 underlying203 underlying59 underlying62 underlying157 underlying280 sz3 by3 z3 szB zB Zbt zErr Zbm Zbo zStr Za6 zRat Zba zInt Za9 zNat Za3 Za4 Zb8 Zca zFig Zbx zSlI Zb9 zSlS Zft Zf1 zVar Zen zSlV Zcb Zcf Zdh Zeo zSlC Zbs Zcs Zcu Zcz Zem Zct Zel underlying63 Zlr zSlP underlying80 underlying47 szL byL zL Zbz Zb1 Zdb Zdd zSlF
end
end Go.Proofs.YtjbjejmmnbdbiaaGreat
