/- Contracts of the functions that the law reaches, and the rules by which they are walked. They say what a call hands back for every input within the bounds that each names; no other condition. -/
import Derived.Test.YtkefeinbjbeidaaGreatDoorBt10
set_option linter.unusedSimpArgs false
set_option linter.unusedVariables false
set_option maxRecDepth 20000
set_option maxHeartbeats 16000000
namespace Go.Proofs.YtkefeinbjbeidaaGreatDoor
open Go Go.RowKit Go.Pg Go.Pol Go.Proofs.Tryz
attribute [-bool_to_prop] Bool.and_eq_decide Bool.or_eq_decide Bool.decide_beq_decide decide_eq_decide
section
attribute [local go_sem] underlying3 underlying4 underlying161 underlying24 underlying26 underlying28 underlying91 underlying76 underlying78 underlying33 underlying34 sz3 by3 z3 szB zB Zas zRat Zaw zInt Zav zNat Zah Zaq Zai Bool.and_self Zal Zba zSlQ szQT byQT zQT Za9 zSlT szQP zQP underlying346 underlying47 szFr byFr zFr Zca Zcb zSQP underlying9 underlying22 underlying35 underlying81 underlying39 underlying42 underlying30 underlying40 Zbu zErr Za8 Zbx zStr szL byL zL Zbe Zbg Zce Zch zFig Zcg zSlI Zcf zSlS Zbs Zbt Zcy Zcz zSlF underlying353 underlying363 underlying350 underlying361 Zer Zey zCmb Zep zSch szFn zFn Zeq zPlc
end
attribute [local go_sem] Zas Zaw Zav Zah Zaq Zai Bool.and_self Zal Zba Za9 Zca Zcb Zbu Za8 Zbx Zbe Zbg Zce Zch Zcg Zcf Zbs Zbt Zcy Zcz Zer Zey Zep Zeq
theorem cbl_b {c:Cb} (h:CbL c) (p:Pl):c.be.length*(afS c p c.ps.length).length≤12:=by
 obtain⟨hb,h⟩:=h;rcases h with⟨u,v,e,hp,h1,h2⟩ | ⟨u,v,w,e,hp,h1,h2⟩
 ·have s1:=Zfu c p 0;have s2:=Zfu c p 1;rw [e] at s1 s2;have s0:(afS c p 0).length=0:=rfl;have s1:(afS c p 1).length≤(afS c p 0).length+u.length:=s1;have s2:(afS c p 2).length≤(afS c p 1).length+v.length:=s2;rw [hp];have:=ZD0 c.be.length (show(afS c p 2).length≤u.length+v.length by omega);omega
 ·have s1:=Zfu c p 0;have s2:=Zfu c p 1;have s3:=Zfu c p 2;rw [e] at s1 s2 s3;have s0:(afS c p 0).length=0:=rfl;have s1:(afS c p 1).length≤(afS c p 0).length+u.length:=s1;have s2:(afS c p 2).length≤(afS c p 1).length+v.length:=s2;have s3:(afS c p 3).length≤(afS c p 2).length+w.length:=s3;rw [hp];have:=ZD0 c.be.length (show(afS c p 3).length≤u.length+v.length+w.length by omega);omega
theorem cbl_w {c:Cb} (h:CbL c) {i j:Nat} (hij:i < j) (hj:j < c.ps.length):(c.ab.getD i []).length*(c.ab.getD j []).length≤12:=by
 obtain⟨hb,h⟩:=h;rcases h with⟨u,v,e,hp,h1,h2⟩ | ⟨u,v,w,e,hp,h1,h2⟩
 ·rw [e];obtain rfl:i=0:=zo;obtain rfl:j=1:=zo;show u.length*v.length≤12;omega
 ·rw [e];have:(i=0∧j=1)∨(i=0∧j=2)∨(i=1∧j=2):=zo;rcases this with⟨rfl,rfl⟩ | ⟨rfl,rfl⟩ | ⟨rfl,rfl⟩
  ·show u.length*v.length≤12;omega
  ·show u.length*w.length≤12;omega
  ·show v.length*w.length≤12;omega
theorem af_res (c:Cb) (p:Pl):(if p.mid=true then AV.agg [.sl 4 ((out2 c c.ps.length (mulX c.be (afS c p c.ps.length)) c.ps.length).map qtA),.sl 4 ((mulX c.be c.be).map qtA)] else .agg [.sl 4 ((afS c p c.ps.length).map qtA),.sl 4 (c.be.map qtA)])=.agg [qpA (afN c p),qpA (afD c p)]:=by
 unfold afN afD;split<;>rfl
theorem aa_at (c:Cb) {i:Nat} (h:i < c.ab.length):(c.ab.map qpA).getD i .u=.sl 4 ((c.ab.getD i []).map qtA):=by
 rw [Zcj h];exact Zam qpA h
theorem elAffine (c:Cb) (p:Pl) {n:Int} (hc:CbOk c n) (hl:CbL c) (hp:PlOk p n) (hn:n≤40):Pure prog 339 [c.av,p.av] (.agg [qpA (afN c p),qpA (afD c p)]):=by
 have h3:=hc.few;have b40:∀{z:Int},(0≤z∧z < n)→0≤z∧z < 40:=λh=>zo;have hq:=b40 hp.q;have hr:=b40 hp.r;have key:=ZAs p.k p.q p.r p.mid c.ps zo (λi=>(c.ab.getD i []).map qtA) (λi=>(p.at (gI c.ps i)).map qtA) (λi=>(mulX (c.ab.getD i []) (p.at (gI c.ps i))).map qtA) (λi=>(afS c p i).map qtA) (λi=>(out2 c c.ps.length (mulX c.be (afS c p c.ps.length)) i).map qtA)
  (λi j=>(mulX (c.ab.getD i []) (c.ab.getD j [])).map qtA) (λi j=>(pX (gI c.ps i) (gI c.ps j) (gI c.ps i)).map qtA) (λi j=>(prT c i j).map qtA) (λi d=>(in2 c i (out2 c c.ps.length (mulX c.be (afS c p c.ps.length)) i) d).map qtA) (c.be.map qtA) ((mulX c.be c.be).map qtA) (c.ab.map qpA) (λi hi=>aa_at c (by rw [hc.len];exact hi)) (by rw [ZB2];exact hc.len)
  (λi hi=>elAt p.k p.q p.r (gI c.ps i) p.mid ⟨λ_=>Zdk (.inl rfl) (b40 (Zia hc hi)) hq hr,λ_ _=>Zdk (.inr rfl) hq (b40 (Zia hc hi)) hr,λ_ _=>Zdk (.inr rfl) (b40 (Zia hc hi)) hq hr⟩)
  (λi hi=>Zj4 (Zmd hc hi).s (at_xl hp (Zia hc hi) hn).s (ZB1 (ZC7 (Zmd hc hi).l (at_xl hp (Zia hc hi) hn).l) zd)) (λi hi=>ZAi ((Zqu hc hp hn i zo).mono zo zd zo) ((Zmd hc hi).mul (at_xl hp (Zia hc hi) hn)).s) rfl
  (λ_=>Zj4 hc.be.s ((Zqu hc hp hn _ (ZBw _)).mono zo zd zo) (cbl_b hl p)) (λi j _ hij hj=>Zj4 (Zmd hc zo).s (Zmd hc hj).s (cbl_w hl hij hj))
  (λi j _ hij hj=>ZAo _ _ _ (Zdk (.inr rfl) (b40 (Zia hc zo)) (b40 (Zia hc hj)) (b40 (Zia hc zo))))
  (λi j _ hij hj=>Zj4 ((Zmd hc (show i < _ by omega)).mul (Zmd hc hj)).s (xs_of (Zdk (.inr rfl) (b40 (Zia hc zo)) (b40 (Zia hc hj)) (b40 (Zia hc zo)))) (ZB1 (ZC7 (ZB1 (Zd3 _ _) (cbl_w hl hij hj)) (Zje _)) zd))
  (λi d _ hd=>Zm0 ((Zz1 hc hn (Zrx hc hn (afM_xl hc hp hn) i zo) d zo).mono zo zd zo) (prT_xl hc hn zo hd).s)
  (λ_=>rfl) (λ_ _=>rfl) (λ_=>Zj4 hc.be.s hc.be.s (ZB1 (ZC7 hl.1 hl.1) zd))
 rw [af_res] at key;exact key
abbrev wA (be:QTs) (w:QTs):AV:=.agg [qpA w,qpA be]
theorem few25 (ss:List RS) (gs:List RG) (b:Bool) (c:Pure prog 84 [figA ss gs] (.v (.bool b))):Pure prog 43 [.agg [.sl 6 (ss.map RS.av),.sl 5 (gs.map RG.av)]] (.v (.bool b)):=by
 have c:Pure prog 84 [.agg [.sl 6 (ss.map RS.av),.sl 5 (gs.map RG.av)]] (.v (.bool b)):=c;generalize ss.map RS.av=M at *;generalize gs.map RG.av=N at *;refine pI func43 rfl ntmps43 results43 call43 ?_
 (refine wkap w_t (w_1 c) (w_r 0) (w_s ?_);intros)
 all_goals exact gL
theorem elLmA (M G:List AV) (i:Nat) (k a b c:Int) (hi:i < M.length) (c1:Pure prog 151 [.agg [iv k,iv a,iv b,iv c]] (.v (.bool false))):Pure prog 333 [.agg [.sl 6 M,.sl 5 G],iv i,.agg [iv k,iv a,iv b,iv c]] (.tup [.agg [.v (.slice none 0 0),.v (.slice none 0 0)],iv 1]):=by
 refine pI func333 rfl ntmps333 results333 call333 ?_
 (refine wkad (w_1 hi) (w_1 c1) w_t (w_s ?_);intros)
 all_goals exact gL
theorem elLmV (M G:List AV) (i:Nat) (k a b c:Int) (R:AV) (pq:List Int) (nk na nb nc sg sk:Int) (nm:ByteArray) (A0:List AV) (rb:Bool) (rn rd:List Nat) (hi:i < M.length) (hs:M.getD i .u=.agg [iv sk,strA nm,.sl 1 A0,.v (.bool rb),lim rn,lim rd]) (hpl:pq.length≤100)
 (c1:Pure prog 151 [.agg [iv k,iv a,iv b,iv c]] (.v (.bool true))) (c2:Pure prog 231 [.agg [iv k,iv a,iv b,iv c]] (.sl 1 (pq.map iv))) (c3:Pure prog 162 [.agg [iv k,iv a,iv b,iv c]] (.tup [.agg [iv nk,iv na,iv nb,iv nc],iv sg]))
 (hP:∀j,j < pq.length→(M.length:Int)≤gI pq j→R=.tup [.agg [.v (.slice none 0 0),.v (.slice none 0 0)],iv 2])
 (hD:(∀j,j < pq.length→gI pq j < (M.length:Int)) →
  (sg=0∧∃O N,Pure prog 64 [.agg [iv k,iv a,iv b,iv c]] (.sl 4 O)∧Pure prog 335 [iv 1] (.sl 4 N)∧R=.tup [.agg [.sl 4 O,.sl 4 N],iv 0])
  ∨ (¬sg=0∧∃PN O N,Pure prog 231 [.agg [iv nk,iv na,iv nb,iv nc]] (.sl 1 PN)∧Pure prog 230 [.sl 1 PN,iv i] (.v (.bool false))∧Pure prog 64 [.agg [iv k,iv a,iv b,iv c]] (.sl 4 O)∧Pure prog 335 [iv 1] (.sl 4 N)∧R=.tup [.agg [.sl 4 O,.sl 4 N],iv 0])
  ∨ (¬sg=0∧∃PN,Pure prog 231 [.agg [iv nk,iv na,iv nb,iv nc]] (.sl 1 PN)∧Pure prog 230 [.sl 1 PN,iv i] (.v (.bool true)) ∧
    ((sk=4∧∃a0 a1 a2 pk pq pr pm T N SG TT,A0=[iv a0,iv a1,iv a2]∧Pure prog 337 [.agg [iv nk,iv na,iv nb,iv nc],iv i] (.agg [iv pk,iv pq,iv pr,.v (.bool pm)])∧Pure prog 336 [iv a0,iv a1,iv a2,.agg [iv pk,iv pq,iv pr,.v (.bool pm)]] (.agg [.sl 4 T,.sl 4 N])∧Pure prog 335 [iv sg] (.sl 4 SG)∧Pure prog 66 [.sl 4 SG,.sl 4 T] (.sl 4 TT)∧R=.tup [.agg [.sl 4 TT,.sl 4 N],iv 0])
    ∨ (¬sk=4∧∃z,¬z=0∧Pure prog 338 [.agg [.sl 6 M,.sl 5 G],iv i] (.tup [.agg [.v (.slice none 0 0),.v (.slice none 0 0),.v (.slice none 0 0)],iv z])∧R=.tup [.agg [.v (.slice none 0 0),.v (.slice none 0 0)],iv z])
    ∨ (¬sk=4∧∃PS AB BE pk pq pr pm T N SG TT,Pure prog 338 [.agg [.sl 6 M,.sl 5 G],iv i] (.tup [.agg [.sl 1 PS,.sl 1 AB,.sl 4 BE],iv 0])∧Pure prog 337 [.agg [iv nk,iv na,iv nb,iv nc],iv i] (.agg [iv pk,iv pq,iv pr,.v (.bool pm)])∧Pure prog 339 [.agg [.sl 1 PS,.sl 1 AB,.sl 4 BE],.agg [iv pk,iv pq,iv pr,.v (.bool pm)]] (.agg [.sl 4 T,.sl 4 N])∧Pure prog 335 [iv sg] (.sl 4 SG)∧Pure prog 66 [.sl 4 SG,.sl 4 T] (.sl 4 TT)∧R=.tup [.agg [.sl 4 TT,.sl 4 N],iv 0])))) :
 Pure prog 333 [.agg [.sl 6 M,.sl 5 G],iv i,.agg [iv k,iv a,iv b,iv c]] (R):=by
 have hlp:(pq.map iv).length=pq.length:=ZB2 ..;have hg:∀j,j < pq.length→(pq.map iv).getD j .u=iv (gI pq j):=λj h=>by rw [Zew h];exact Zam iv h
 generalize pq.map iv=PQ at *;refine pI func333 rfl ntmps333 results333 call333 ?_
 (refine wkad (w_2 hi hlp) (w_2 c1 c2) w_t (w_s ?_);intros)
 rename_i g3 g5 g6;refine Zad (ι:=Nat) (λj e m=>j≤pq.length∧(e 1=iv i∧(e 3=.pbox 3 g3 0∧m 3=some (.box g3 42 [.sl 6 M,.sl 5 G] false))∧(e 5=.pbox 5 g5 0∧m 5=some (.box g5 91 [iv k,iv a,iv b,iv c] false))∧(e 6=.pbox 6 g6 0∧m 6=some (.box g6 47 [.v (.slice none 0 0),.v (.slice none 0 0)] false)))∧(e 31=.sl 1 PQ∧e 32=iv pq.length∧e 33=iv j)∧∀j',j' < j→gI pq j' < (M.length:Int)) (λj=>pq.length - j) 0 zr ?_ ?_
 ·rintro j e m ⟨hj,⟨e1,⟨e3,m3⟩,⟨e5,m5⟩,⟨e6,m6⟩⟩,⟨e31,e32,e33⟩,hall⟩
  by_cases hlt:j < pq.length
  ·have hgj:=hg j hlt;have hPj:=hP j hlt;clear hP hD hg c1 c2 c3;by_cases hb:(M.length:Int)≤gI pq j
   ·obtain rfl:=hPj hb;clear hall;generalize gI pq j=z at *
    (refine wkad (w_13 e1 e3 m3 e5 m5 e6 m6 e31 e32 e33 hlp hgj hb) w_t w_t (w_s ?_);intros)
    all_goals exact gM (w_2 e6 m6)
   ·have hall2:∀j',j' < j+1→gI pq j' < (M.length:Int):=λj' h'=>by
     by_cases h2:j'=j
     ·rw [h2];omega
     ·exact hall j' zo
    clear hall hPj;have hb':¬(M.length:Int)≤gI pq j:=hb;generalize hz:gI pq j=z at hgj hb'
    (refine wkad (w_13 e1 e3 m3 e5 m5 e6 m6 e31 e32 e33 hlp hgj hb') w_t w_t (w_s ?_);intros)
    exact⟨j+1,⟨zo,⟨gW e1,⟨gW e3,gW m3⟩,⟨gW e5,gW m5⟩,⟨gW e6,gW m6⟩⟩,⟨gW e31,gW e32,gS⟩,hall2⟩,zo⟩
  ·have hjn:j=pq.length:=zo;subst hjn;have hD:=hD hall;clear hP hall hg c1 c2;rcases hD with⟨hg0,O,N,d1,d2,rfl⟩ | ⟨hg0,PN,O,N,d1,d2,d3,d4,rfl⟩ | ⟨hg0,PN,d1,d2,hD⟩
   ·(refine wkad (w_12 e1 e3 m3 e5 m5 e6 m6 e31 e32 e33 hlp hg0) (w_3 c3 d1 d2) w_t (w_s ?_);intros)
    all_goals exact gM (w_2 e6 m6)
   ·(refine wkad (w_12 e1 e3 m3 e5 m5 e6 m6 e31 e32 e33 hlp hg0) (w_5 c3 d1 d2 d3 d4) w_t (w_s ?_);intros)
    all_goals exact gM (w_2 e6 m6)
   ·rcases hD with⟨h4,a0,a1,a2,pk,pq,pr,pm,T,N,SG,TT,rfl,f1,f2,f3,f4,rfl⟩ | ⟨h4,z,hz,f1,rfl⟩ | ⟨h4,PS,AB,BE,pk,pq,pr,pm,T,N,SG,TT,f0,f1,f2,f3,f4,rfl⟩
    ·(refine wkad (w_15 e1 e3 m3 e5 m5 e6 m6 e31 e32 e33 hlp hg0 h4 hi hs) (w_7 c3 d1 d2 f1 f2 f3 f4) (w_2 (w_d 17 [(14,.agg [iv pk,iv pq,iv pr,.v (.bool pm)]),(15,.agg [.sl 4 T,.sl 4 N])] [] [13]) (w_d 22 [(1,.sl 4 SG),(4,.sl 4 TT)] [6] [])) (w_s ?_);intros)
     all_goals exact gM (w_2 e6 m6)
    ·(refine wkad (w_16 e1 e3 m3 e5 m5 e6 m6 e31 e32 e33 hlp hg0 h4 hz hi hs) (w_4 c3 d1 d2 f1) w_t (w_s ?_);intros)
     all_goals exact gM (w_2 e6 m6)
    ·(refine wkad (w_15 e1 e3 m3 e5 m5 e6 m6 e31 e32 e33 hlp hg0 h4 hi hs) (w_8 c3 d1 d2 f0 f1 f2 f3 f4) (w_2 (w_d 21 [(3,.agg [iv pk,iv pq,iv pr,.v (.bool pm)]),(4,.agg [.sl 4 T,.sl 4 N])] [] [13]) (w_d 22 [(1,.sl 4 SG),(4,.sl 4 TT)] [6] [])) (w_s ?_);intros)
     all_goals exact gM (w_2 e6 m6)
 ·exact⟨ZB5 _,⟨gC,⟨gC,gC⟩,⟨gC,gC⟩,⟨gC,gC⟩⟩,⟨gC,gW hlp,gC⟩,λj' h=>absurd h zo⟩
section
attribute [local go_sem] underlying3 underlying4 underlying161 underlying24 underlying26 underlying28 underlying91 underlying76 underlying78 underlying33 underlying34 sz3 by3 z3 szB zB Zas zRat Zaw zInt Zav zNat Zah Zaq Zai Bool.and_self Zal Zba zSlQ szQT byQT zQT Za9 zSlT szQP zQP underlying346 underlying47 szFr byFr zFr Zca Zcb zSQP underlying9 underlying22 underlying35 underlying81 underlying39 underlying42 underlying30 underlying40 Zbu zErr Za8 Zbx zStr szL byL zL Zbe Zbg Zce Zch zFig Zcg zSlI Zcf zSlS Zbs Zbt Zcy Zcz zSlF underlying353 underlying363 underlying350 underlying361 Zer Zey zCmb Zep zSch szFn zFn Zeq zPlc
end
theorem chk_0 {q:Qt} {n:Int} (hok:q.ok=true) (h:∀j,j < q.pts.length→gI q.pts j < n):q.chk n 64=0:=by
 unfold Qt.chk;rw [ZBv hok];have hr:=hok;unfold Qt.ok at hr;simp at hr;by_cases h3:q.k=3
 ·rw [ZBv h3,ZBu zo]
 ·rw [ZBu h3,ZBu λhb=>?_]
  obtain⟨y,hy,hn⟩:∃y,(y=q.a∨y=q.b∨y=q.c)∧n≤y:=by
   rcases hb with hb | hb | hb
   ·exact⟨q.a,.inl rfl,hb⟩
   ·exact⟨q.b,.inr (.inl rfl),hb⟩
   ·exact⟨q.c,.inr (.inr rfl),hb⟩
  have:=Zuq hok h3 hy;obtain⟨t,ht,e⟩:=List.any_eq_true.1 this;obtain rfl:y=t:=by simpa using e
  obtain⟨j,hj,e⟩:=List.mem_iff_getElem.1 ht;have:=h j hj;rw [Zew hj,e] at this;omega
theorem chk_2 {q:Qt} {n:Int} {j:Nat} (hj:j < q.pts.length) (h:n≤gI q.pts j):q.chk n 64=2:=by
 have hm:gI q.pts j∈q.pts:=by rw [Zew hj];exact ZB7 hj
 have hh:hasQ (gI q.pts j) q=true:=List.any_eq_true.2 ⟨_,hm,by simp⟩;obtain⟨hok,h3,ho⟩:=Zqb hh;unfold Qt.chk;rw [ZBv hok,ZBu h3,ZBv zo]
theorem Zy4 {q:Qt} {n x:Int} (hc:q.chk n 64=0) (hs:q.norm.2≠0) (hx:hasQ x q.norm.1=true):0≤q.norm.1.a∧q.norm.1.a < n∧0≤q.norm.1.b∧q.norm.1.b < n∧0≤q.norm.1.c∧q.norm.1.c < n:=by
 obtain⟨h1,h2,_⟩:=Zqb hx;have ha:=Zkh hs (Zuq h1 h2 (.inl rfl));have hb:=Zkh hs (Zuq h1 h2 (.inr (.inl rfl)));have hcc:=Zkh hs (Zuq h1 h2 (.inr (.inr rfl)))
 have hok:q.ok=true:=by
  cases h:q.ok with
  | true=>rfl
  | false=>unfold Qt.norm at hs;rw [ZBu (by rw [h];simp)] at hs;exact absurd rfl hs
 have h3:¬q.k=3:=λh=>by
  unfold Qt.norm at h2;rw [ZBv hok,ZBu zo,ZBu zo] at h2;exact h2 h
 unfold Qt.chk at hc;rw [ZBv hok,ZBu h3] at hc;have hr:=hok;unfold Qt.ok at hr;simp at hr;split at hc
 ·omega
 ·omega
theorem sg_sz2 {s:Int} (h:s=-1∨s=1):Sz (s:Rat) 2:=by
 rcases h with rfl | rfl
 ·exact sz_m1.mono zd
 ·exact Zjw.mono zd
def lmA (q:Qt) (n:Int) (z:Int × XX) (N:AV):AV:=if q.chk n 64=0 then (if z.1=0 then .tup [.agg [qpA z.2.1,qpA z.2.2],iv 0] else .tup [.agg [N,.v (.slice none 0 0)],iv z.1]) else .tup [.agg [.v (.slice none 0 0),.v (.slice none 0 0)],iv (q.chk n 64)]
abbrev lmS (ss:List RS) (i:Nat) (hi:i < ss.length) (q:Qt):Int × XX:=lmX ss[i].k ss[i].ar ss[i].r.q (tOf ss i) i q
theorem nx1:nX 1=onX:=by decide +kernel
theorem scl_no (s:Int) (p:QTs) (h:EX p) (hs:s=-1∨s=1):mulX (nX (s:Rat)) p=sclT (s:Rat) p:=by
 show mulX (cstT (s:Rat)) p=_;rw [cstX_mul h,ZBu (by rcases hs with rfl | rfl<;>decide +kernel)]
theorem sg_of {q:Qt} (h:q.norm.2≠0):q.norm.2=-1∨q.norm.2=1:=by
 rcases Zib q with g | g | g
 ·exact .inl g
 ·exact absurd g h
 ·exact .inr g
theorem XS.l12 {p q:QTs} (hp:p.length≤1) (hq:q.length≤12):p.length*q.length≤12:=ZB1 (ZC7 hp hq) zd
theorem elNumS {s:Int} (h:s=-1∨s=1):Pure prog 335 [iv s] (qpA (nX (s:Rat))):=by
 rcases h with rfl | rfl
 ·exact elNumM
 ·exact Zqk
theorem elLemmaG (ss:List RS) (gs:List RG) (i:Nat) (hi:i < ss.length) (h8:ss.length≤8) (he:errS ss i=0) (hr:ss[i].r.lm 2) (cc:Pure prog 338 [figA ss gs,iv i] (cmR (cbOf ss[i].k ss[i].ar ss[i].r.q (tOf ss i)))) (ct:ss[i].k=4→∀(p:Pl) (a0 a1 a2:Int),(0≤a0∧a0 < 40)→(0≤a1∧a1 < 40)→(0≤a2∧a2 < 40)→(0≤p.q∧p.q < 40)→(0≤p.r∧p.r < 40)→Pure prog 336 [iv a0,iv a1,iv a2,p.av] (.agg [qpA (tuX a0 a1 a2 p),qpA (nX 1)])) (k a b c:Int):Pure prog 333 [figA ss gs,iv i,.agg [iv k,iv a,iv b,iv c]] (lmA ⟨k,a,b,c⟩ ss.length (lmS ss i hi ⟨k,a,b,c⟩) (.v (.slice none 0 0))):=by
 have hM:(ss.map RS.av).getD i .u=.agg [iv ss[i].k,strA ss[i].nm,ivs ss[i].ar,.v (.bool ss[i].r.s),lim ss[i].r.l,lim ss[i].r.d]:=Zam RS.av hi;have hl:i < (ss.map RS.av).length:=by rw [ZB2];exact hi
 have hlm:((ss.map RS.av).length:Int)=ss.length:=by rw [ZB2]
 have hA:=st_a hi h8 he hr;have c1:=Zlc k a b c;generalize hq:(⟨k,a,b,c⟩:Qt)=q at *;have hqv:q.av=.agg [iv k,iv a,iv b,iv c]:=by rw [←hq]
 cases hok:q.ok with
 | false =>
   rw [hok] at c1;have h1:q.chk ss.length 64=1:=by unfold Qt.chk;rw [ZBu (by rw [hok];simp)]
   unfold lmA;rw [ZBu (by rw [h1];decide),h1];exact elLmA _ _ i k a b c hl (by rw [←hqv];exact c1)
 | true =>
   rw [hok] at c1;have c2:Pure prog 231 [q.av] (ivs q.pts):=by rw [←hq];exact Zkf k a b c
   have c3:Pure prog 162 [q.av] (.tup [q.norm.1.av,iv q.norm.2]):=by rw [←hq];exact Zyh k a b c
   have co:=ZAe hok;have cN:Pure prog 231 [q.norm.1.av] (ivs q.norm.1.pts):=Zkf q.norm.1.k q.norm.1.a q.norm.1.b q.norm.1.c;have cs:=Zxn q.norm.1.pts i (by have:=Zt0 q.norm.1;omega);have cs:Pure prog 230 [ivs q.norm.1.pts,iv i] (.v (.bool (hasQ i q.norm.1))):=cs;have cp:Pure prog 337 [q.norm.1.av,iv i] (Pl.av (plOf q.norm.1 i)):=elPlaced q.norm.1.k q.norm.1.a q.norm.1.b q.norm.1.c i;rw [hqv] at c1 c2 c3 co;refine elLmV _ _ i k a b c _ q.pts q.norm.1.k q.norm.1.a q.norm.1.b q.norm.1.c q.norm.2 ss[i].k ss[i].nm (ss[i].ar.map iv) ss[i].r.s ss[i].r.l ss[i].r.d hl hM (by have:=Zt0 q;omega) c1 c2 c3 (λj hj hle=>?_) (λhall=>?_)
   ·rw [hlm] at hle;have h2:=chk_2 hj hle;unfold lmA;rw [ZBu (by rw [h2];decide),h2]
   ·rw [hlm] at hall;have h0:=chk_0 hok hall;have hlA:∀z N,lmA q ss.length z N=if z.1=0 then .tup [.agg [qpA z.2.1,qpA z.2.2],iv 0] else .tup [.agg [N,.v (.slice none 0 0)],iv z.1]:=λz N=>by unfold lmA;rw [ZBv h0]
    rw [hlA];by_cases hs:q.norm.2=0
    ·refine .inl ⟨hs,_,_,co,Zqk,?_⟩;rw [show lmS ss i hi q=(0,(ofX q,[((1:Rat),[])])) from by unfold lmS lmX;rw [ZBv (Or.inl hs)],ZBv rfl,nx1]
    ·cases hh:hasQ i q.norm.1 with
     | false =>
       rw [hh] at cs;refine .inr (.inl ⟨hs,_,_,_,cN,cs,co,Zqk,?_⟩);rw [show lmS ss i hi q=(0,(ofX q,[((1:Rat),[])])) from by unfold lmS lmX;rw [ZBv (Or.inr hh)],ZBv rfl,nx1]
     | true =>
       rw [hh] at cs;have hsg:=sg_of hs;have hpl:=Zt6 hs (Zy4 h0 hs hh) (i:Int);have hln:lmS ss i hi q=if ss[i].k=4 then ((0:Int),(sclT (q.norm.2:Rat) (tuX (gI ss[i].ar 0) (gI ss[i].ar 1) (gI ss[i].ar 2) (plOf q.norm.1 i)),[((1:Rat),[])]))
        else match cbOf ss[i].k ss[i].ar ss[i].r.q (tOf ss i) with
         | none=>((8:Int),(([]:QTs),([]:QTs)))
         | some c=>if c.be=[] then (3,([],[])) else (0,(sclT (q.norm.2:Rat) (afN c (plOf q.norm.1 i)),afD c (plOf q.norm.1 i))):=by
        show lmX _ _ _ _ _ _=_;unfold lmX;exact ZBu (by rintro (h | h);exact hs h;rw [hh] at h;cases h)
       refine .inr (.inr ⟨hs,_,cN,cs,?_⟩);rw [hln];have b40:∀{z:Int},(0≤z∧z < (ss.length:Int))→0≤z∧z < 40:=λh=>zo;by_cases h4:ss[i].k=4
       ·refine .inl ⟨h4,?_⟩;have h3:=hA.l4 h4;obtain⟨a0,a1,a2,har⟩:=l3 h3;have g:∀j,j < 3→0≤gI ss[i].ar j∧gI ss[i].ar j < 40:=λj hj=>b40 (hA.rg j zo);rw [har] at g;have g0:0≤a0∧a0 < 40:=g 0 zd;have g1:0≤a1∧a1 < 40:=g 1 zd;have g2:0≤a2∧a2 < 40:=g 2 zd;have hx:=tu_xl hpl hA.n40 (by have:=hA.rg 0 zo;rw [har] at this;exact this:0≤a0∧a0 < (ss.length:Int)) (by have:=hA.rg 1 zo;rw [har] at this;exact this:0≤a1∧a1 < (ss.length:Int)) (by have:=hA.rg 2 zo;rw [har] at this;exact this:0≤a2∧a2 < (ss.length:Int));refine⟨a0,a1,a2,_,_,_,_,_,_,_,_,by rw [har];rfl,cp,ct h4 (plOf q.norm.1 i) a0 a1 a2 g0 g1 g2 (b40 hpl.q) (b40 hpl.r),elNumS hsg,Zj4 (xs_cst (sg_sz2 hsg)) hx.s (XS.l12 (Zi5 _) (ZB1 hx.l zd)),?_⟩
        rw [ZBv h4,ZBv rfl,har];show AV.tup [.agg [qpA (sclT (q.norm.2:Rat) (tuX a0 a1 a2 (plOf q.norm.1 i))),qpA onX],iv 0]=_;rw [←scl_no _ _ hx.x.1 hsg,nx1]
       ·refine .inr ?_;rw [ZBu h4]
        cases hc:cbOf ss[i].k ss[i].ar ss[i].r.q (tOf ss i) with
        | none =>
          rw [hc] at cc;exact .inl ⟨h4,8,by decide,cc,by simp only;rw [ZBu zd]⟩
        | some cb =>
          rw [hc] at cc;have ok:=cb_ok hc hA.sz hA.rg hA.n40 hA.tr hA.l;have cl:=cb_len hc (λg=>by rcases g with g | g;exact hA.l.1 g;exact hA.l.2.1 g);simp only;by_cases hb:cb.be=[]
          ·have cc:Pure prog 338 [figA ss gs,iv i] (.tup [.agg [.v (.slice none 0 0),.v (.slice none 0 0),.v (.slice none 0 0)],iv 3]):=by
            have h:=cc;unfold cmR at h;simp only at h;rw [ZBv (by rw [hb];rfl)] at h;exact h
           rw [ZBv hb];exact .inl ⟨h4,3,by decide,cc,by simp only;rw [ZBu zd]⟩
          ·have cc:Pure prog 338 [figA ss gs,iv i] (.tup [cb.av,iv 0]):=by
            have h:=cc;unfold cmR at h;simp only at h;rw [ZBu (λh=>hb (List.length_eq_zero_iff.1 h))] at h;exact h
           rw [ZBu hb,ZBv rfl];have hl12:=af_len (plOf q.norm.1 i) cl;have hx:=afN_xl ok hpl hA.n40;refine .inr ⟨h4,_,_,_,_,_,_,_,_,_,_,_,cc,cp,elAffine cb (plOf q.norm.1 i) ok cl hpl hA.n40,elNumS hsg,Zj4 (xs_cst (sg_sz2 hsg)) hx.s (XS.l12 (Zi5 _) hl12.1),?_⟩;rw [←scl_no _ _ hx.x.1 hsg]
attribute [local go_sem] Zip Zna
abbrev midS:List RS:=[⟨1,⟨#[65]⟩,[],⟨false,[],[]⟩⟩,⟨1,⟨#[66]⟩,[],⟨false,[],[]⟩⟩,⟨1,⟨#[67]⟩,[],⟨false,[],[]⟩⟩,⟨2,⟨#[77]⟩,[1,2],⟨false,[1],[2]⟩⟩]
def midL:Nat→List AV
 | 0=>[.agg [iv 1,strA .empty,.v (.slice none 0 0),.v (.bool false),.v (.slice none 0 0),.v (.slice none 0 0)],.agg [iv 1,strA .empty,.v (.slice none 0 0),.v (.bool false),.v (.slice none 0 0),.v (.slice none 0 0)],.agg [iv 1,strA .empty,.v (.slice none 0 0),.v (.bool false),.v (.slice none 0 0),.v (.slice none 0 0)],.agg [iv 2,strA .empty,.sl 1 [iv 1,iv 2],.v (.bool false),lim [1],lim [2]]]
 | 1=>[.agg [iv 1,strA ⟨#[65]⟩,.v (.slice none 0 0),.v (.bool false),.v (.slice none 0 0),.v (.slice none 0 0)],.agg [iv 1,strA .empty,.v (.slice none 0 0),.v (.bool false),.v (.slice none 0 0),.v (.slice none 0 0)],.agg [iv 1,strA .empty,.v (.slice none 0 0),.v (.bool false),.v (.slice none 0 0),.v (.slice none 0 0)],.agg [iv 2,strA .empty,.sl 1 [iv 1,iv 2],.v (.bool false),lim [1],lim [2]]]
 | 2=>[.agg [iv 1,strA ⟨#[65]⟩,.v (.slice none 0 0),.v (.bool false),.v (.slice none 0 0),.v (.slice none 0 0)],.agg [iv 1,strA ⟨#[66]⟩,.v (.slice none 0 0),.v (.bool false),.v (.slice none 0 0),.v (.slice none 0 0)],.agg [iv 1,strA .empty,.v (.slice none 0 0),.v (.bool false),.v (.slice none 0 0),.v (.slice none 0 0)],.agg [iv 2,strA .empty,.sl 1 [iv 1,iv 2],.v (.bool false),lim [1],lim [2]]]
 | 3=>[.agg [iv 1,strA ⟨#[65]⟩,.v (.slice none 0 0),.v (.bool false),.v (.slice none 0 0),.v (.slice none 0 0)],.agg [iv 1,strA ⟨#[66]⟩,.v (.slice none 0 0),.v (.bool false),.v (.slice none 0 0),.v (.slice none 0 0)],.agg [iv 1,strA ⟨#[67]⟩,.v (.slice none 0 0),.v (.bool false),.v (.slice none 0 0),.v (.slice none 0 0)],.agg [iv 2,strA .empty,.sl 1 [iv 1,iv 2],.v (.bool false),lim [1],lim [2]]]
 | _=>[.agg [iv 1,strA ⟨#[65]⟩,.v (.slice none 0 0),.v (.bool false),.v (.slice none 0 0),.v (.slice none 0 0)],.agg [iv 1,strA ⟨#[66]⟩,.v (.slice none 0 0),.v (.bool false),.v (.slice none 0 0),.v (.slice none 0 0)],.agg [iv 1,strA ⟨#[67]⟩,.v (.slice none 0 0),.v (.bool false),.v (.slice none 0 0),.v (.slice none 0 0)],.agg [iv 2,strA ⟨#[77]⟩,.sl 1 [iv 1,iv 2],.v (.bool false),lim [1],lim [2]]]
attribute [local go_sem] Zh6 Zkq
theorem szAS:szOf prog 49=some 3:=by kernel_rfl
theorem byAS:Zem prog 49=some 56:=by kernel_rfl
theorem zAS:Zao prog 49=some (.agg #[.int .i64 0,.slice none 0 0,.slice none 0 0]):=by kernel_rfl
theorem Zo6:szOf prog 43=some 1:=by kernel_rfl
theorem Zwt:Zao prog 43=some (.slice none 0 0):=by kernel_rfl
def nmAt (i:Nat) (s:RS):ByteArray:=if s.nm.size=0 then ⟨#[36]⟩++decS i else s.nm
def nmK (ss:List RS) (i:Nat):List ByteArray:=(List.range i).map λj=>nmAt j (ss.getD j ⟨0,.empty,[],⟨false,[],[]⟩⟩)
theorem Zr3 (ss:List RS) (i:Nat):((nmK ss i).map strA).length=i:=by unfold nmK;rw [ZB2,ZB2,List.length_range]
theorem nmK_s {ss:List RS} {i:Nat} (h:i < ss.length):(nmK ss (i+1)).map strA=(nmK ss i).map strA++[strA (nmAt i ss[i])]:=by
 unfold nmK;rw [List.range_succ,ZCp,ZCp,ZC1,ZC1,Zcj h];rfl
theorem ZAy:∀i,i < 100→(decS i).size≤100:=by decide +kernel
theorem nmA_sz {i:Nat} (hi:i < 100) {s:RS} (h:s.nm.size≤900):(nmAt i s).size≤1000:=by
 unfold nmAt;split
 ·rw [ZCn];have:=ZAy i hi;have:(⟨#[36]⟩:ByteArray).size=1:=rfl;omega
 ·omega
theorem nmK_sz {ss:List RS} (hl:ss.length≤99) (h:∀s∈ss,s.nm.size≤900):∀s∈nmK ss ss.length,s.size≤1000:=by
 intro s hs;unfold nmK at hs;obtain⟨j,hj,rfl⟩:=List.mem_map.1 hs;have hj:=List.mem_range.1 hj;rw [Zcj hj];exact nmA_sz zo (h _ (ZB7 hj))
theorem Zzh (ss:List RS) (gs:List RG) (hl:ss.length≤99) (hn:∀s∈ss,s.nm.size≤900):Pure prog 46 [figA ss gs] (.sl 1 ((nmK ss ss.length).map strA)):=by
 have hls:(ss.map RS.av).length=ss.length:=ZB2 ..;have hg:∀i (h:i < ss.length),(ss.map RS.av).getD i .u=.agg [iv ss[i].k,strA ss[i].nm,.sl 1 (ss[i].ar.map iv),.v (.bool ss[i].r.s),lim ss[i].r.l,lim ss[i].r.d]:=λi h=>Zam RS.av h;have hsz:∀i (h:i < ss.length),ss[i].nm.size≤900:=λi h=>hn _ (ZB7 h);have hst:∀i (h:i < ss.length),(nmK ss (i+1)).map strA=(nmK ss i).map strA++[strA (nmAt i ss[i])]:=λi h=>nmK_s h;have hnl:=Zr3 ss;show Pure _ _ [.agg [.sl 6 (ss.map RS.av),.sl 5 (gs.map RG.av)]] _;generalize ss.map RS.av=M at *;generalize gs.map RG.av=N at *;have h36:(⟨#[36]⟩:ByteArray).size=1:=rfl
 refine pI func46 rfl ntmps46 results46 call46 ?_;(focus (refine wkap (w_1 hls) w_t (w_r 0) ?_;(repeat' first|exact w_t|apply w_l);all_goals intros));refine Zfb (Frz.nilOwn (d:=3) 500 1 9 (gC)) ?_;refine Zad (ι:=Nat) (λi e m=>i≤ss.length∧(e 8=.sl 6 M∧e 9=iv ss.length∧e 10=iv i)∧∃sv,e 3=.own 500 sv∧m 500=some (.row sv 9 1 ((nmK ss i).map strA) 0)) (λi=>ss.length - i) 0 zr ?_ ?_
 ·rintro i e m ⟨hi,⟨e8,e9,e10⟩,sv,e3,m500⟩
  have hnli:=hnl i;by_cases hlt:i < ss.length
  ·have hgi:=hg i hlt;have hs:=Zeh ss[i].nm;have hsi:=hsz i hlt;have hnx:=hst i hlt;have ci:=scItoa i zo;have hd:=ZAy i zo;by_cases h0:ss[i].nm.size=0
   ·have ha:nmAt i ss[i]=⟨#[36]⟩++decS i:=ZBv h0;rw [ha] at hnx;rw [ZB4 h0] at hs;clear ha hst hg hsz hnl hn;generalize (nmK ss i).map strA=T at *;generalize ss[i]=s at *;generalize decS i=d at *;(focus (refine wkap (w_10 e8 e9 e10 e3 m500 hls hgi hs hnli h36) (w_1 ci) (w_r 0) ?_;(repeat' first|exact w_t|apply w_l);all_goals intros));exact⟨i+1,⟨zo,⟨gW e8,gW e9,gS⟩,_,gC,by rw [hnx];exact gC⟩,zo⟩
   ·have ha:nmAt i ss[i]=ss[i].nm:=ZBu h0;rw [ha] at hnx;rw [ZB3 h0] at hs;clear ha hst hg hsz hnl hn;generalize (nmK ss i).map strA=T at *;generalize ss[i]=s at *;(focus (refine wkap (w_9 e8 e9 e10 e3 m500 hls hgi hs hnli) w_t (w_r 0) ?_;(repeat' first|exact w_t|apply w_l);all_goals intros));exact⟨i+1,⟨zo,⟨gW e8,gW e9,gS⟩,_,gC,by rw [hnx];exact gC⟩,zo⟩
  ·have:i=ss.length:=zo;subst this;generalize (nmK ss ss.length).map strA=T at *;(focus (refine wkap (w_6 e8 e9 e10 e3 m500 hls) w_t (w_r 0) ?_;(repeat' first|exact w_t|apply w_l);all_goals intros));all_goals exact gM (w_1 m500)
 ·exact⟨ZB5 _,⟨gC,gC,gC⟩,_,gC,gC⟩
attribute [go_sem] underlying49 underlying43 szAS byAS zAS
attribute [local go_sem] Zo6 Zwt
theorem szBL:szOf prog 101=some 2:=by kernel_rfl
theorem zBL:Zao prog 101=some (.agg #[.slice none 0 0,.slice none 0 0]):=by kernel_rfl
theorem ivkBL : ivkOf prog 101 "geoprover/area.eliminate" = some 330 := by kernel_rfl
abbrev AS:=Int × QTs × QTs
abbrev AS.av (t:AS):AV:=.agg [iv t.1,qpA t.2.1,qpA t.2.2]
abbrev wiB:ByteArray:=⟨#[119,105,116,104,111,117,116,32]⟩
abbrev alB:ByteArray:=⟨#[97,108,108]⟩
abbrev coB:ByteArray:=⟨#[58,32]⟩
abbrev ovB:ByteArray:=⟨#[32,111,118,101,114,32]⟩
abbrev nlB:ByteArray:=⟨#[10]⟩
def atW (ns:List ByteArray) (p:Int):ByteArray:=if 0≤p then ns.getD p.toNat .empty else alB
def atT (ns:List ByteArray) (t:AS):ByteArray:=(((((wiB++atW ns t.1)++coB)++eTxt ns t.2.1)++ovB)++eTxt ns t.2.2)++nlB
def atC (n:Int) (t:AS):Int:=if t.1 < -1∨n≤t.1 then 2 else if chkE n t.2.1=0 then chkE n t.2.2 else chkE n t.2.1
def atE (n:Int):List AS→Int
 | []=>0
 | t :: l=>if atC n t=0 then atE n l else atC n t
def atS (ns:List ByteArray) (l:List AS):Nat→ByteArray
 | 0=>⟨#[]⟩
 | i+1=>atS ns l i++atT ns (l.getD i (0,[],[]))
theorem Zs2 {n:Int}:∀{l:List AS},(∀j (h:j < l.length),atC n l[j]=0)→atE n l=0
 | [],_=>rfl
 | q :: l,h=>by
   have h0:atC n q=0:=h 0 zs;unfold atE;rw [ZBv h0];exact Zs2 λj hj=>h (j+1) (by simpa using hj)
theorem ZBd {n:Int}:∀{l:List AS} {i:Nat} (hi:i < l.length),(∀j (h:j < l.length),j < i→atC n l[j]=0)→atC n l[i]≠0→atE n l=atC n l[i]
 | q :: l,0,_,_,h2=>by
   have h2:atC n q≠0:=h2;unfold atE;rw [ZBu h2];rfl
 | q :: l,i+1,hi,h,h2=>by
   have h0:atC n q=0:=h 0 zs zo;unfold atE;rw [ZBv h0];exact ZBd (by simpa using hi) (λj hj hji=>h (j+1) (by simpa using hj) zo) h2
def atR (ns:List ByteArray) (l:List AS):AV:=if atE ns.length l=0 then .tup [strA (atS ns l l.length),iv 0] else .tup [strA ⟨#[]⟩,iv (atE ns.length l)]
theorem ZBb {ns:List ByteArray} (h:∀s∈ns,s.size≤1000) (p:Int):(atW ns p).size≤1000:=by
 unfold atW;split
 ·by_cases hp:p.toNat < ns.length
  ·rw [Zcj hp];exact h _ (ZB7 hp)
  ·rw [ZCb,ZDh zo];show(0:Nat)≤1000;omega
 ·show(3:Nat)≤1000;omega
theorem atT_sz {ns:List ByteArray} {t:AS} (h:∀s∈ns,s.size≤1000) (h1:(eTxt ns t.2.1).size≤1000000000000) (h2:(eTxt ns t.2.2).size≤1000000000000):(atT ns t).size≤2000000002000:=by
 have h3:=ZBb h t.1;unfold atT;rw [ZCn,ZCn,ZCn,ZCn,ZCn,ZCn];have e1:wiB.size=8:=rfl;have e2:coB.size=2:=rfl;have e3:ovB.size=6:=rfl;have e4:nlB.size=1:=rfl;omega
theorem atS_sz {ns:List ByteArray} {l:List AS} {i:Nat} (hi:i≤l.length) (h:∀j (h:j < l.length),j < i→(atT ns l[j]).size≤2000000002000):(atS ns l i).size≤i*(2000000002000):=by
 induction i with
 | zero=>unfold atS;exact ZB5 _
 | succ i ih =>
   have h1:=ih zo λj hj hji=>h j hj zo;have h2:=h i zo zo;unfold atS;rw [ZCn,Zcj (by omega:i < l.length)];have:(i+1)*(2000000002000)=i*(2000000002000)+(2000000002000):=ZDt ..;omega
theorem Zof {ss:List ByteArray} {p:QTs} (hs:∀s∈ss,s.size≤1000) (hp:p.length≤10000) {k:Nat} (hk:k≤1000000) (ho:OkT p k) (h:chkE ss.length p=0):(eTxt ss p).size≤1000000000000:=by
 have key:∀{l:QTs},chkE ss.length l=0→∀t∈l,chkP ss.length t.2=0:=by
  intro l
  induction l with
  | nil=>intro _ t ht;cases ht
  | cons q l ih =>
    intro h t ht;unfold chkE at h;by_cases h0:chkP ss.length q.2=0
    ·rw [ZBv h0] at h;rcases List.mem_cons.1 ht with rfl | ht
     ·exact h0
     ·exact ih h t ht
    ·rw [ZBu h0] at h;exact absurd h h0
 unfold eTxt;split
 ·exact(by decide:1≤1000000000000)
 ·refine ZB1 (Zsv (ZBw _) λj hj _=>Zkv hs (ho _ (ZB7 hj)).1 (ho _ (ZB7 hj)).2 hk (key h _ (ZB7 hj))) ?_;have:p.length*15000003≤10000*15000003:=ZCf _ hp;exact ZB1 this zd
structure AtOk (ss:List ByteArray) (N:AV) (f:Nat) (t:AS):Prop where
 n:Pure prog f [qpA t.2.1,N] (if chkE ss.length t.2.1=0 then .tup [strA (eTxt ss t.2.1),iv 0] else .tup [strA ⟨#[]⟩,iv (chkE ss.length t.2.1)])
 d:Pure prog f [qpA t.2.2,N] (if chkE ss.length t.2.2=0 then .tup [strA (eTxt ss t.2.2),iv 0] else .tup [strA ⟨#[]⟩,iv (chkE ss.length t.2.2)])
 zn:chkE ss.length t.2.1=0→(eTxt ss t.2.1).size≤1000000000000
 zd:chkE ss.length t.2.2=0→(eTxt ss t.2.2).size≤1000000000000
theorem arText (ss:List RS) (gs:List RG) (ns:List ByteArray) (l:List AS) (hns:ns.length=ss.length) (hl:l.length≤1000) (hs:∀s∈ns,s.size≤1000) (hn:ss.length≤1000) (cN:Pure prog 46 [figA ss gs] (.sl 1 (ns.map strA))) (ho:∀t∈l,AtOk ns (.sl 1 (ns.map strA)) 21 t) :
 Pure prog 13 [figA ss gs,.sl 3 (l.map AS.av)] (atR ns l):=by
 have hls:(ss.map RS.av).length=ns.length:=by rw [ZB2,hns]
 have hll:(l.map AS.av).length=l.length:=ZB2 ..;have hg:∀i (h:i < l.length),(l.map AS.av).getD i .u=.agg [iv l[i].1,qpA l[i].2.1,qpA l[i].2.2]:=λi h=>Zam AS.av h;have hoi:∀i (h:i < l.length),AtOk ns (.sl 1 (ns.map strA)) 21 l[i]:=λi h=>ho _ (ZB7 h);have hnm:∀p:Int,0≤p→p < ns.length→(ns.map strA).getD p.toNat .u=strA (atW ns p):=λp h1 h2=>by
  have h3:p.toNat < ns.length:=zo;rw [Zam strA h3];unfold atW;rw [ZBv h1,Zcj h3]
 have hnl:(ns.map strA).length=ns.length:=ZB2 ..;have cN:Pure prog 46 [.agg [.sl 6 (ss.map RS.av),.sl 5 (gs.map RG.av)]] (.sl 1 (ns.map strA)):=cN;show Pure _ _ [.agg [.sl 6 (ss.map RS.av),.sl 5 (gs.map RG.av)],_] _;generalize hR:atR ns l=R;unfold atR at hR;have hn:ns.length≤1000:=zo;have zW:=ZBb hs;have z1:wiB.size=8:=rfl;have z2:coB.size=2:=rfl;have z3':ovB.size=6:=rfl;have z4:nlB.size=1:=rfl;have eA:∀p:Int,¬0≤p→atW ns p=alB:=λp h=>ZBu h;have hTs:∀i (h:i < l.length),atC ns.length l[i]=0→(atT ns l[i]).size≤2000000002000:=λi h hc=>by
  unfold atC at hc;split at hc
  ·cases hc
  ·by_cases h1:chkE ns.length l[i].2.1=0
   ·rw [ZBv h1] at hc;exact atT_sz hs ((hoi i h).zn h1) ((hoi i h).zd hc)
   ·rw [ZBu h1] at hc;exact absurd hc h1
 clear ho hs hns;generalize ns.map strA=N at *;generalize ss.map RS.av=M at *;generalize gs.map RG.av=G at *;generalize l.map AS.av=L at *;refine pI func13 rfl ntmps13 results13 call13 ?_;(focus (refine wkap (w_2 hll hls) (w_1 cN) (w_r 0) ?_;(repeat' first|exact w_t|apply w_l);all_goals intros));rename_i g2;refine Zad (ι:=Nat) (λi e m=>i≤l.length∧(∀j (h:j < l.length),j < i→atC ns.length l[j]=0)∧(e 2=.pbox 2 g2 0∧m 2=some (.box g2 42 [.sl 6 M,.sl 5 G] false))∧(e 6=.sl 1 N∧e 16=.sl 3 L∧e 17=iv l.length∧e 18=iv i)∧e 7=strA (atS ns l i)) (λi=>l.length - i) 0 zr ?_ ?_
 ·rintro i e m ⟨hi,hc,⟨e2,m2⟩,⟨e6,e16,e17,e18⟩,e7⟩
  have zS:=atS_sz (ns:=ns) hi λj h hj=>hTs j h (hc j h hj);by_cases hlt:i < l.length
  ·have hgi:=hg i hlt;obtain⟨cn,cd,zn,ud⟩:=hoi i hlt;have zS2:(atS ns l i).size≤2000000002000000:=ZB1 zS (ZB1 (ZCf 2000000002000 (by omega:i≤1000)) zd);have hat:=λh=>ZBd (n:=ns.length) hlt hc h;have hnx:atS ns l (i+1)=atS ns l i++atT ns l[i]:=by rw [←Zcj (d:=((0,[],[]):AS)) hlt];rfl
   have hc2:atC ns.length l[i]=0→∀j (h:j < l.length),j < i+1→atC ns.length l[j]=0:=λhch j h hj=>by
    rcases ZCg j i with h1 | h1
    ·exact hc j h h1
    ·have:j=i:=zo;subst this;exact hch
   have zWi:=zW l[i].1;have eAi:=eA l[i].1;have hnmi:=hnm l[i].1;have hC:atC ns.length l[i]=if l[i].1 < -1∨(ns.length:Int)≤l[i].1 then 2 else if chkE ns.length l[i].2.1=0 then chkE ns.length l[i].2.2 else chkE ns.length l[i].2.1:=rfl;have hT:atT ns l[i]=(((((wiB++atW ns l[i].1)++coB)++eTxt ns l[i].2.1)++ovB)++eTxt ns l[i].2.2)++nlB:=rfl;clear hg hoi hTs zW eA hnm hc zS;generalize l[i]=t at *;obtain⟨p,tn,td⟩:=t;simp only at cn cd zn ud hgi zWi eAi hnmi hC hT;generalize eTxt ns tn=X at *;generalize eTxt ns td=Y at *;generalize chkE ns.length tn=kn at *;generalize chkE ns.length td=kd at *;generalize tn.map qtA=An at *
   generalize td.map qtA=Ad at *;by_cases hr:p < -1∨(ns.length:Int)≤p
   ·rw [ZBv hr] at hC;rw [hat (by rw [hC];decide),hC,ZBu zd] at hR;rw [←hR];by_cases hr1:p < -1
    ·(focus (refine wkap (w_11 e2 m2 e6 e16 e17 e18 e7 hll hls hgi hr1) w_t (w_r 0) ?_;(repeat' first|exact w_t|apply w_l);all_goals intros));all_goals exact gL
    ·have hr2:(ns.length:Int)≤p:=zo;(focus (refine wkap (w_12 e2 m2 e6 e16 e17 e18 e7 hll hls hgi hr1 hr2) w_t (w_r 0) ?_;(repeat' first|exact w_t|apply w_l);all_goals intros));all_goals exact gL
   ·rw [ZBu hr] at hC;have hr1:¬p < -1:=zo;have hr2:¬(ns.length:Int)≤p:=zo;by_cases hkn:kn=0
    ·rw [ZBv hkn] at hC cn;have zn:=zn hkn;by_cases hkd:kd=0
     ·rw [ZBv hkd] at cd;have ud:=ud hkd;have hc2:=hc2 (by rw [hC];exact hkd);clear hat;by_cases hp:0≤p
      ·have hn1:=hnmi hp zo;generalize atW ns p=W at *;generalize atS ns l i=S at *;have y1:=ZCn (a:=wiB) (b:=W);have y2:=ZCn (a:=wiB++W) (b:=coB);have y3:=ZCn (a:=wiB++W++coB) (b:=X);have y4:=ZCn (a:=wiB++W++coB++X) (b:=ovB);have y5:=ZCn (a:=wiB++W++coB++X++ovB) (b:=Y);have y6:=ZCn (a:=wiB++W++coB++X++ovB++Y) (b:=nlB);(focus (refine wkap (w_a e2 (w_24 m2 e6 e16 e17 e18 e7 hll hls hgi hr1 hr2 hp hn1 hnl z1 z2 z3' z4 y1 y2 y3 y4 y5 y6)) (w_2 cn cd) (w_r 0) ?_;(repeat' first|exact w_t|apply w_l);all_goals intros))
       exact⟨i+1,⟨zo,hc2,⟨gW e2,gW m2⟩,⟨gW e6,gW e16,gW e17,gS⟩,by rw [hnx,hT];exact gC⟩,zo⟩
      ·have hp1:¬0≤p:=hp;rw [eAi hp] at hT;generalize atS ns l i=S at *;have z5:alB.size=3:=rfl;have y1:=ZCn (a:=wiB) (b:=alB);have y2:=ZCn (a:=wiB++alB) (b:=coB);have y3:=ZCn (a:=wiB++alB++coB) (b:=X);have y4:=ZCn (a:=wiB++alB++coB++X) (b:=ovB);have y5:=ZCn (a:=wiB++alB++coB++X++ovB) (b:=Y);have y6:=ZCn (a:=wiB++alB++coB++X++ovB++Y) (b:=nlB);(focus (refine wkap (w_a e2 (w_24 m2 e6 e16 e17 e18 e7 hll hls hgi hr1 hr2 hp1 hnl z1 z2 z3' z4 z5 y1 y2 y3 y4 y5 y6)) (w_2 cn cd) (w_r 0) ?_;(repeat' first|exact w_t|apply w_l);all_goals intros))
       exact⟨i+1,⟨zo,hc2,⟨gW e2,gW m2⟩,⟨gW e6,gW e16,gW e17,gS⟩,by rw [hnx,hT];exact gC⟩,zo⟩
     ·rw [ZBu hkd] at cd;rw [hat (by rw [hC];exact hkd),hC,ZBu hkd] at hR;rw [←hR];by_cases hp:0≤p
      ·have hn1:=hnmi hp zo;generalize atW ns p=W at *;(focus (refine wkap (w_16 e2 m2 e6 e16 e17 e18 e7 hll hls hgi hr1 hr2 hp hn1 hnl hkd) (w_2 cn cd) (w_r 0) ?_;(repeat' first|exact w_t|apply w_l);all_goals intros));all_goals exact gL
      ·(focus (refine wkap (w_15 e2 m2 e6 e16 e17 e18 e7 hll hls hgi hr1 hr2 hp hnl hkd) (w_2 cn cd) (w_r 0) ?_;(repeat' first|exact w_t|apply w_l);all_goals intros));all_goals exact gL
    ·rw [ZBu hkn] at hC cn;rw [hat (by rw [hC];exact hkn),hC,ZBu hkn] at hR;rw [←hR];by_cases hp:0≤p
     ·have hn1:=hnmi hp zo;generalize atW ns p=W at *;(focus (refine wkap (w_16 e2 m2 e6 e16 e17 e18 e7 hll hls hgi hr1 hr2 hp hn1 hnl hkn) (w_1 cn) (w_r 0) ?_;(repeat' first|exact w_t|apply w_l);all_goals intros));all_goals exact gL
     ·(focus (refine wkap (w_15 e2 m2 e6 e16 e17 e18 e7 hll hls hgi hr1 hr2 hp hnl hkn) (w_1 cn) (w_r 0) ?_;(repeat' first|exact w_t|apply w_l);all_goals intros));all_goals exact gL
  ·have:i=l.length:=zo;subst this;rw [ZBv (Zs2 λj h=>hc j h h)] at hR;rw [←hR];(focus (refine wkap (w_8 e2 m2 e6 e16 e17 e18 e7 hll) w_t (w_r 0) ?_;(repeat' first|exact w_t|apply w_l);all_goals intros));all_goals exact gL
 ·exact⟨ZB5 _,λj h hj=>zo,⟨gC,gC⟩,⟨gC,gC,gC,gC⟩,gC⟩
attribute [go_sem] underlying101 szBL zBL
attribute [local go_sem] ivkBL
theorem szMQP:szOf prog 151=some 1:=by kernel_rfl
theorem zMQP:Zao prog 151=some (.map none):=by kernel_rfl
def laF (ss:List RS) (p:QTs):Nat→Int
 | 0=>-1
 | i+1=>if (ss.getD i ⟨0,.empty,[],⟨false,[],[]⟩⟩).k≠1∧hasT (i:Int) p=true then (i:Int) else laF ss p i
theorem ZBf (ss:List RS) (gs:List RG) (p:QTs) (hl:ss.length≤1000000000) (hp:p.length≤1000000) (hq:∀t∈p,t.2.length≤1000000):Pure prog 101 [figA ss gs,qpA p] (iv (laF ss p ss.length)):=by
 have hls:(ss.map RS.av).length=ss.length:=ZB2 ..;have hg:∀i (h:i < ss.length),(ss.map RS.av).getD i .u=.agg [iv ss[i].k,strA ss[i].nm,.sl 1 (ss[i].ar.map iv),.v (.bool ss[i].r.s),lim ss[i].r.l,lim ss[i].r.d]:=λi h=>Zam RS.av h;have ch:∀i:Nat,Pure prog 165 [.sl 4 (p.map qtA),iv (i:Int)] (.v (.bool (hasT (i:Int) p))):=λi=>exHas p i hp hq;have hla:∀i (h:i < ss.length),laF ss p (i+1)=if ss[i].k≠1∧hasT (i:Int) p=true then (i:Int) else laF ss p i:=λi h=>by rw [←Zcj (d:=(⟨0,.empty,[],⟨false,[],[]⟩⟩:RS)) h];rfl
 show Pure _ _ [.agg [.sl 6 (ss.map RS.av),.sl 5 (gs.map RG.av)],.sl 4 (p.map qtA)] _;generalize ss.map RS.av=M at *;generalize gs.map RG.av=G at *;generalize p.map qtA=A at *;generalize hR:laF ss p ss.length=R;refine pI func101 rfl ntmps101 results101 call101 ?_;(focus (refine wkap (w_1 hls) w_t (w_r 0) ?_;(repeat' first|exact w_t|apply w_l);all_goals intros));rename_i g2;refine Zad (ι:=Nat) (λi e m=>i≤ss.length∧laF ss p i=R∧(e 2=.pbox 2 g2 0∧m 2=some (.box g2 42 [.sl 6 M,.sl 5 G] false))∧e 1=.sl 4 A∧e 5=iv ((i:Int) - 1)) (λi=>i) ss.length zr ?_ ?_
 ·rintro i e m ⟨hi,hr,⟨e2,m2⟩,e1,e5⟩
  cases i with
  | zero =>
    have hr:(-1:Int)=R:=hr;rw [show((0:Nat):Int) - 1=-1 from rfl] at e5;subst hr;(focus (refine wkap (w_5 e2 m2 e1 e5 hls) w_t (w_r 0) ?_;(repeat' first|exact w_t|apply w_l);all_goals intros));all_goals exact gL
  | succ i =>
    have hlt:i < ss.length:=zo;have hgi:=hg i hlt;have chi:=ch i;rw [hla i hlt] at hr;rw [show((i+1:Nat):Int) - 1=(i:Int) from by omega] at e5;clear hla hg ch;generalize ss[i]=s at *;by_cases hk:s.k=1
    ·rw [ZBu (λh=>h.1 hk)] at hr;(focus (refine wkap (w_7 e2 m2 e1 e5 hls hgi hk) w_t (w_r 0) ?_;(repeat' first|exact w_t|apply w_l);all_goals intros));exact⟨i,⟨zo,hr,⟨gW e2,gW m2⟩,gW e1,gC⟩,zo⟩
    ·cases hb:hasT (i:Int) p with
     | true =>
       rw [hb] at chi hr;rw [ZBv ⟨hk,rfl⟩] at hr;subst hr;(focus (refine wkap (w_7 e2 m2 e1 e5 hls hgi hk) (w_1 chi) (w_r 0) ?_;(repeat' first|exact w_t|apply w_l);all_goals intros));all_goals exact gL
     | false =>
       rw [hb] at chi hr;rw [ZBu zs] at hr;(focus (refine wkap (w_7 e2 m2 e1 e5 hls hgi hk) (w_1 chi) (w_r 0) ?_;(repeat' first|exact w_t|apply w_l);all_goals intros));exact⟨i,⟨zo,hr,⟨gW e2,gW m2⟩,gW e1,gC⟩,zo⟩
 ·exact⟨ZBw _,hR,⟨gC,gC⟩,gC,gW hls⟩
theorem arByL (M G A D X Y:List AV) (p:Int) (c:Pure prog 331 [.agg [.sl 6 M,.sl 5 G],iv p,.agg [.sl 4 A,.sl 4 D]] (.tup [.agg [.sl 4 X,.sl 4 Y],iv 0])):Pure prog 330 [.agg [.sl 6 M,.sl 5 G],iv p,.agg [.sl 4 A,.sl 4 D]] (.tup [.agg [.sl 4 X,.sl 4 Y],iv 0]):=by
 refine pI func330 rfl ntmps330 results330 call330 ?_;(focus (refine wkap w_t (w_1 c) (w_r 0) ?_;(repeat' first|exact w_t|apply w_l);all_goals intros));all_goals exact gL
def roS (P:Nat→Int) (A D:Nat→List AV) (i:Nat):List AV:=(List.range i).map λj=>.agg [iv (P j),.sl 4 (A (j+1)),.sl 4 (D (j+1))]
theorem Zx1 (P:Nat→Int) (A D:Nat→List AV) (i:Nat):(roS P A D i).length=i:=by unfold roS;rw [ZB2,List.length_range]
theorem roS_s (P:Nat→Int) (A D:Nat→List AV) (i:Nat):roS P A D (i+1)=roS P A D i++[.agg [iv (P i),.sl 4 (A (i+1)),.sl 4 (D (i+1))]]:=by
 unfold roS;rw [List.range_succ,ZCp];rfl
theorem arSteps (σ:Mem) (K:Nat) (M G:List AV) (N:Nat) (hN:N≤1000) (P:Nat→Int) (A D:Nat→List AV) (hp:∀i,i < N→0≤P i) (hpN:P N < 0)
 (cL:∀i,i≤N→Pure prog 101 [.agg [.sl 6 M,.sl 5 G],.sl 4 (A i)] (iv (P i)))
 (cE:∀i,i < N→Pure prog 330 [.agg [.sl 6 M,.sl 5 G],iv (P i),.agg [.sl 4 (A i),.sl 4 (D i)]] (.tup [.agg [.sl 4 (A (i+1)),.sl 4 (D (i+1))],iv 0])) :
 ACall prog 56 [.agg [.sl 6 M,.sl 5 G],.agg [.sl 4 (A 0),.sl 4 (D 0)],.ifc 101 (.agg [.sl 6 M,.sl 5 G])] σ λr σ'=>∃sv,r=.tup [.own K sv,.agg [.sl 4 (A N),.sl 4 (D N)],iv 0]∧σ'=upd σ K (some (.row sv 49 3 (roS P A D N) 0)):=by
 refine Zjr (args':=[.agg [.sl 6 M,.sl 5 G],.agg [.sl 4 (A 0),.sl 4 (D 0)],.ifc 101 (.agg [.sl 6 M,.sl 5 G])]) func56 rfl ntmps56 results56 call56 zr zs (.cons (Sub.refl _) (.cons (Sub.refl _) (.cons (Sub.refl _) .nil))) ?_;have hL:∀k,lent σ (k+1000)=σ k:=λk=>by unfold lent;rw [ZBu zo,ZFb]
 generalize lent σ=m0 at *;have c0:=cL 0 (ZB5 _);(focus (refine wkad w_t (w_1 c0) w_t ?_;(repeat' first|exact w_t|apply w_l);all_goals intros));rename_i g3 g4 g7;refine Zfb (Frz.nilOwn (d:=9) 40 3 49 (gC)) ?_;refine Zad (ι:=Nat) (λi e m=>i≤N∧(e 3=.pbox 3 g3 0∧m 3=some (.box g3 42 [.sl 6 M,.sl 5 G] false))∧(e 4=.pbox 4 g4 0∧m 4=some (.box g4 47 [.sl 4 (A i),.sl 4 (D i)] false))∧(e 7=.pbox 7 g7 0∧m 7=some (.box g7 47 [.v (.slice none 0 0),.v (.slice none 0 0)] false))∧(e 2=.ifc 101 (.agg [.sl 6 M,.sl 5 G])∧e 10=iv (P i))∧(∀k,m (k+1000)=σ k)∧∃sv,e 9=.own 40 sv∧m 40=some (.row sv 49 3 (roS P A D i) 0)) (λi=>N - i) 0 zr ?_ ?_
 ·rintro i e m ⟨hi,⟨e3,m3⟩,⟨e4,m4⟩,⟨e7,m7⟩,⟨e2,e10⟩,hm,sv,e9,m40⟩
  by_cases hlt:i < N
  ·have h0:=hp i hlt;have cEi:=cE i hlt;have cLi:=cL (i+1) hlt;have hro:=roS_s P A D i;have hrl:(roS P A D i).length≤1000:=by rw [Zx1];omega
   generalize roS P A D i=Q at *;generalize hP1:P (i+1)=P1 at *;generalize P i=P0 at *;generalize hA1:A (i+1)=A1 at *;generalize hD1:D (i+1)=D1 at *;(focus (refine wkad (w_12 e3 m3 e4 m4 e7 m7 e2 e10 e9 m40 h0 hrl) (w_2 cEi cLi) w_t ?_;(repeat' first|exact w_t|apply w_l);all_goals intros));exact⟨i+1,⟨zo,⟨gW e3,gW m3⟩,⟨gW e4,by rw [hA1,hD1];exact gW m4⟩,⟨gW e7,gW m7⟩,⟨gW e2,by rw [hP1];exact gC⟩,λk=>by rw [←hm k];simp (disch:=omega) [Zan,marks,mark],_,gC,by rw [hro];exact gC⟩,zo⟩
  ·obtain rfl:i=N:=zo;have h0:¬0≤P i:=zo;generalize roS P A D i=Q at *;(focus (refine wkad (w_11 e3 m3 e4 m4 e7 m7 e2 e10 e9 m40 h0) w_t (w_1 (w_d 10 [] [] [7])) ?_;(repeat' first|exact w_t|apply w_l);all_goals intros));simp (disch:=omega) only [go_sem,e7];refine back_new (r:=.tup [.own K sv,.agg [.sl 4 (A i),.sl 4 (D i)],iv 0]) 40 K zo (Sub.tup [_,_,_] [_,_,_] rfl ?_) ⟨sv,rfl,rfl⟩ ?_ ?_
   ·intro j a b ha hb
    match j,ha,hb with
    | 0,ha,hb =>
      simp only [ZEv,Option.some.injEq] at ha hb;subst ha;subst hb;exact Sub.own _ _ _
    | 1,ha,hb =>
      simp only [ZF0,ZEv,Option.some.injEq] at ha hb;subst ha;subst hb;exact Sub.refl _
    | 2,ha,hb =>
      simp only [ZF0,ZEv,Option.some.injEq] at ha hb;subst ha;subst hb;exact Sub.refl _
    | j+3,ha,hb=>simp at ha
   ·simp (disch:=omega) only [go_sem,m40,Zan,ZBv]
   ·intro k hk _;simp (disch:=omega) only [go_sem,hm,Zan,ZBu hk]
 ·exact⟨ZB5 _,⟨gC,gC⟩,⟨gC,gC⟩,⟨gC,gC⟩,⟨gC,gC⟩,λk=>by rw [←hL k];simp (disch:=omega) [Zan,marks,mark],_,gC,by(simp (disch:=omega) only [go_sem,roS,List.range_zero,ZDv]<;>repeat' first|rfl|refine⟨?_,?_⟩)⟩
theorem elMost (a:QTs) (q:Qt) {n:Nat} (hl:a.length≤1000000) (hq:∀t∈a,t.2.length≤n) (hn:n≤1000000):Pure prog 340 [qpA a,q.av] (iv (moQ q a)):=by
 have hlm:(a.map qtA).length=a.length:=ZB2 ..;have hg:∀k (h:k < a.length),(a.map qtA).getD k .u=.agg [.v (.bool (decide (a[k].1.num < 0))),lim (toL a[k].1.num.natAbs),lim (toL a[k].1.den),.sl 4 (a[k].2.map Qt.av)]:=λk h=>Zam qtA h;have hts:∀k (h:k < a.length),moQ q (a.take (k+1))=max (moQ q (a.take k)) (tmQ q a[k].2):=λk h=>by rw [ZEe h,Zzc]
 have hf:a.take a.length=a:=ZDg;have hq2:∀k (h:k < a.length),a[k].2.length≤1000000:=λk h=>ZB1 (hq _ (ZB7 h)) hn;have hmb:∀k,moQ q (a.take k)≤1000000:=λk=>mo_le λt ht=>ZB1 (hq t (ZDc ht)) hn;obtain⟨q1,q2,q3,q4⟩:=q;show Pure _ _ [.sl 4 (a.map qtA),.agg [iv q1,iv q2,iv q3,iv q4]] _;generalize a.map qtA=A at *;refine pI func340 rfl ntmps340 results340 call340 ?_
 (refine wkap (w_1 hlm) w_t (w_r 0) (w_s ?_);intros)
 rename_i g3;refine Zad (ι:=Nat) (λk e m=>k≤a.length∧(e 3=.pbox 3 g3 0∧m 3=some (.box g3 91 [iv q1,iv q2,iv q3,iv q4] false))∧e 5=iv (moQ ⟨q1,q2,q3,q4⟩ (a.take k))∧e 11=.sl 4 A∧e 12=iv a.length∧e 13=iv k) (λk=>a.length - k) 0 zr ?_ ?_
 ·rintro k e m ⟨hk,⟨e3,m3⟩,e5,e11,e12,e13⟩
  by_cases hlt:k < a.length
  ·have hgk:=hg k hlt;have htk:=hts k hlt;have hqk:=hq2 k hlt;have hmk:=hmb k;have hwm:(a[k].2.map Qt.av).length=a[k].2.length:=ZB2 ..;have hwe:∀b (h:b < a[k].2.length),(a[k].2.map Qt.av).getD b .u=Qt.av a[k].2[b]:=λb h=>Zam Qt.av h;clear hts hg hf hq hq2 hmb;generalize moQ _ (a.take k)=mo at *;generalize a[k]=u at *;obtain⟨u1,w⟩:=u;simp only at htk hqk hwm hwe hgk;have hws:∀b (h:b < w.length),tmQ ⟨q1,q2,q3,q4⟩ (w.take (b+1))=if w[b]=⟨q1,q2,q3,q4⟩ then tmQ ⟨q1,q2,q3,q4⟩ (w.take b)+1 else tmQ ⟨q1,q2,q3,q4⟩ (w.take b):=λb h=>by rw [ZEe h,Zw5]
   have hwb:∀b,tmQ ⟨q1,q2,q3,q4⟩ (w.take b)≤1000000:=λb=>by have:=tm_le ⟨q1,q2,q3,q4⟩ (w.take b);rw [ZCh] at this;omega
   have hwf:w.take w.length=w:=ZDg;generalize w.map Qt.av=qs at *;generalize toL u1.num.natAbs=un at *;generalize toL u1.den=ud at *;generalize decide (u1.num < 0)=us at *
   (refine wkap (w_9 e3 m3 e5 e11 e12 e13 hlm hgk hwm) w_t (w_r 0) (w_s ?_);intros)
   refine Zad (ι:=Nat) (λb e m=>b≤w.length∧(e 3=.pbox 3 g3 0∧m 3=some (.box g3 91 [iv q1,iv q2,iv q3,iv q4] false))∧e 5=iv mo∧(e 11=.sl 4 A∧e 12=iv a.length∧e 13=iv k)∧e 8=iv (tmQ ⟨q1,q2,q3,q4⟩ (w.take b))∧e 18=.sl 4 qs∧e 19=iv w.length∧e 20=iv b) (λb=>w.length - b) 0 zr ?_ ?_
   ·rintro b e m ⟨hb,⟨e3,m3⟩,e5,⟨e11,e12,e13⟩,e8,e18,e19,e20⟩
    by_cases hbl:b < w.length
    ·have hqb:=hwe b hbl;have hsb:=hws b hbl;have htb:=hwb b;clear hws hwb hwe hwf;by_cases hx:w[b]=⟨q1,q2,q3,q4⟩
     ·rw [ZBv hx] at hsb;rw [hx] at hqb;generalize tmQ _ (w.take b)=tn at *;have hs:(tn:Int)+1=((tn+1:Nat):Int):=zo
      (refine wkap (w_13 e3 m3 e5 e11 e12 e13 e8 e18 e19 e20 hwm hqb hs) w_t (w_r 0) (w_s ?_);intros)
      exact⟨b+1,⟨zo,⟨gW e3,gW m3⟩,gW e5,⟨gW e11,gW e12,gW e13⟩,by rw [hsb];exact gW (And.intro e8 hs),gW e18,gW e19,gS⟩,zo⟩
     ·rw [ZBu hx] at hsb;generalize w[b]=y at *;obtain⟨y1,y2,y3,y4⟩:=y;have hx:¬(y1=q1∧y2=q2∧y3=q3∧y4=q4):=λh=>hx (by obtain⟨rfl,rfl,rfl,rfl⟩:=h;rfl);generalize tmQ _ (w.take b)=tn at *
      (refine wkap (w_13 e3 m3 e5 e11 e12 e13 e8 e18 e19 e20 hwm hqb hx) w_t (w_r 0) (w_s ?_);intros)
      exact⟨b+1,⟨zo,⟨gW e3,gW m3⟩,gW e5,⟨gW e11,gW e12,gW e13⟩,by rw [hsb];exact gW e8,gW e18,gW e19,gS⟩,zo⟩
    ·have:b=w.length:=zo;subst this;rw [hwf] at e8;clear hws hwb hwe hwf;generalize tmQ _ w=tn at *;have hm:max (mo:Int) (tn:Int)=((max mo tn:Nat):Int):=zo
     (refine wkap (w_12 e3 m3 e5 e11 e12 e13 e8 e18 e19 e20 hwm hm) w_t (w_r 0) (w_s ?_);intros)
     exact⟨k+1,⟨zo,⟨gW e3,gW m3⟩,by rw [htk];exact gW hm,gW e11,gW e12,gS⟩,zo⟩
   ·exact⟨ZB5 _,⟨gW e3,gW m3⟩,gW e5,⟨gW e11,gW e12,gW e13⟩,gC,gC,gW hwm,gC⟩
  ·have:k=a.length:=zo;subst this;rw [hf] at e5;generalize moQ _ a=tn at *
   (refine wkap (w_7 e3 m3 e5 e11 e12 e13 hlm) w_t (w_r 0) (w_s ?_);intros)
   all_goals exact gL
 ·exact⟨ZB5 _,⟨gC,gC⟩,gC,gC,gW hlm,gC⟩
theorem elRaised (p d:QTs) (z:Int) (hz:z≤1000000) (hc:∀i,i < z.toNat→Pure prog 66 [qpA (rsX p d i),qpA d] (qpA (rsX p d (i+1)))):Pure prog 341 [qpA p,qpA d,iv z] (qpA (rsX p d z.toNat)):=by
 show Pure _ _ [.sl 4 (p.map qtA),.sl 4 (d.map qtA),_] (.sl 4 ((rsX p d z.toNat).map qtA));have hc:∀i,i < z.toNat→Pure prog 66 [.sl 4 ((rsX p d i).map qtA),.sl 4 (d.map qtA)] (.sl 4 ((rsX p d (i+1)).map qtA)):=hc;generalize d.map qtA=D at *;have h0:(rsX p d 0).map qtA=p.map qtA:=rfl;generalize p.map qtA=PP at *;refine pI func341 rfl ntmps341 results341 call341 ?_
 (refine wkap w_t w_t (w_r 0) (w_s ?_);intros)
 refine Zad (ι:=Nat) (λi e m=>i≤z.toNat∧e 0=.sl 4 ((rsX p d i).map qtA)∧e 1=.sl 4 D∧e 7=iv z∧e 8=iv i) (λi=>z.toNat - i) 0 zr ?_ ?_
 ·rintro i e m ⟨hi,e0,e1,e7,e8⟩
  by_cases hlt:(i:Int) < z
  ·have c:=hc i zo;clear hc;generalize hS:(rsX p d (i+1)).map qtA=S2 at *;generalize (rsX p d i).map qtA=S1 at *
   (refine wkap (w_5 e0 e1 e7 e8 hlt) (w_1 c) (w_r 0) (w_s ?_);intros)
   exact⟨i+1,⟨zo,by rw [hS];exact gC,gW e1,gW e7,gS⟩,zo⟩
  ·have hiz:i=z.toNat:=zo;rw [←hiz];clear hc;generalize (rsX p d i).map qtA=S1 at *
   (refine wkap (w_5 e0 e1 e7 e8 hlt) w_t (w_r 0) (w_s ?_);intros)
   all_goals exact gL
 ·exact⟨ZB5 _,by rw [h0];exact gC,gC,gC,gC⟩
attribute [go_sem] underlying347 szMapQ
attribute [local go_sem] stQ
def kQ (q:Qt):MKey:=.l [q.k,q.a,q.b,q.c]
def cntM (l:List Qt):List (MKey × AV):=l.foldl (λes q=>Zcq (kQ q) (match Zci (kQ q) es with
 | some (.v (.int .i64 n))=>iv (n+1)
 | _=>iv 1) es) []
theorem kQ_inj {p q:Qt} (h:kQ p=kQ q):p=q:=by
 obtain⟨a,b,c,d⟩:=p;obtain⟨a',b',c',d'⟩:=q;unfold kQ at h;simp only [MKey.l.injEq,List.cons.injEq,and_true] at h;obtain⟨rfl,rfl,rfl,rfl⟩:=h;rfl
theorem Zp0 (κ μ:MKey) (v:AV):∀es,Zci κ (Zcq μ v es)=if μ=κ then some v else Zci κ es
 | []=>rfl
 | a :: r=>by
   by_cases h:a.1=μ
   ·simp only [Zcq,ZBv h,Zci];by_cases h2:μ=κ
    ·rw [ZBv h2,ZBv h2]
    ·rw [ZBu h2,ZBu h2,ZBu (by rw [h];exact h2)]
   ·simp only [Zcq,ZBu h,Zci,Zp0 κ μ v r];by_cases h2:a.1=κ
    ·rw [ZBv h2,ZBu (λe=>h (h2.trans e.symm)),ZBv h2]
    ·rw [ZBu h2,ZBu h2]
theorem Zok (l:List Qt) (q:Qt):cntM (l++[q])=Zcq (kQ q) (match Zci (kQ q) (cntM l) with
 | some (.v (.int .i64 n))=>iv (n+1)
 | _=>iv 1) (cntM l):=by unfold cntM;rw [ZGe];rfl
theorem Zol (q:Qt):∀l,Zci (kQ q) (cntM l)=if tmQ q l=0 then none else some (iv (tmQ q l)):=by
 refine Zgb rfl λl a ih=>?_;rw [Zok,Zp0,Zw5];by_cases h:a=q
 ·subst h;rw [ZBv rfl,ZBv rfl,ih];by_cases h0:tmQ a l=0
  ·rw [ZBv h0,h0];rfl
  ·rw [ZBu h0,ZBu zo];rfl
 ·rw [ZBu λe=>h (kQ_inj e),ZBu h,ih]
theorem cnt_step (l:List Qt) (q:Qt):Zcq (kQ q) (iv ((tmQ q l:Nat)+1)) (cntM l)=cntM (l++[q]):=by
 rw [Zok,Zol];by_cases h0:tmQ q l=0
 ·rw [ZBv h0,h0];rfl
 ·rw [ZBu h0]
theorem cnt_res (l:List Qt) (q:Qt):Zr9 false (.v (.int .i64 0)) (Zci (kQ q) (cntM l))=iv (tmQ q l):=by
 rw [Zol];by_cases h0:tmQ q l=0
 ·rw [ZBv h0,h0];rfl
 ·rw [ZBu h0];rfl
theorem Zyi {κ μ:MKey} {v:AV} (h:κ.like μ=true):∀{es:List (MKey × AV)},Ze8 κ es=true→Ze8 κ (Zcq μ v es)=true
 | [],_=>by show(κ.like μ && true)=true;rw [h];rfl
 | a :: r,ha=>by
   have ha':(κ.like a.1 && Ze8 κ r)=true:=ha;rw [ZCm] at ha';by_cases g:a.1=μ
   ·simp only [Zcq,ZBv g];show(κ.like μ && Ze8 κ r)=true;rw [h,ha'.2];rfl
   ·simp only [Zcq,ZBu g];show(κ.like a.1 && Ze8 κ (Zcq μ v r))=true;rw [ha'.1,Zyi h ha'.2];rfl
theorem cnt_all (q:Qt):∀l,Ze8 (kQ q) (cntM l)=true:=by
 refine Zgb rfl λl a ih=>?_;rw [Zok];exact Zyi rfl ih
theorem ZAc {α β:Type} {f:α→List β} {l:List α} {j:Nat} (h:j < l.length):(l.take (j+1)).flatMap f=(l.take j).flatMap f++f l[j]:=by
 rw [ZEe h,ZHp,List.flatMap_singleton]
theorem fm_len {α β:Type} {f:α→List β} (l:List α) (j:Nat):((l.take j).flatMap f).length≤(l.flatMap f).length:=by
 conv=>rhs;rw [←ZD2 j l]
 rw [ZHp,ZCr];omega
abbrev flP (ps:List QTs):List Qt:=ps.flatMap flQ
abbrev hvA (x:Int) (l:List Qt):List AV:=(hvP x l).map Qt.av
theorem hvA_y {x:Int} {l:List Qt} {q:Qt} (h0:tmQ q l=0) (h:hasQ x q=true):hvA x (l++[q])=hvA x l++[q.av]:=by
 unfold hvA;rw [Zi2,ZBv ⟨h0,h⟩,ZCp];rfl
theorem hvA_n {x:Int} {l:List Qt} {q:Qt} (h:¬(tmQ q l=0∧hasQ x q=true)):hvA x (l++[q])=hvA x l:=by
 unfold hvA;rw [Zi2,ZBu h]
theorem cnt_get0 {l:List Qt} {q:Qt} (h:tmQ q l=0):Zci (kQ q) (cntM l)=none:=by rw [Zol,ZBv h]
theorem cnt_get1 {l:List Qt} {q:Qt} (h:¬tmQ q l=0):Zci (kQ q) (cntM l)=some (iv (tmQ q l)):=by rw [Zol,ZBu h]
theorem elHaving (x:Int) (ps:List QTs) (hl:ps.length≤1000000) (hp:∀p∈ps,p.length≤1000000∧∀t∈p,t.2.length≤1000000) (hn:(flP ps).length≤1000000):Pure prog 332 [iv x,.sl 1 (ps.map qpA)] (.sl 4 ((hvL x (flP ps)).map Qt.av)):=by
 have hlm:(ps.map qpA).length=ps.length:=ZB2 ..;have hg:∀i (h:i < ps.length),(ps.map qpA).getD i .u=.sl 4 (ps[i].map qtA):=λi h=>Zam qpA h;have hpi:∀i (h:i < ps.length),ps[i].length≤1000000∧∀t∈ps[i],t.2.length≤1000000:=λi h=>hp _ (ZB7 h);have hti:∀i (h:i < ps.length),flP (ps.take (i+1))=flP (ps.take i)++flQ ps[i]:=λi h=>ZAc h;have hni:∀i,(flP (ps.take i)).length≤1000000:=λi=>ZB1 (fm_len ps i) hn;generalize ps.map qpA=PS at *;refine pI func332 rfl ntmps332 results332 call332 ?_
 (refine wkad (w_1 hlm) w_t w_t (w_s ?_);intros)
 refine Zfb (Frz.nilOwn (d:=6) 500 4 91 (gC)) ?_;rename_i hM;refine Zad (ι:=Nat) (λi e m=>i≤ps.length∧(e 0=iv x∧e 14=.sl 1 PS∧e 15=iv ps.length∧e 16=iv i)∧(e 5=.mp 13 hM∧m 13=some (.map hM (cntM (flP (ps.take i)))))∧∃sv,e 6=.own 500 sv∧m 500=some (.row sv 91 4 (hvA x (flP (ps.take i))) 0)) (λi=>ps.length - i) 0 zr ?_ ?_
 ·rintro i e m ⟨hi,⟨e0,e14,e15,e16⟩,⟨e5,m13⟩,sv,e6,m500⟩
  by_cases hlt:i < ps.length
  ·have hgi:=hg i hlt;obtain⟨lp,hq⟩:=hpi i hlt;have htk:=hti i hlt;have hnk:=hni (i+1);rw [htk] at hnk;clear hg hpi hti hni hp hn;generalize flP (ps.take i)=U at *;generalize ps[i]=p at *;have hpm:(p.map qtA).length=p.length:=ZB2 ..;have hpg:∀j (h:j < p.length),(p.map qtA).getD j .u=.agg [.v (.bool (decide (p[j].1.num < 0))),lim (toL p[j].1.num.natAbs),lim (toL p[j].1.den),.sl 4 (p[j].2.map Qt.av)]:=λj h=>Zam qtA h;have hqj:∀j (h:j < p.length),p[j].2.length≤1000000:=λj h=>hq _ (ZB7 h);have htj:∀j (h:j < p.length),flQ (p.take (j+1))=flQ (p.take j)++p[j].2:=λj h=>ZAc h
   have hnj:∀j,(U++flQ (p.take j)).length≤1000000:=λj=>by have:=fm_len (f:=λt:Rat × List Qt=>t.2) p j;rw [ZCr] at hnk ⊢;unfold flQ at hnk ⊢;omega
   have hfp:flQ (p.take p.length)=flQ p:=by rw [ZDg]
   generalize p.map qtA=PP at *
   (refine wkad (w_11 e0 e14 e15 e16 e5 m13 e6 m500 hlm hgi hpm) w_t w_t (w_s ?_);intros)
   refine Zad (ι:=Nat) (λj e m=>j≤p.length∧(e 0=iv x∧e 14=.sl 1 PS∧e 15=iv ps.length∧e 16=iv i)∧(e 5=.mp 13 hM∧m 13=some (.map hM (cntM (U++flQ (p.take j)))))∧(e 20=.sl 4 PP∧e 21=iv p.length∧e 22=iv j)∧∃sv,e 6=.own 500 sv∧m 500=some (.row sv 91 4 (hvA x (U++flQ (p.take j))) 0)) (λj=>p.length - j) 0 zr ?_ ?_
   ·rintro j e m ⟨hj,⟨e0,e14,e15,e16⟩,⟨e5,m13⟩,⟨e20,e21,e22⟩,sv,e6,m500⟩
    by_cases hjl:j < p.length
    ·have hgj:=hpg j hjl;have lw:=hqj j hjl;have htk2:=htj j hjl;have hnk2:=hnj (j+1);rw [htk2,←ZDd] at hnk2;clear hpg hqj htj hnj htk hnk hq;obtain⟨V,hV⟩:∃V,V=U++flQ (p.take j):=⟨_,rfl⟩;rw [←hV] at m13 m500 hnk2;generalize p[j]=t at *;obtain⟨t1,w⟩:=t;simp only at htk2 lw hgj hnk2;have hwm:(w.map Qt.av).length=w.length:=ZB2 ..;have hwe:∀b (h:b < w.length),(w.map Qt.av).getD b .u=Qt.av w[b]:=λb h=>Zam Qt.av h;have hws:∀b (h:b < w.length),V++w.take (b+1)=(V++w.take b)++[w[b]]:=λb h=>by rw [ZEe h,ZDd]
     have hwn:∀b,(V++w.take b).length≤1000000:=λb=>by rw [ZCr] at hnk2 ⊢;rw [ZCh];omega
     have hwf:w.take w.length=w:=ZDg;generalize w.map Qt.av=qs at *;generalize toL t1.num.natAbs=un at *;generalize toL t1.den=ud at *;generalize decide (t1.num < 0)=us at *
     (refine wkad (w_15 e0 e14 e15 e16 e5 m13 e20 e21 e22 e6 m500 hlm hpm hgj hwm) w_t w_t (w_s ?_);intros)
     refine Zad (ι:=Nat) (λb e m=>b≤w.length∧(e 0=iv x∧e 14=.sl 1 PS∧e 15=iv ps.length∧e 16=iv i)∧(e 5=.mp 13 hM∧m 13=some (.map hM (cntM (V++w.take b))))∧(e 20=.sl 4 PP∧e 21=iv p.length∧e 22=iv j)∧(e 27=.sl 4 qs∧e 28=iv w.length∧e 29=iv b)∧∃sv,e 6=.own 500 sv∧m 500=some (.row sv 91 4 (hvA x (V++w.take b)) 0)) (λb=>w.length - b) 0 zr ?_ ?_
     ·rintro b e m ⟨hb,⟨e0,e14,e15,e16⟩,⟨e5,m13⟩,⟨e20,e21,e22⟩,⟨e27,e28,e29⟩,sv,e6,m500⟩
      by_cases hbl:b < w.length
      ·have hqb:=hwe b hbl;have hsb:=hws b hbl;have hnb:=hwn b;clear hwe hws hwn hwf hnk2;generalize V++w.take b=L at *;generalize w[b]=y at *;have hst:=cnt_step L y;have hres:=cnt_res L y;have hall:=cnt_all y L;have htl:=tm_le y L;have hol:(hvA x L).length≤1000000:=by unfold hvA;rw [ZB2];have:=Zsl x L;omega
       have cp:Pure prog 231 [.agg [iv y.k,iv y.a,iv y.b,iv y.c]] (.sl 1 (y.pts.map iv)):=Zkf y.k y.a y.b y.c;have cc:Pure prog 230 [.sl 1 (y.pts.map iv),iv x] (.v (.bool (hasQ x y))):=Zxn y.pts x (by have:=Zt0 y;omega);have hy:=hvA_y (x:=x) (l:=L) (q:=y);have hno:=hvA_n (x:=x) (l:=L) (q:=y);have g0:=cnt_get0 (l:=L) (q:=y);have g1:=cnt_get1 (l:=L) (q:=y);have hyv:y.av=.agg [iv y.k,iv y.a,iv y.b,iv y.c]:=rfl;have hkk:kQ y=.l [y.k,y.a,y.b,y.c]:=rfl;rw [hkk] at hst hres hall g0 g1;rw [hyv] at hy hqb;rw [←hsb] at hst hy hno;generalize tmQ y L=tn at *;generalize hasQ x y=hv at *
       generalize y.pts.map iv=YP at *;obtain⟨y1,y2,y3,y4⟩:=y;simp only at *;clear hyv hkk hsb;generalize hvA x L=H at *;generalize cntM L=C at *;have hC:=hst.symm;clear hst;by_cases h0:tn=0
       ·have g:=g0 h0;subst h0
        cases hv with
        | true =>
          have hH:=hy rfl rfl;clear hy hno g0 g1
          (refine wkax (w_22 e0 e14 e15 e16 e5 m13 e20 e21 e22 e27 e28 e29 e6 m500 hlm hpm hwm hqb stQ hall g hol) (w_2 cp cc) w_t w_t w_t w_t w_t (w_r 0) (w_s ?_);intros)
          refine Zye (tok:=0) (tk:=13) (h:=hM) (MT:=347) (kt:=91) (et:=3) (T:=91) (κ:=.l [y1,y2,y3,y4]) (kv:=.agg [iv y1,iv y2,iv y3,iv y4]) (k:=((0:Nat))) (es:=C) (s0:=5) (s1:=12) (d0:=47) (d1:=48) (d2:=49) (d3:=50) (d4:=51) (d5:=52) (it:=3) (jt:=3) zk rfl zk ⟨_,_,_,rfl⟩ ⟨_,_,_,rfl⟩ ⟨_,_,_,rfl⟩ ⟨_,_,_,rfl⟩ ⟨_,_,_,rfl⟩ ⟨_,_,_,rfl⟩ ⟨_,_,_,rfl⟩ zk zd zd underlying347 zInt3 (gW e5) (gW m13) (by simp (disch:=omega) only [go_sem]) (mkQ y1 y2 y3 y4) hall hres zo zo ?_
          (refine wkad (w_14 e0 e14 e15 e16 e5 m13 e20 e21 e22 e27 e28 e29 e6 m500) w_t w_t (w_s ?_);intros)
          exact⟨b+1,⟨zo,⟨gW e0,gW e14,gW e15,gW e16⟩,⟨gW e5,by rw [hC];exact gC⟩,⟨gW e20,gW e21,gW e22⟩,⟨gW e27,gW e28,gS⟩,_,gW e6,by rw [hH];exact gW m500⟩,zo⟩
        | false =>
          have hH:=hno (by rintro ⟨_,h⟩;cases h);clear hy hno g0 g1
          (refine wkax (w_22 e0 e14 e15 e16 e5 m13 e20 e21 e22 e27 e28 e29 e6 m500 hlm hpm hwm hqb stQ hall g hol) (w_2 cp cc) w_t w_t w_t w_t w_t (w_r 0) (w_s ?_);intros)
          refine Zye (tok:=0) (tk:=13) (h:=hM) (MT:=347) (kt:=91) (et:=3) (T:=91) (κ:=.l [y1,y2,y3,y4]) (kv:=.agg [iv y1,iv y2,iv y3,iv y4]) (k:=((0:Nat))) (es:=C) (s0:=5) (s1:=12) (d0:=47) (d1:=48) (d2:=49) (d3:=50) (d4:=51) (d5:=52) (it:=3) (jt:=3) zk rfl zk ⟨_,_,_,rfl⟩ ⟨_,_,_,rfl⟩ ⟨_,_,_,rfl⟩ ⟨_,_,_,rfl⟩ ⟨_,_,_,rfl⟩ ⟨_,_,_,rfl⟩ ⟨_,_,_,rfl⟩ zk zd zd underlying347 zInt3 (gW e5) (gW m13) (by simp (disch:=omega) only [go_sem]) (mkQ y1 y2 y3 y4) hall hres zo zo ?_
          (refine wkad (w_14 e0 e14 e15 e16 e5 m13 e20 e21 e22 e27 e28 e29 e6 m500) w_t w_t (w_s ?_);intros)
          exact⟨b+1,⟨zo,⟨gW e0,gW e14,gW e15,gW e16⟩,⟨gW e5,by rw [hC];exact gC⟩,⟨gW e20,gW e21,gW e22⟩,⟨gW e27,gW e28,gS⟩,_,gW e6,by rw [hH];exact gW m500⟩,zo⟩
       ·have g:=g1 h0;have hH:=hno (by rintro ⟨h,_⟩;exact h0 h);clear hy hno g0 g1 cp cc;have h0':¬(tn:Int)=0:=zo
        (refine wkax (w_23 e0 e14 e15 e16 e5 m13 e20 e21 e22 e27 e28 e29 e6 m500 hlm hpm hwm hqb stQ hall g hol h0') w_t w_t w_t w_t w_t w_t (w_r 0) (w_s ?_);intros)
        refine Zye (tok:=0) (tk:=13) (h:=hM) (MT:=347) (kt:=91) (et:=3) (T:=91) (κ:=.l [y1,y2,y3,y4]) (kv:=.agg [iv y1,iv y2,iv y3,iv y4]) (k:=(tn)) (es:=C) (s0:=5) (s1:=12) (d0:=47) (d1:=48) (d2:=49) (d3:=50) (d4:=51) (d5:=52) (it:=3) (jt:=3) zk rfl zk ⟨_,_,_,rfl⟩ ⟨_,_,_,rfl⟩ ⟨_,_,_,rfl⟩ ⟨_,_,_,rfl⟩ ⟨_,_,_,rfl⟩ ⟨_,_,_,rfl⟩ ⟨_,_,_,rfl⟩ zk zd zd underlying347 zInt3 (gW e5) (gW m13) (by simp (disch:=omega) only [go_sem]) (mkQ y1 y2 y3 y4) hall hres zo zo ?_
        (refine wkad (w_14 e0 e14 e15 e16 e5 m13 e20 e21 e22 e27 e28 e29 e6 m500) w_t w_t (w_s ?_);intros)
        exact⟨b+1,⟨zo,⟨gW e0,gW e14,gW e15,gW e16⟩,⟨gW e5,by rw [hC];exact gC⟩,⟨gW e20,gW e21,gW e22⟩,⟨gW e27,gW e28,gS⟩,_,gW e6,by rw [hH];exact gW m500⟩,zo⟩
      ·have hbw:b=w.length:=zo;subst hbw;rw [hwf] at m13 m500;clear hwe hws hwn hwf
       (refine wkad (w_17 e0 e14 e15 e16 e5 m13 e20 e21 e22 e27 e28 e29 e6 m500 hlm hpm hwm) w_t w_t (w_s ?_);intros)
       exact⟨j+1,⟨zo,⟨gW e0,gW e14,gW e15,gW e16⟩,⟨gW e5,by rw [htk2,←ZDd,←hV];exact gW m13⟩,⟨gW e20,gW e21,gS⟩,sv,gW e6,by rw [htk2,←ZDd,←hV];exact gW m500⟩,zo⟩
     ·exact⟨ZB5 _,⟨gW e0,gW e14,gW e15,gW e16⟩,⟨gW e5,by rw [ZFk,ZDf];exact gW m13⟩,⟨gW e20,gW e21,gW e22⟩,⟨gC,gW hwm,gC⟩,sv,gW e6,by rw [ZFk,ZDf];exact gW m500⟩
    ·have hjp:j=p.length:=zo;subst hjp;rw [hfp] at m13 m500;clear hpg hqj htj hnj hq
     (refine wkad (w_13 e0 e14 e15 e16 e5 m13 e20 e21 e22 e6 m500 hlm hpm) w_t w_t (w_s ?_);intros)
     exact⟨i+1,⟨zo,⟨gW e0,gW e14,gW e15,gS⟩,⟨gW e5,by rw [htk];exact gW m13⟩,sv,gW e6,by rw [htk];exact gW m500⟩,zo⟩
   ·exact⟨ZB5 _,⟨gW e0,gW e14,gW e15,gW e16⟩,⟨gW e5,by rw [ZFk,show flQ []=[] from rfl,ZDf];exact gW m13⟩,⟨gC,gW hpm,gC⟩,sv,gW e6,by rw [ZFk,show flQ []=[] from rfl,ZDf];exact gW m500⟩
  ·have hip:i=ps.length:=zo;subst hip;rw [ZDg] at m13 m500;have hlen:(hvP x (flP ps)).length≤1000000000:=by have:=Zsl x (flP ps);omega
   have ci:=fun(m:Mem) h=>Zxl m 500 sv (hvP x (flP ps)) h hlen;rw [hv_eq] at ci;have hol:(hvA x (flP ps)).length≤1000000000:=by unfold hvA;rw [ZB2];exact hlen
   clear hg hpi hti hni hp hn;generalize (hvL x (flP ps)).map Qt.av=RR at *;have ci:∀(m:Mem),m 500=some (.row sv 91 4 (hvA x (flP ps)) 0)→ACall prog 163 [.own 500 sv,.fn 164 []] m λr σ'=>r=.tup []∧σ'=upd m 500 (some (.row sv 91 4 RR 0)):=ci;generalize hvA x (flP ps)=H at *;generalize cntM (flP ps)=C at *
   (refine wkad (w_9 e0 e14 e15 e16 e5 m13 e6 m500 hlm) w_t w_t (w_s ?_);intros)
   refine Zgz (ci _ (gW m500)) ?_
   (refine wkad (w_1 e6) w_t w_t (w_s ?_);intros)
   all_goals exact gL
 ·exact⟨ZB5 _,⟨gC,gC,gW hlm,gC⟩,⟨gC,gC⟩,_,gC,gC⟩
theorem elReplV (A B BN BD N1 N2 D1 D2 R1 R2:List AV) (k a b c:Int) (i j:Nat) (hi:i≤1000000) (hj:j≤1000000) (h1:R1.length≤100000000) (h2:R2.length≤100000000)
 (c1:Pure prog 340 [.sl 4 A,.agg [iv k,iv a,iv b,iv c]] (iv i)) (c2:Pure prog 340 [.sl 4 B,.agg [iv k,iv a,iv b,iv c]] (iv j))
 (c3:Pure prog 342 [.sl 4 A,.agg [iv k,iv a,iv b,iv c],.agg [.sl 4 BN,.sl 4 BD]] (.agg [.sl 4 N1,.sl 4 N2])) (c4:Pure prog 342 [.sl 4 B,.agg [iv k,iv a,iv b,iv c],.agg [.sl 4 BN,.sl 4 BD]] (.agg [.sl 4 D1,.sl 4 D2]))
 (c5:Pure prog 341 [.sl 4 N1,.sl 4 BD,.v (.int .i64 ((j:Int) - (i:Int)))] (.sl 4 R1)) (c6:Pure prog 341 [.sl 4 D1,.sl 4 BD,.v (.int .i64 ((i:Int) - (j:Int)))] (.sl 4 R2)) :
 Pure prog 334 [.agg [.sl 4 A,.sl 4 B],.agg [iv k,iv a,iv b,iv c],.agg [.sl 4 BN,.sl 4 BD]] (if 4000 < R1.length∨4000 < R2.length then .tup [.agg [.v (.slice none 0 0),.v (.slice none 0 0)],iv 4] else .tup [.agg [.sl 4 R1,.sl 4 R2],iv 0]):=by
 by_cases g1:4000 < R1.length
 ·rw [ZBv (.inl g1)];have g1':(R1.length:Int) > 4000:=zo;refine pI func334 rfl ntmps334 results334 call334 ?_
  (refine wkax (w_1 g1') (w_6 c1 c2 c3 c5 c4 c6) (w_3 (w_d 1 [(3,iv i),(7,iv j)] [] []) (w_d 2 [(4,.agg [.sl 4 N1,.sl 4 N2]),(11,.sl 4 R1)] [] []) (w_d 3 [(4,.agg [.sl 4 D1,.sl 4 D2]),(11,.sl 4 R2)] [] [])) w_t w_t w_t w_y (w_r 0) (w_s ?_);intros)
  all_goals exact gL
 ·by_cases g2:4000 < R2.length
  ·rw [ZBv (.inr g2)];have g1':¬(R1.length:Int) > 4000:=zo;have g2':(R2.length:Int) > 4000:=zo;refine pI func334 rfl ntmps334 results334 call334 ?_
   (refine wkax (w_2 g1' g2') (w_6 c1 c2 c3 c5 c4 c6) (w_3 (w_d 1 [(3,iv i),(7,iv j)] [] []) (w_d 2 [(4,.agg [.sl 4 N1,.sl 4 N2]),(11,.sl 4 R1)] [] []) (w_d 3 [(4,.agg [.sl 4 D1,.sl 4 D2]),(11,.sl 4 R2)] [] [])) w_t w_t w_t w_y (w_r 0) (w_s ?_);intros)
   all_goals exact gL
  ·rw [ZBu zo];have g1':¬(R1.length:Int) > 4000:=zo;have g2':¬(R2.length:Int) > 4000:=zo;refine pI func334 rfl ntmps334 results334 call334 ?_
   (refine wkax (w_2 g1' g2') (w_6 c1 c2 c3 c5 c4 c6) (w_3 (w_d 1 [(3,iv i),(7,iv j)] [] []) (w_d 2 [(4,.agg [.sl 4 N1,.sl 4 N2]),(11,.sl 4 R1)] [] []) (w_d 3 [(4,.agg [.sl 4 D1,.sl 4 D2]),(11,.sl 4 R2)] [] [])) w_t w_t w_t w_y (w_r 0) (w_s ?_);intros)
   all_goals exact gL
def elR (z:Int × XX) (N:AV):AV:=if z.1=0 then .tup [.agg [if z.2.1=[] then N else qpA z.2.1,qpA z.2.2],iv 0] else .tup [.agg [.v (.slice none 0 0),.v (.slice none 0 0)],iv z.1]
theorem elR_e {z:Int × XX} (N:AV) {k:Int} {y:XX} (h:z=(k,y)) (hk:k≠0):elR z N=.tup [.agg [.v (.slice none 0 0),.v (.slice none 0 0)],iv k]:=by subst h;unfold elR;rw [ZBu hk]
theorem elT_e {k:Int} {y:XX} (hk:k≠0):elT (k,y)=(k,([],[])):=by unfold elT;rw [ZBv hk]
theorem elT_z {y:XX} (h:y.2=[]):elT (0,y)=(3,([],[])):=by unfold elT;rw [ZBu zs,ZBv h]
theorem elT_n {y:XX} (h:y.2≠[]) (h1:y.1=[]):elT (0,y)=(0,([],[((1:Rat),[])])):=by unfold elT;rw [ZBu zs,ZBu h,ZBv h1]
theorem elT_o {y:XX} (h:y.2≠[]) (h1:y.1≠[]):elT (0,y)=(0,y):=by unfold elT;rw [ZBu zs,ZBu h,ZBu h1]
theorem elF_l {lem:Qt→Int × XX} {q:Qt} {l:List Qt} {x:XX} (h:(lem q).1≠0):elF lem (q :: l) x=((lem q).1,([],[])):=by show(if _ then _ else _)=_;rw [ZBv h]
theorem elF_b {lem:Qt→Int × XX} {q:Qt} {l:List Qt} {x:XX} (h:(lem q).1=0) (hb:4000 < (elS q (lem q).2 x).1.length∨4000 < (elS q (lem q).2 x).2.length):elF lem (q :: l) x=(4,([],[])):=by show(if _ then _ else _)=_;rw [ZBu (by rw [h];simp),ZBv hb]
theorem elF_s {lem:Qt→Int × XX} {q:Qt} {l:List Qt} {x:XX} (h:(lem q).1=0) (hb:¬(4000 < (elS q (lem q).2 x).1.length∨4000 < (elS q (lem q).2 x).2.length)):elF lem (q :: l) x=elF lem l (elS q (lem q).2 x):=by
 show(if _ then _ else _)=_;rw [ZBu (by rw [h];simp),ZBu hb]
abbrev nilA:AV:=.v (.slice none 0 0)
theorem elElV (M G:List AV) (i:Nat) (hi:i < M.length) (l:List Qt) (x0:XX) (lem:Qt→Int × XX) (I:List Qt→XX→Prop) (hll:l.length≤1000000)
 (ch:Pure prog 332 [iv i,.sl 1 [qpA x0.1,qpA x0.2]] (.sl 4 (l.map Qt.av))) (cn:Pure prog 335 [iv 1] (.sl 4 [.agg [.v (.bool false),lim [1],lim [1],.sl 4 []]])) (h0:I l x0)
 (hb:∀l y,I l y→y.1.length≤1000000∧y.2.length≤1000000)
 (hI:∀q r y,I (q :: r) y→Pure prog 333 [.agg [.sl 6 M,.sl 5 G],iv i,q.av] (if (lem q).1=0 then .tup [.agg [qpA (lem q).2.1,qpA (lem q).2.2],iv 0] else .tup [.agg [.v (.slice none 0 0),.v (.slice none 0 0)],iv (lem q).1])
  ∧ ((lem q).1=0→Pure prog 334 [.agg [qpA y.1,qpA y.2],q.av,.agg [qpA (lem q).2.1,qpA (lem q).2.2]] (if 4000 < (elS q (lem q).2 y).1.length∨4000 < (elS q (lem q).2 y).2.length then .tup [.agg [.v (.slice none 0 0),.v (.slice none 0 0)],iv 4] else .tup [.agg [qpA (elS q (lem q).2 y).1,qpA (elS q (lem q).2 y).2],iv 0])
    ∧ (¬(4000 < (elS q (lem q).2 y).1.length∨4000 < (elS q (lem q).2 y).2.length)→I r (elS q (lem q).2 y)))) :
 Pure prog 331 [.agg [.sl 6 M,.sl 5 G],iv i,.agg [qpA x0.1,qpA x0.2]] (elR (elT (elF lem l x0)) nilA):=by
 have hg:∀j (h:j < l.length),(l.map Qt.av).getD j .u=Qt.av l[j]:=λj h=>Zam Qt.av h;have hlm:(l.map Qt.av).length=l.length:=ZB2 ..;obtain⟨R,hR⟩:∃R,R=elR (elT (elF lem l x0)) nilA:=⟨_,rfl⟩;rw [←hR];show Pure _ _ [_,_,.agg [.sl 4 (x0.1.map qtA),.sl 4 (x0.2.map qtA)]] _;have ch:Pure prog 332 [iv i,.sl 1 [.sl 4 (x0.1.map qtA),.sl 4 (x0.2.map qtA)]] (.sl 4 (l.map Qt.av)):=ch;obtain⟨y1,hy1⟩:∃y,y=x0.1.map qtA:=⟨_,rfl⟩;obtain⟨y2,hy2⟩:∃y,y=x0.2.map qtA:=⟨_,rfl⟩;rw [←hy1,←hy2] at ch ⊢;generalize l.map Qt.av=LA at *;refine pI func331 rfl ntmps331 results331 call331 ?_
 (refine wkax (w_2 hi hlm) w_t w_t (w_1 ch) w_t w_t w_y (w_r 0) (w_s ?_);intros)
 rename_i g3 g5 g6 svx;refine Zad (ι:=Nat × XX) (λs e m=>s.1≤l.length∧(e 1=iv i∧(e 3=.pbox 3 g3 0∧m 3=some (.box g3 42 [.sl 6 M,.sl 5 G] false))∧(e 5=.pbox 5 g5 0∧m 5=some (.box g5 47 [.sl 4 (s.2.1.map qtA),.sl 4 (s.2.2.map qtA)] false))∧(e 6=.pbox 6 g6 0∧m 6=some (.box g6 47 [.v (.slice none 0 0),.v (.slice none 0 0)] false)))∧(e 28=.sl 4 LA∧e 29=iv l.length∧e 30=iv s.1)∧I (l.drop s.1) s.2∧elF lem (l.drop s.1) s.2=elF lem l x0) (λs=>l.length - s.1) (0,x0) zr ?_ ?_
 ·rintro ⟨j,y⟩ e m ⟨hj,⟨e1,⟨e3,m3⟩,⟨e5,m5⟩,⟨e6,m6⟩⟩,⟨e28,e29,e30⟩,hIy,hF⟩
  simp only at hj e30 m5 hIy hF;by_cases hlt:j < l.length
  ·have hgj:=hg j hlt;have hdr:l.drop j=l[j] :: l.drop (j+1):=ZEi hlt;rw [hdr] at hIy hF;obtain⟨cL,h2⟩:=hI _ _ _ hIy;clear hI hg ch cn h0 hb hdr hIy;generalize l[j]=q at *;by_cases hz:(lem q).1=0
   ·rw [ZBv hz] at cL;obtain⟨cR,hn⟩:=h2 hz;clear h2;by_cases hbig:4000 < (elS q (lem q).2 y).1.length∨4000 < (elS q (lem q).2 y).2.length
    ·rw [ZBv hbig] at cR;have hres:R=.tup [.agg [.v (.slice none 0 0),.v (.slice none 0 0)],iv 4]:=by rw [hR,←hF,elF_b hz hbig,elT_e zd];exact elR_e _ rfl zd
     subst hres;have cL:Pure prog 333 [.agg [.sl 6 M,.sl 5 G],iv i,q.av] (.tup [.agg [.sl 4 ((lem q).2.1.map qtA),.sl 4 ((lem q).2.2.map qtA)],iv 0]):=cL;have cR:Pure prog 334 [.agg [.sl 4 (y.1.map qtA),.sl 4 (y.2.map qtA)],q.av,.agg [.sl 4 ((lem q).2.1.map qtA),.sl 4 ((lem q).2.2.map qtA)]] _:=cR;clear hF hR hn hz hbig hy1 hy2;generalize (lem q).2.1.map qtA=B1 at *;generalize (lem q).2.2.map qtA=B2 at *;generalize y.1.map qtA=Y1 at *;generalize y.2.map qtA=Y2 at *;obtain⟨q1,q2,q3,q4⟩:=q;have cL:Pure prog 333 [.agg [.sl 6 M,.sl 5 G],iv i,.agg [iv q1,iv q2,iv q3,iv q4]] _:=cL;have cR:Pure prog 334 [.agg [.sl 4 Y1,.sl 4 Y2],.agg [iv q1,iv q2,iv q3,iv q4],.agg [.sl 4 B1,.sl 4 B2]] _:=cR
     have hgj:LA.getD j .u=.agg [iv q1,iv q2,iv q3,iv q4]:=hgj
     (refine wkap (w_12 e1 e3 m3 e5 m5 e6 m6 e28 e29 e30 hlm hgj) (w_2 cL cR) (w_r 0) (w_s ?_);intros)
     all_goals exact gM (w_2 e6 m6)
    ·rw [ZBu hbig] at cR;have hn:=hn hbig;rw [elF_s hz hbig] at hF;have cL:Pure prog 333 [.agg [.sl 6 M,.sl 5 G],iv i,q.av] (.tup [.agg [.sl 4 ((lem q).2.1.map qtA),.sl 4 ((lem q).2.2.map qtA)],iv 0]):=cL;have cR:Pure prog 334 [.agg [.sl 4 (y.1.map qtA),.sl 4 (y.2.map qtA)],q.av,.agg [.sl 4 ((lem q).2.1.map qtA),.sl 4 ((lem q).2.2.map qtA)]] (.tup [.agg [.sl 4 ((elS q (lem q).2 y).1.map qtA),.sl 4 ((elS q (lem q).2 y).2.map qtA)],iv 0]):=cR;generalize elS q (lem q).2 y=y' at *;obtain⟨Z1,hZ1⟩:∃Z,Z=y'.1.map qtA:=⟨_,rfl⟩;obtain⟨Z2,hZ2⟩:∃Z,Z=y'.2.map qtA:=⟨_,rfl⟩;rw [←hZ1,←hZ2] at cR;clear hR hz hbig hy1 hy2
     generalize (lem q).2.1.map qtA=B1 at *;generalize (lem q).2.2.map qtA=B2 at *;generalize y.1.map qtA=Y1 at *;generalize y.2.map qtA=Y2 at *;obtain⟨q1,q2,q3,q4⟩:=q;have cL:Pure prog 333 [.agg [.sl 6 M,.sl 5 G],iv i,.agg [iv q1,iv q2,iv q3,iv q4]] _:=cL;have cR:Pure prog 334 [.agg [.sl 4 Y1,.sl 4 Y2],.agg [iv q1,iv q2,iv q3,iv q4],.agg [.sl 4 B1,.sl 4 B2]] _:=cR;have hgj:LA.getD j .u=.agg [iv q1,iv q2,iv q3,iv q4]:=hgj
     (refine wkap (w_12 e1 e3 m3 e5 m5 e6 m6 e28 e29 e30 hlm hgj) (w_2 cL cR) (w_r 0) (w_s ?_);intros)
     exact⟨(j+1,y'),⟨by show j+1≤_;omega,⟨gW e1,⟨gW e3,gW m3⟩,⟨gW e5,by rw [←hZ1,←hZ2];exact gW m5⟩,⟨gW e6,gW m6⟩⟩,⟨gW e28,gW e29,gS⟩,hn,hF⟩,by simp only;omega⟩
   ·rw [ZBu hz] at cL;have hres:R=.tup [.agg [.v (.slice none 0 0),.v (.slice none 0 0)],iv (lem q).1]:=by rw [hR,←hF,elF_l hz,elT_e hz];exact elR_e _ rfl hz
    subst hres;clear hF h2 hR hy1 hy2;generalize (lem q).1=z at *;generalize y.1.map qtA=Y1 at *;generalize y.2.map qtA=Y2 at *;obtain⟨q1,q2,q3,q4⟩:=q;have cL:Pure prog 333 [.agg [.sl 6 M,.sl 5 G],iv i,.agg [iv q1,iv q2,iv q3,iv q4]] _:=cL;have hgj:LA.getD j .u=.agg [iv q1,iv q2,iv q3,iv q4]:=hgj
    (refine wkap (w_13 e1 e3 m3 e5 m5 e6 m6 e28 e29 e30 hlm hgj hz) (w_1 cL) (w_r 0) (w_s ?_);intros)
    all_goals exact gM (w_2 e6 m6)
  ·have hjl:j=l.length:=zo;subst hjl;rw [List.drop_length] at hIy hF;have hF:(0,y)=elF lem l x0:=hF;obtain⟨b1,b2⟩:=hb _ _ hIy;have l1:(y.1.map qtA).length=y.1.length:=ZB2 ..;have l2:(y.2.map qtA).length=y.2.length:=ZB2 ..;clear hI hg ch h0 hb hIy hy1 hy2;by_cases n2:y.2=[]
   ·have hres:R=.tup [.agg [.v (.slice none 0 0),.v (.slice none 0 0)],iv 3]:=by rw [hR,←hF,elT_z n2];exact elR_e _ rfl zd
    subst hres;rw [n2] at m5;clear cn hF hR l1 l2;have m5:m 5=some (.box g5 47 [.sl 4 (y.1.map qtA),.sl 4 []] false):=m5;generalize y.1.map qtA=Y1 at *
    (refine wkap (w_11 e1 e3 m3 e5 m5 e6 m6 e28 e29 e30 hlm) w_t (w_r 0) (w_s ?_);intros)
    all_goals exact gM (w_2 e6 m6)
   ·have k2:¬y.2.length=0:=λh=>n2 (List.length_eq_zero_iff.1 h);have k2':¬(y.2.length:Int)=0:=zo;by_cases n1:y.1=[]
    ·have hres:R=.tup [.agg [.v (.slice none 0 0),.sl 4 [.agg [.v (.bool false),lim [1],lim [1],.sl 4 []]]],iv 0]:=by
      rw [hR,←hF,elT_n n2 n1];show AV.tup [.agg [.v (.slice none 0 0),.sl 4 [qtA ((1:Rat),[])]],iv 0]=_;rw [Zld];rfl
     subst hres;rw [n1] at m5;have m5:m 5=some (.box g5 47 [.sl 4 [],.sl 4 (y.2.map qtA)] false):=m5;clear hF hR l1;generalize y.2.map qtA=Y2 at *
     (refine wkap (w_13 e1 e3 m3 e5 m5 e6 m6 e28 e29 e30 hlm l2 k2') (w_1 cn) (w_r 0) (w_s ?_);intros)
     all_goals exact gM (w_2 e6 m6)
    ·have k1:¬y.1.length=0:=λh=>n1 (List.length_eq_zero_iff.1 h);have k1':¬(y.1.length:Int)=0:=zo
     have hres:R=.tup [.agg [.sl 4 (y.1.map qtA),.sl 4 (y.2.map qtA)],iv 0]:=by
      rw [hR,←hF,elT_o n2 n1];unfold elR;rw [ZBv rfl,ZBu n1]
     subst hres;clear hF hR cn;generalize y.1.map qtA=Y1 at *;generalize y.2.map qtA=Y2 at *
     (refine wkap (w_15 e1 e3 m3 e5 m5 e6 m6 e28 e29 e30 hlm l1 l2 k1' k2') w_t (w_r 0) (w_s ?_);intros)
     all_goals exact gM (w_4 e5 m5 e6 m6)
 ·exact⟨ZB5 _,⟨gC,⟨gC,gC⟩,⟨gC,by rw [←hy1,←hy2];exact gC⟩,⟨gC,gC⟩⟩,⟨gC,gW hlm,gC⟩,h0,rfl⟩
theorem scl_i1 (p:QTs):sclT ((1:Int):Rat) p=p:=by show sclT 1 p=_;exact Zk2 p
structure RoundOk (x:Int) (q:Qt) (l:List Qt) (K N:Nat) (y b:XX):Prop where
 h:EI x (q :: l) K N y
 hq:hasQ x q=true
 nf:q.norm=(q,1)
 b:LmOk x b
 k:K≤60000
 n:N≤900
section
variable {x:Int} {q:Qt} {l:List Qt} {K N:Nat} {y b:XX}
theorem RoundOk.l1 (h:RoundOk x q l K N y b):(elS q b y).1=rsX (rpN q y.1 b.1 b.2) b.2 (moQ q y.2 - moQ q y.1)∧(rsX (rpN q y.1 b.1 b.2) b.2 (moQ q y.2 - moQ q y.1)).length≤1728000:=by
 obtain⟨m1,m2⟩:=h.h.mo h.hq;refine⟨?_,Zxy h.h.l1 h.b.ln h.b.ld zo⟩;exact(rs_pw (rs_xb (i:=0) h.h.x1 h.b.xn h.b.xd m1 zo).1 h.b.xd.1 _).symm
theorem RoundOk.l2 (h:RoundOk x q l K N y b):(elS q b y).2=rsX (rpN q y.2 b.1 b.2) b.2 (moQ q y.1 - moQ q y.2)∧(rsX (rpN q y.2 b.1 b.2) b.2 (moQ q y.1 - moQ q y.2)).length≤1728000:=by
 obtain⟨m1,m2⟩:=h.h.mo h.hq;refine⟨?_,Zxy h.h.l2 h.b.ln h.b.ld zo⟩;exact(rs_pw (rs_xb (i:=0) h.h.x2 h.b.xn h.b.xd m2 zo).1 h.b.xd.1 _).symm
end
theorem elPart {x:Int} {q:Qt} {K N:Nat} {p:QTs} {b:XX} (z:Int) (hp:XB p K N) (lp:p.length≤4000) (hm:moQ q p≤2) (hz:(moQ q p:Int)+z≤2) (hz1:z≤2) (nf:q.norm=(q,1)) (hb:LmOk x b) (hK:K≤60000) (hN:N≤900) :
 Pure prog 340 [qpA p,q.av] (iv (moQ q p))∧Pure prog 342 [qpA p,q.av,.agg [qpA b.1,qpA b.2]] (.agg [qpA (rpN q p b.1 b.2),qpA (rpD q p b.2)])∧Pure prog 341 [qpA (rpN q p b.1 b.2),qpA b.2,iv z] (qpA (rsX (rpN q p b.1 b.2) b.2 z.toNat)):=by
 have hmq:maxQ=1000:=rfl;refine⟨elMost p q (n:=N) zo hp.2.1 zo,?_,?_⟩
 ·have c:=ZAd p b.1 b.2 q (L:=12) (LA:=4000) (M:=2) hp hb.xn hb.xd lp zd zd (by rw [nf];exact hm) hb.ln hb.ld zd zo zd zo;rw [nf] at c;simp only at c;rw [ZBu zd,scl_i1] at c;exact c
 ·refine elRaised _ _ z zo λi hi=>?_;have hx:=rs_xb (i:=i) hp hb.xn hb.xd hm zo;have hl:=Zxy (i:=i) (q:=q) lp hb.ln hb.ld zo;have h12:=ZC7 hl hb.ld;exact ZAf _ _ hx hb.xd zo (ZB1 h12 zd) zo (by have:=hb.ld;omega) zo zo
theorem elRepl {x:Int} {q:Qt} {l:List Qt} {K N:Nat} {y b:XX} (h:RoundOk x q l K N y b):Pure prog 334 [.agg [qpA y.1,qpA y.2],q.av,.agg [qpA b.1,qpA b.2]] (if 4000 < (elS q b y).1.length∨4000 < (elS q b y).2.length then .tup [.agg [.v (.slice none 0 0),.v (.slice none 0 0)],iv 4] else .tup [.agg [qpA (elS q b y).1,qpA (elS q b y).2],iv 0]):=by
 obtain⟨m1,m2⟩:=h.h.mo h.hq;obtain⟨c1,c3,c5⟩:=elPart ((moQ q y.2:Int) - (moQ q y.1:Int)) h.h.x1 h.h.l1 m1 zo zo h.nf h.b h.k h.n;obtain⟨c2,c4,c6⟩:=elPart ((moQ q y.1:Int) - (moQ q y.2:Int)) h.h.x2 h.h.l2 m2 zo zo h.nf h.b h.k h.n;obtain⟨e1,l1⟩:=h.l1;obtain⟨e2,l2⟩:=h.l2;rw [show((moQ q y.2:Int) - (moQ q y.1:Int)).toNat=moQ q y.2 - moQ q y.1 by omega,←e1] at c5;rw [show((moQ q y.1:Int) - (moQ q y.2:Int)).toNat=moQ q y.1 - moQ q y.2 by omega,←e2] at c6;rw [←e1] at l1;rw [←e2] at l2;have k:=elReplV _ _ _ _ _ _ _ _ _ _ q.k q.a q.b q.c (moQ q y.1) (moQ q y.2) zo zo (by rw [ZB2];omega) (by rw [ZB2];omega) c1 c2 c3 c4 c5 c6
 rwa [ZB2,ZB2] at k
def lemQ (ss:List RS) (i:Nat) (hi:i < ss.length) (q:Qt):Int × XX:=if q.chk ss.length 64=0 then lmS ss i hi q else (q.chk ss.length 64,([],[]))
theorem lemQ_av {ss:List RS} {i:Nat} {hi:i < ss.length} {q:Qt}:lmA q ss.length (lmS ss i hi q) nilA=if (lemQ ss i hi q).1=0 then .tup [.agg [qpA (lemQ ss i hi q).2.1,qpA (lemQ ss i hi q).2.2],iv 0] else .tup [.agg [nilA,nilA],iv (lemQ ss i hi q).1]:=by
 unfold lmA lemQ;by_cases h:q.chk ss.length 64=0
 ·rw [ZBv h,ZBv h]
 ·rw [ZBu h,ZBu h,ZBu h]
theorem chk_okQ {q:Qt} {n:Int} (h:q.chk n 64=0):q.ok=true:=by
 cases g:q.ok with
 | true=>rfl
 | false=>unfold Qt.chk at h;rw [ZBu (by rw [g];simp)] at h;cases h
theorem lemQ_ok {ss:List RS} {i:Nat} (hi:i < ss.length) (h8:ss.length≤8) (he:errS ss i=0) (hr:ss[i].r.lm 2) {q:Qt} (h0:(lemQ ss i hi q).1=0):LmOk i (lemQ ss i hi q).2:=by
 have hA:=st_a hi h8 he hr;unfold lemQ at h0 ⊢;by_cases h:q.chk ss.length 64=0
 ·rw [ZBv h] at h0 ⊢;exact lm_ok hA (chk_okQ h) (λhs hx=>Zy4 h hs hx) h0
 ·rw [ZBu h] at h0;exact absurd h0 h
def Ahead (x:Int) (l:List Qt) (y:XX):Prop:=∃K N,EI x l K N y∧K+l.length*1472≤50000∧N+l.length*20≤900∧∀q∈l,hasQ x q=true∧q.norm=(q,1)
theorem Ahead.beg {x:Int} {K N:Nat} {n d:QTs} (h1:XB n K N) (h2:XB d K N) (l1:n.length≤4000) (l2:d.length≤4000) (c1:∀t∈n,t.2.length≤2) (c2:∀t∈d,t.2.length≤2) (hk:K+(flQ n++flQ d).length*1472≤50000) (hn:N+(flQ n++flQ d).length*20≤900):Ahead x (hvL x (flQ n++flQ d)) (n,d):=by
 have hl:=Zz4 x (flQ n++flQ d);have e1:(hvL x (flQ n++flQ d)).length*1472≤(flQ n++flQ d).length*1472:=ZCf _ hl;have e2:(hvL x (flQ n++flQ d)).length*20≤(flQ n++flQ d).length*20:=ZCf _ hl;refine⟨K,N,EI.beg h1 h2 l1 l2 c1 c2,zo,zo,λq hq=>?_⟩;obtain⟨hm,hx⟩:=Zsd.1 hq;refine⟨hx,?_⟩;rcases List.mem_append.1 hm with g | g
 ·obtain⟨t,ht,hqt⟩:=Zn0.1 g;exact(h1.1.1 t ht).2.2 q hqt
 ·obtain⟨t,ht,hqt⟩:=Zn0.1 g;exact(h2.1.1 t ht).2.2 q hqt
theorem Ahead.round {x:Int} {q:Qt} {l:List Qt} {y b:XX} (h:Ahead x (q :: l) y) (hb:LmOk x b):∃K N,RoundOk x q l K N y b:=by
 obtain⟨K,N,h1,h2,h3,h4⟩:=h;rw [ZCd] at h2 h3;exact⟨K,N,h1,(h4 q (.head _)).1,(h4 q (.head _)).2,hb,zo,zo⟩
theorem Ahead.step {x:Int} {q:Qt} {l:List Qt} {y b:XX} (h:Ahead x (q :: l) y) (hb:LmOk x b) (hn:¬(4000 < (elS q b y).1.length∨4000 < (elS q b y).2.length)):Ahead x l (elS q b y):=by
 obtain⟨K,N,h1,h2,h3,h4⟩:=h;rw [ZCd] at h2 h3;exact⟨K+1472,N+20,h1.step (h4 q (.head _)).1 hb zo zo,zo,zo,λu hu=>h4 u (.tail _ hu)⟩
abbrev elZ (ss:List RS) (i:Nat) (hi:i < ss.length) (x:XX):Int × XX:=elF (lemQ ss i hi) (hvL i (flQ x.1++flQ x.2)) x
theorem ZAq (ss:List RS) (gs:List RG) (i:Nat) (hi:i < ss.length) (h8:ss.length≤8) (he:errS ss i=0) (hr:ss[i].r.lm 2) (hL:∀k a b c,Pure prog 333 [figA ss gs,iv i,.agg [iv k,iv a,iv b,iv c]] (lmA ⟨k,a,b,c⟩ ss.length (lmS ss i hi ⟨k,a,b,c⟩) (.v (.slice none 0 0)))) (x:XX) (l1:x.1.length≤1000000) (l2:x.2.length≤1000000) (q1:∀t∈x.1,t.2.length≤1000000) (q2:∀t∈x.2,t.2.length≤1000000) (hf:(flQ x.1++flQ x.2).length≤1000000) (h0:Ahead i (hvL i (flQ x.1++flQ x.2)) x):Pure prog 331 [figA ss gs,iv i,.agg [qpA x.1,qpA x.2]] (elR (elT (elZ ss i hi x)) nilA):=by
 have hP:flP [x.1,x.2]=flQ x.1++flQ x.2:=by show flQ x.1++(flQ x.2++[])=_;rw [ZDf]
 have ch:=elHaving i [x.1,x.2] (by show 2≤1000000;decide) (λp hp=>by
  rcases List.mem_cons.1 hp with rfl | hp
  ·exact⟨l1,q1⟩
  ·rw [List.mem_singleton.1 hp];exact⟨l2,q2⟩) (by rw [hP];exact hf)
 rw [hP] at ch;have hn:=Zqk;rw [nx1,show qpA onX=.sl 4 [.agg [.v (.bool false),lim [1],lim [1],.sl 4 []]] from by show AV.sl 4 [qtA ((1:Rat),[])]=_;rw [Zld];rfl] at hn;refine elElV (ss.map RS.av) (gs.map RG.av) i (by rw [ZB2];exact hi) _ x (lemQ ss i hi) (Ahead i) (ZB1 (Zz4 _ _) hf) ch hn h0 ?_ ?_
 ·rintro l y ⟨K,N,h1,-⟩
  have:=h1.l1;have:=h1.l2;exact⟨zo,zo⟩
 ·intro q r y hI;refine⟨?_,λhz=>?_⟩
  ·have c:=hL q.k q.a q.b q.c;have c:Pure prog 333 [figA ss gs,iv i,q.av] (lmA q ss.length (lmS ss i hi q) nilA):=c;rw [lemQ_av] at c;exact c
  ·have ok:=lemQ_ok hi h8 he hr hz;obtain⟨K,N,hR⟩:=hI.round ok;exact⟨elRepl hR,λhn=>hI.step ok hn⟩
abbrev pI40 (a:Int):Prop:=0≤a∧a < 40
theorem ZBe (a b c:Int) (h:Qt.ok ⟨1,a,b,c⟩=true):Pure prog 23 [iv a,iv b,iv c] (.sl 4 ((ofX ⟨1,a,b,c⟩).map qtA)):=by
 have c1:Pure prog 64 [.agg [iv 1,iv a,iv b,iv c]] (.sl 4 ((ofX ⟨1,a,b,c⟩).map qtA)):=ZAe h;show Pure _ _ [iv a,iv b,iv c] (.sl 4 ((ofX ⟨1,a,b,c⟩).map qtA));generalize (ofX ⟨1,a,b,c⟩).map qtA=G at *;refine pI func23 rfl ntmps23 results23 call23 ?_;(focus (refine wkap w_t (w_1 c1) (w_r 0) ?_;(repeat' first|exact w_t|apply w_l);all_goals intros));all_goals exact gL
theorem arPy (a b c:Int) (h:Qt.ok ⟨2,a,b,c⟩=true):Pure prog 30 [iv a,iv b,iv c] (.sl 4 ((ofX ⟨2,a,b,c⟩).map qtA)):=by
 have c1:Pure prog 64 [.agg [iv 2,iv a,iv b,iv c]] (.sl 4 ((ofX ⟨2,a,b,c⟩).map qtA)):=ZAe h;show Pure _ _ [iv a,iv b,iv c] (.sl 4 ((ofX ⟨2,a,b,c⟩).map qtA));generalize (ofX ⟨2,a,b,c⟩).map qtA=G at *;refine pI func30 rfl ntmps30 results30 call30 ?_;(focus (refine wkap w_t (w_1 c1) (w_r 0) ?_;(repeat' first|exact w_t|apply w_l);all_goals intros));all_goals exact gL
theorem arCrossV (a b c d:Int) (A B C:List AV) (c1:Pure prog 23 [iv a,iv b,iv d] (.sl 4 A)) (c2:Pure prog 23 [iv a,iv b,iv c] (.sl 4 B)) (c3:Pure prog 65 [.sl 4 A,.sl 4 B] (.sl 4 C)):Pure prog 24 [.sl 1 [iv a,iv b,iv c,iv d]] (.sl 4 C):=by
 refine pI func24 rfl ntmps24 results24 call24 ?_;(focus (refine wkad w_t (w_3 c1 c2 c3) (w_1 (w_d 1 [(9,.sl 4 A),(19,.sl 4 B),(20,.sl 4 C)] [] [])) ?_;(repeat' first|exact w_t|apply w_l);all_goals intros));all_goals exact gL
theorem Zs3 {a b c d:Int} (ha:pI40 a) (hb:pI40 b) (hc:pI40 c) (hd:pI40 d):Pure prog 24 [.sl 1 [iv a,iv b,iv c,iv d]] (qpA (crX a b c d)) :=
 have x:=Zdk (.inl rfl) ha hb hd;have y:=Zdk (.inl rfl) ha hb hc
 arCrossV a b c d _ _ _ (ZBe _ _ _ x) (ZBe _ _ _ y) (Zm0 (Zeb x).s (Zeb y).s)
theorem arDotV (a b c d:Int) (A B C:List AV) (c1:Pure prog 30 [iv b,iv a,iv d] (.sl 4 A)) (c2:Pure prog 30 [iv b,iv a,iv c] (.sl 4 B)) (c3:Pure prog 65 [.sl 4 A,.sl 4 B] (.sl 4 C)):Pure prog 25 [.sl 1 [iv a,iv b,iv c,iv d]] (.sl 4 C):=by
 refine pI func25 rfl ntmps25 results25 call25 ?_;(focus (refine wkad w_t (w_3 c1 c2 c3) (w_1 (w_d 1 [(9,.sl 4 A),(19,.sl 4 B),(20,.sl 4 C)] [] [])) ?_;(repeat' first|exact w_t|apply w_l);all_goals intros));all_goals exact gL
theorem arDot {a b c d:Int} (ha:pI40 a) (hb:pI40 b) (hc:pI40 c) (hd:pI40 d):Pure prog 25 [.sl 1 [iv a,iv b,iv c,iv d]] (qpA (doX a b c d)) :=
 have x:=Zdk (.inr rfl) hb ha hd;have y:=Zdk (.inr rfl) hb ha hc
 arDotV a b c d _ _ _ (arPy _ _ _ x) (arPy _ _ _ y) (Zm0 (Zeb x).s (Zeb y).s)
theorem arLenV (a b c d:Int) (bo:Bool) (n m:List Nat) (A B C D E:List AV) (c1:Pure prog 30 [iv a,iv b,iv a] (.sl 4 A)) (c2:Pure prog 55 [.agg [.v (.bool bo),lim n,lim m]] (.sl 4 B)) (c3:Pure prog 30 [iv c,iv d,iv c] (.sl 4 C)) (c4:Pure prog 66 [.sl 4 B,.sl 4 C] (.sl 4 D)) (c5:Pure prog 65 [.sl 4 A,.sl 4 D] (.sl 4 E)):Pure prog 26 [.sl 1 [iv a,iv b,iv c,iv d],.agg [.v (.bool bo),lim n,lim m]] (.sl 4 E):=by
 refine pI func26 rfl ntmps26 results26 call26 ?_;(focus (refine wkad w_t (w_5 c1 c2 c3 c4 c5) (w_1 (w_d 1 [(9,.sl 4 A),(11,.sl 4 B),(21,.sl 4 C),(22,.sl 4 D),(23,.sl 4 E)] [] [])) ?_;(repeat' first|exact w_t|apply w_l);all_goals intros));all_goals exact gL
theorem arLen {a b c d:Int} {r:Rat} (ha:pI40 a) (hb:pI40 b) (hc:pI40 c) (hd:pI40 d) (hr:Sz r 2):Pure prog 26 [.sl 1 [iv a,iv b,iv c,iv d],ratQ r] (qpA (leX a b c d r)) :=
 have x:=Zdk (.inr rfl) ha hb ha;have y:=Zdk (.inr rfl) hc hd hc;have z:=(Zf7 hr).mul (Zeb y)
 arLenV a b c d _ _ _ _ _ _ _ _ (arPy _ _ _ x) (Zm1 hr) (arPy _ _ _ y) (Zuw (Zf7 hr) (Zeb y)) (Zm0 (Zeb x).s z.s)
theorem arMidV (a b c:Int) (bo:Bool) (n m:List Nat) (T A B C D E F:List AV) (c1:Pure prog 27 [iv 2] (.agg [.v (.bool bo),lim n,lim m])) (c2:Pure prog 55 [.agg [.v (.bool bo),lim n,lim m]] (.sl 4 T)) (c3:Pure prog 30 [iv a,iv b,iv a] (.sl 4 A)) (c4:Pure prog 30 [iv a,iv c,iv a] (.sl 4 B)) (c5:Pure prog 69 [.sl 4 A,.sl 4 B] (.sl 4 C)) (c6:Pure prog 30 [iv b,iv a,iv c] (.sl 4 D)) (c7:Pure prog 66 [.sl 4 T,.sl 4 D] (.sl 4 E)) (c8:Pure prog 69 [.sl 4 C,.sl 4 E] (.sl 4 F)):Pure prog 28 [iv a,iv b,iv c] (.sl 4 F):=by
 refine pI func28 rfl ntmps28 results28 call28 ?_;(focus (refine wkax w_t (w_2 c1 c2) w_t w_t (w_6 c3 c4 c5 c6 c7 c8) w_t w_y (w_r 0) ?_;(repeat' first|exact w_t|apply w_l);all_goals intros));all_goals exact gL
theorem arMid {a b c:Int} (ha:pI40 a) (hb:pI40 b) (hc:pI40 c):Pure prog 28 [iv a,iv b,iv c] (qpA (mdX a b c)) :=
 have x:=Zdk (.inr rfl) ha hb ha;have y:=Zdk (.inr rfl) ha hc ha;have z:=Zdk (.inr rfl) hb ha hc;have w:=(Zeb x).add (Zeb y);have v:=(Zf7 Zo4).mul (Zeb z)
 arMidV a b c _ _ _ _ _ _ _ _ _ _ (Zpg 2 zo) (Zm1 (Zo4.mono zd)) (arPy _ _ _ x) (arPy _ _ _ y) (ZAi (Zeb x).s (Zeb y).s) (arPy _ _ _ z) (Zuw (Zf7 Zo4) (Zeb z)) (ZAi w.s v.s)
theorem arXdV (A B C D E F G:List AV) (c1:Pure prog 66 [.sl 4 A,.sl 4 B] (.sl 4 E)) (c2:Pure prog 66 [.sl 4 C,.sl 4 D] (.sl 4 F)) (c3:Pure prog 65 [.sl 4 E,.sl 4 F] (.sl 4 G)):Pure prog 29 [.sl 4 A,.sl 4 B,.sl 4 C,.sl 4 D] (.sl 4 G):=by
 refine pI func29 rfl ntmps29 results29 call29 ?_;(focus (refine wkax w_t w_t w_t w_t (w_3 c1 c2 c3) w_t w_y (w_r 0) ?_;(repeat' first|exact w_t|apply w_l);all_goals intros));all_goals exact gL
theorem arXd {a b c d:QTs} (ha:XL a 3 1 2) (hb:XL b 3 1 2) (hc:XL c 3 1 2) (hd:XL d 3 1 2):Pure prog 29 [qpA a,qpA b,qpA c,qpA d] (qpA (xsX a b c d)) :=
 arXdV _ _ _ _ _ _ _ (Zuw ha hb) (Zuw hc hd) (Zm0 (ha.mul hb).s (hc.mul hd).s)
theorem arGoal1 (a b c:Int) (bo:Bool) (n m:List Nat) (G:List AV) (c0:Pure prog 22 [.agg [iv 1,.sl 1 [iv a,iv b,iv c],.v (.bool bo),lim n,lim m],iv 40] (iv 0)) (c1:Pure prog 23 [iv a,iv b,iv c] (.sl 4 G)):Pure prog 8 [.agg [iv 1,.sl 1 [iv a,iv b,iv c],.v (.bool bo),lim n,lim m]] (.tup [.sl 4 G,iv 0]):=by
 refine pI func8 rfl ntmps8 results8 call8 ?_;(focus (refine wkad w_t (w_2 c0 c1) (w_1 (w_d 7 [(9,.sl 4 G)] [] [])) ?_;(repeat' first|exact w_t|apply w_l);all_goals intros));all_goals exact gL
theorem arGoal2 (a b c d:Int) (bo:Bool) (n m:List Nat) (G:List AV) (c0:Pure prog 22 [.agg [iv 2,.sl 1 [iv a,iv b,iv c,iv d],.v (.bool bo),lim n,lim m],iv 40] (iv 0)) (c1:Pure prog 24 [.sl 1 [iv a,iv b,iv c,iv d]] (.sl 4 G)):Pure prog 8 [.agg [iv 2,.sl 1 [iv a,iv b,iv c,iv d],.v (.bool bo),lim n,lim m]] (.tup [.sl 4 G,iv 0]):=by
 refine pI func8 rfl ntmps8 results8 call8 ?_;(focus (refine wkad w_t (w_2 c0 c1) w_t ?_;(repeat' first|exact w_t|apply w_l);all_goals intros));all_goals exact gL
theorem arGoal3 (a b c d:Int) (bo:Bool) (n m:List Nat) (G:List AV) (c0:Pure prog 22 [.agg [iv 3,.sl 1 [iv a,iv b,iv c,iv d],.v (.bool bo),lim n,lim m],iv 40] (iv 0)) (c1:Pure prog 25 [.sl 1 [iv a,iv b,iv c,iv d]] (.sl 4 G)):Pure prog 8 [.agg [iv 3,.sl 1 [iv a,iv b,iv c,iv d],.v (.bool bo),lim n,lim m]] (.tup [.sl 4 G,iv 0]):=by
 refine pI func8 rfl ntmps8 results8 call8 ?_;(focus (refine wkad w_t (w_2 c0 c1) w_t ?_;(repeat' first|exact w_t|apply w_l);all_goals intros));all_goals exact gL
theorem arGoal4 (a b c d:Int) (bo:Bool) (n m:List Nat) (bo1:Bool) (n1 m1:List Nat) (G:List AV) (c0:Pure prog 22 [.agg [iv 4,.sl 1 [iv a,iv b,iv c,iv d],.v (.bool bo),lim n,lim m],iv 40] (iv 0)) (c1:Pure prog 27 [iv 1] (.agg [.v (.bool bo1),lim n1,lim m1])) (c2:Pure prog 26 [.sl 1 [iv a,iv b,iv c,iv d],.agg [.v (.bool bo1),lim n1,lim m1]] (.sl 4 G)):Pure prog 8 [.agg [iv 4,.sl 1 [iv a,iv b,iv c,iv d],.v (.bool bo),lim n,lim m]] (.tup [.sl 4 G,iv 0]):=by
 refine pI func8 rfl ntmps8 results8 call8 ?_;(focus (refine wkad w_t (w_3 c0 c1 c2) w_t ?_;(repeat' first|exact w_t|apply w_l);all_goals intros));all_goals exact gL
theorem arGoal5 (a b c:Int) (bo:Bool) (n m:List Nat) (G:List AV) (c0:Pure prog 22 [.agg [iv 5,.sl 1 [iv a,iv b,iv c],.v (.bool bo),lim n,lim m],iv 40] (iv 0)) (c1:Pure prog 28 [iv a,iv b,iv c] (.sl 4 G)):Pure prog 8 [.agg [iv 5,.sl 1 [iv a,iv b,iv c],.v (.bool bo),lim n,lim m]] (.tup [.sl 4 G,iv 0]):=by
 refine pI func8 rfl ntmps8 results8 call8 ?_;(focus (refine wkad w_t (w_2 c0 c1) (w_1 (w_d 15 [(9,.sl 4 G)] [] [])) ?_;(repeat' first|exact w_t|apply w_l);all_goals intros));all_goals exact gL
theorem arGoal6 (a b c d:Int) (bo:Bool) (n m:List Nat) (V1 V2 V3 V4 G:List AV) (c0:Pure prog 22 [.agg [iv 6,.sl 1 [iv a,iv b,iv c,iv d],.v (.bool bo),lim n,lim m],iv 40] (iv 0)) (c1:Pure prog 23 [iv b,iv a,iv c] (.sl 4 V1)) (c2:Pure prog 30 [iv a,iv d,iv c] (.sl 4 V2)) (c3:Pure prog 23 [iv d,iv a,iv c] (.sl 4 V3)) (c4:Pure prog 30 [iv a,iv b,iv c] (.sl 4 V4)) (c5:Pure prog 29 [.sl 4 V1,.sl 4 V2,.sl 4 V3,.sl 4 V4] (.sl 4 G)):Pure prog 8 [.agg [iv 6,.sl 1 [iv a,iv b,iv c,iv d],.v (.bool bo),lim n,lim m]] (.tup [.sl 4 G,iv 0]):=by
 refine pI func8 rfl ntmps8 results8 call8 ?_;(focus (refine wkad w_t (w_6 c0 c1 c2 c3 c4 c5) (w_1 (w_d 17 [(9,.sl 4 V1),(19,.sl 4 V2),(29,.sl 4 V3),(39,.sl 4 V4),(40,.sl 4 G)] [] [])) ?_;(repeat' first|exact w_t|apply w_l);all_goals intros));all_goals exact gL
theorem arGoal7 (a b c d e f g h:Int) (bo:Bool) (n m:List Nat) (V1 V2 V3 V4 G:List AV) (c0:Pure prog 22 [.agg [iv 7,.sl 1 [iv a,iv b,iv c,iv d,iv e,iv f,iv g,iv h],.v (.bool bo),lim n,lim m],iv 40] (iv 0)) (c1:Pure prog 24 [.sl 1 [iv a,iv b,iv c,iv d]] (.sl 4 V1)) (c2:Pure prog 25 [.sl 1 [iv e,iv f,iv g,iv h]] (.sl 4 V2)) (c3:Pure prog 24 [.sl 1 [iv e,iv f,iv g,iv h]] (.sl 4 V3)) (c4:Pure prog 25 [.sl 1 [iv a,iv b,iv c,iv d]] (.sl 4 V4)) (c5:Pure prog 29 [.sl 4 V1,.sl 4 V2,.sl 4 V3,.sl 4 V4] (.sl 4 G)):Pure prog 8 [.agg [iv 7,.sl 1 [iv a,iv b,iv c,iv d,iv e,iv f,iv g,iv h],.v (.bool bo),lim n,lim m]] (.tup [.sl 4 G,iv 0]):=by
 refine pI func8 rfl ntmps8 results8 call8 ?_;(focus (refine wkad w_t (w_6 c0 c1 c2 c3 c4 c5) (w_1 (w_d 19 [(2,.sl 4 V1),(5,.sl 4 V2),(8,.sl 4 V3),(11,.sl 4 V4),(12,.sl 4 G)] [] [])) ?_;(repeat' first|exact w_t|apply w_l);all_goals intros));all_goals exact gL
theorem arGoal8 (a b:Int) (bo:Bool) (n m:List Nat) (G:List AV) (c0:Pure prog 22 [.agg [iv 8,.sl 1 [iv a,iv b],.v (.bool bo),lim n,lim m],iv 40] (iv 0)) (c1:Pure prog 30 [iv a,iv b,iv a] (.sl 4 G)):Pure prog 8 [.agg [iv 8,.sl 1 [iv a,iv b],.v (.bool bo),lim n,lim m]] (.tup [.sl 4 G,iv 0]):=by
 refine pI func8 rfl ntmps8 results8 call8 ?_;(focus (refine wkad w_t (w_2 c0 c1) (w_1 (w_d 21 [(9,.sl 4 G)] [] [])) ?_;(repeat' first|exact w_t|apply w_l);all_goals intros));all_goals exact gL
theorem arGoal9 (a b c d:Int) (bo:Bool) (n m:List Nat) (G:List AV) (c0:Pure prog 22 [.agg [iv 9,.sl 1 [iv a,iv b,iv c,iv d],.v (.bool bo),lim n,lim m],iv 40] (iv 0)) (c1:Pure prog 26 [.sl 1 [iv a,iv b,iv c,iv d],.agg [.v (.bool bo),lim n,lim m]] (.sl 4 G)):Pure prog 8 [.agg [iv 9,.sl 1 [iv a,iv b,iv c,iv d],.v (.bool bo),lim n,lim m]] (.tup [.sl 4 G,iv 0]):=by
 refine pI func8 rfl ntmps8 results8 call8 ?_;(focus (refine wkad w_t (w_2 c0 c1) w_t ?_;(repeat' first|exact w_t|apply w_l);all_goals intros));all_goals exact gL
theorem arGoalE (k:Int) (ar:List Int) (bo:Bool) (n m:List Nat) (e:Int) (he:e≠0) (c0:Pure prog 22 [.agg [iv k,ivs ar,.v (.bool bo),lim n,lim m],iv 40] (iv e)):Pure prog 8 [.agg [iv k,ivs ar,.v (.bool bo),lim n,lim m]] (.tup [.v (.slice none 0 0),iv e]):=by
 refine pI func8 rfl ntmps8 results8 call8 ?_;(focus (refine wkad (w_1 he) (w_1 c0) w_t ?_;(repeat' first|exact w_t|apply w_l);all_goals intros));all_goals exact gL
def goR (g:RG):AV:=if errG g 40=0 then .tup [qpA (goX g.k g.ar g.r.q),iv 0] else .tup [.v (.slice none 0 0),iv (errG g 40)]
theorem li2 {l:List Int} (h:l.length=2):∃a b,l=[a,b]:=match l,h with | [a,b],_=>⟨a,b,rfl⟩
theorem li3 {l:List Int} (h:l.length=3):∃a b c,l=[a,b,c]:=match l,h with | [a,b,c],_=>⟨a,b,c,rfl⟩
theorem li4 {l:List Int} (h:l.length=4):∃a b c d,l=[a,b,c,d]:=match l,h with | [a,b,c,d],_=>⟨a,b,c,d,rfl⟩
theorem li8 {l:List Int} (h:l.length=8):∃a b c d e f g i,l=[a,b,c,d,e,f,g,i]:=match l,h with | [a,b,c,d,e,f,g,i],_=>⟨a,b,c,d,e,f,g,i,rfl⟩
theorem go_ok {g:RG} (h:errG g 40=0):arG g.k≠0∧(g.ar.length:Int)=arG g.k∧(∀i,i < g.ar.length→pI40 (gI g.ar i))∧(g.k=9→g.r.ok=true):=by
 unfold errG at h;split at h
 ·cases h
 ·rename_i h1;split at h
  ·cases h
  ·rename_i h2;split at h
   ·cases h
   ·rename_i h3;split at h
    ·cases h
    ·rename_i h4;refine⟨h1,Classical.not_not.1 h2,λi hi=>Zrv (Bool.not_eq_true _ ▸ h3) hi,λh9=>?_⟩
     cases hr:g.r.ok with
     | true=>rfl
     | false=>exact absurd (Or.inl ⟨h9,hr⟩) h4
theorem goKinds {k:Int} (h:arG k≠0):k=1∨k=2∨k=3∨k=4∨k=5∨k=6∨k=7∨k=8∨k=9:=by
 unfold arG at h;split at h
 ·omega
 ·split at h
  ·omega
  ·split at h
   ·omega
   ·split at h
    ·omega
    ·exact absurd rfl h
theorem xl_ar {a b c:Int} (ha:pI40 a) (hb:pI40 b) (hc:pI40 c):XL (arX a b c) 1 1 1:=Zeb (Zdk (.inl rfl) ha hb hc)
theorem xl_py {a b c:Int} (ha:pI40 a) (hb:pI40 b) (hc:pI40 c):XL (pyX a b c) 1 1 1:=Zeb (Zdk (.inr rfl) ha hb hc)
theorem XL.u {p:QTs} (h:XL p 1 1 1):XL p 3 1 2:=h.mono zd zd zd
theorem xl_cr {a b c d:Int} (ha:pI40 a) (hb:pI40 b) (hc:pI40 c) (hd:pI40 d):XL (crX a b c d) 3 1 2:=(xl_ar ha hb hd).sub (xl_ar ha hb hc)
theorem xl_do {a b c d:Int} (ha:pI40 a) (hb:pI40 b) (hc:pI40 c) (hd:pI40 d):XL (doX a b c d) 3 1 2:=(xl_py hb ha hd).sub (xl_py hb ha hc)
theorem arGoal (g:RG) (hs:g.sm) (hr:g.r.lm 2):Pure prog 8 [g.av] (goR g):=by
 have c0:=Zyl g 40 zo hs;unfold goR;by_cases h:errG g 40=0
 ·rw [ZBv h];rw [h] at c0;obtain⟨hk,hl,hp,h9⟩:=go_ok h;clear h hs;obtain⟨k,ar,r⟩:=g;simp only at hk hl hp h9 hr ⊢;rcases goKinds hk with rfl | rfl | rfl | rfl | rfl | rfl | rfl | rfl | rfl
  ·obtain⟨a,b,c,rfl⟩:=li3 (show ar.length=3 from Int.ofNat.inj hl);exact arGoal1 a b c _ _ _ _ c0 (ZBe _ _ _ (Zdk (.inl rfl) (hp 0 zs) (hp 1 zs) (hp 2 zs)))
  ·obtain⟨a,b,c,d,rfl⟩:=li4 (show ar.length=4 from Int.ofNat.inj hl);exact arGoal2 a b c d _ _ _ _ c0 (Zs3 (hp 0 zs) (hp 1 zs) (hp 2 zs) (hp 3 zs))
  ·obtain⟨a,b,c,d,rfl⟩:=li4 (show ar.length=4 from Int.ofNat.inj hl);exact arGoal3 a b c d _ _ _ _ c0 (arDot (hp 0 zs) (hp 1 zs) (hp 2 zs) (hp 3 zs))
  ·obtain⟨a,b,c,d,rfl⟩:=li4 (show ar.length=4 from Int.ofNat.inj hl);exact arGoal4 a b c d _ _ _ _ _ _ _ c0 (Zmn (z:=1) (.inr (.inr rfl))) (arLen (hp 0 zs) (hp 1 zs) (hp 2 zs) (hp 3 zs) (Zjw.mono zd))
  ·obtain⟨a,b,c,rfl⟩:=li3 (show ar.length=3 from Int.ofNat.inj hl);exact arGoal5 a b c _ _ _ _ c0 (arMid (hp 0 zs) (hp 1 zs) (hp 2 zs))
  ·obtain⟨a,b,c,d,rfl⟩:=li4 (show ar.length=4 from Int.ofNat.inj hl);have ha:pI40 a:=hp 0 zs;have hb:pI40 b:=hp 1 zs;have hc:pI40 c:=hp 2 zs;have hd:pI40 d:=hp 3 zs;exact arGoal6 a b c d _ _ _ _ _ _ _ _ c0 (ZBe _ _ _ (Zdk (.inl rfl) hb ha hc)) (arPy _ _ _ (Zdk (.inr rfl) ha hd hc)) (ZBe _ _ _ (Zdk (.inl rfl) hd ha hc)) (arPy _ _ _ (Zdk (.inr rfl) ha hb hc)) (arXd (xl_ar hb ha hc).u (xl_py ha hd hc).u (xl_ar hd ha hc).u (xl_py ha hb hc).u)
  ·obtain⟨a,b,c,d,e,f,g,i,rfl⟩:=li8 (show ar.length=8 from Int.ofNat.inj hl);have ha:pI40 a:=hp 0 zs;have hb:pI40 b:=hp 1 zs;have hc:pI40 c:=hp 2 zs;have hd:pI40 d:=hp 3 zs;have he:pI40 e:=hp 4 zs;have hf:pI40 f:=hp 5 zs;have hg:pI40 g:=hp 6 zs;have hi:pI40 i:=hp 7 zs;exact arGoal7 a b c d e f g i _ _ _ _ _ _ _ _ c0 (Zs3 ha hb hc hd) (arDot he hf hg hi) (Zs3 he hf hg hi) (arDot ha hb hc hd) (arXd (xl_cr ha hb hc hd) (xl_do he hf hg hi) (xl_cr he hf hg hi) (xl_do ha hb hc hd))
  ·obtain⟨a,b,rfl⟩:=li2 (show ar.length=2 from Int.ofNat.inj hl);exact arGoal8 a b _ _ _ _ c0 (arPy _ _ _ (Zdk (.inr rfl) (hp 0 zs) (hp 1 zs) (hp 0 zs)))
  ·obtain⟨a,b,c,d,rfl⟩:=li4 (show ar.length=4 from Int.ofNat.inj hl);obtain⟨e,hz⟩:=RQ.ok_av hr (h9 rfl);have c1:=arLen (hp 0 zs) (hp 1 zs) (hp 2 zs) (hp 3 zs) hz;rw [←e] at c1;exact arGoal9 a b c d _ _ _ _ c0 c1
 ·rw [ZBu h];exact arGoalE _ _ _ _ _ _ h c0
end Go.Proofs.YtkefeinbjbeidaaGreatDoor
namespace Go.Proofs.YtkefeinbjbeidaaGreatDoor
open Go Go.RowKit Go.Pg Go.Pol Go.Proofs.Tryz
def adK:Nat→QTs→QTs→QTs
 | 0,_,_=>[]
 | _+1,[],q=>q
 | _+1,s :: p,[]=>s :: p
 | n+1,s :: p,t :: q =>
   if ordQ s.2 t.2 < 0 then s :: adK n p (t :: q)
   else if ordQ t.2 s.2 < 0 then t :: adK n (s :: p) q
   else if s.1+t.1=0 then adK n p q
   else (s.1+t.1,s.2) :: adK n p q
theorem ad_K:∀(n:Nat) (p q:QTs),p.length+q.length < n→Zbf p q=adK n p q
 | 0,_,_,h=>absurd h zo
 | n+1,[],q,_=>by unfold Zbf;rw [addP];rfl
 | n+1,s :: p,[],_=>by unfold Zbf;rw [addP];rfl
 | n+1,s :: p,t :: q,h=>by
   have h:p.length+1+(q.length+1) < n+1:=h;have e1:=ad_K n p (t :: q) (by show p.length+(q.length+1) < n;omega);have e2:=ad_K n (s :: p) q (by show p.length+1+q.length < n;omega);have e3:=ad_K n p q zo;unfold Zbf at *;rw [addP,e1,e2,e3];rfl
abbrev adX (p q:QTs):QTs:=adK (p.length+q.length+1) p q
theorem ad_X (p q:QTs):Zbf p q=adX p q:=ad_K _ p q (Nat.lt_succ_self _)
abbrev gatK (l:QTs):QTs:=Go.Pol.sumC ordQ l
theorem gat_K (l:QTs):gatM l=gatK l:=(Znf Zbo l).symm
abbrev muK (p q:QTs):QTs:=gatK (prodL muQ p q)
theorem mu_K (p q:QTs):mulX p q=muK p q:=gat_K _
def pwK (d:QTs):Nat→QTs
 | 0=>[((1:Rat),[])]
 | n+1=>muK (pwK d n) d
theorem pw_K (d:QTs):∀n,pwX d n=pwK d n
 | 0=>rfl
 | n+1=>by show mulX (pwX d n) d=muK (pwK d n) d;rw [pw_K d n,mu_K]
def rfK (P:Nat→QTs) (a d:QTs) (m:Nat):Nat→QTs
 | 0=>[]
 | k+1=>adX (rfK P a d m k) (muK (muK (P k) (pwK a k)) (pwK d (m - k)))
theorem rf_K (P:Nat→QTs) (a d:QTs) (m:Nat):∀n,rfX P a d m n=rfK P a d m n
 | 0=>rfl
 | n+1=>by
   show Zbf (rfX P a d m n) (mulX (mulX (P n) (pwX a n)) (pwX d (m - n)))=adX (rfK P a d m n) (muK (muK (P n) (pwK a n)) (pwK d (m - n)));rw [rf_K P a d m n,pw_K,pw_K,mu_K,mu_K,ad_X]
def rpK (q:Qt) (a num den:QTs):QTs:=rfK (λk=>gatK (woL q a k)) num den (moQ q a) (moQ q a+1)
theorem rp_K (q:Qt) (a num den:QTs):rpN q a num den=rpK q a num den:=by
 show rfX (λk=>gatM (woL q a k)) num den (moQ q a) (moQ q a+1)=_;rw [rf_K,show(λk=>gatM (woL q a k))=λk=>gatK (woL q a k) from funext λk=>gat_K _];rfl
def elSK (q:Qt) (b x:XX):XX:=(muK (rpK q x.1 b.1 b.2) (pwK b.2 (moQ q x.2 - moQ q x.1)),muK (rpK q x.2 b.1 b.2) (pwK b.2 (moQ q x.1 - moQ q x.2)))
theorem elS_K (q:Qt) (b x:XX):elS q b x=elSK q b x:=by
 unfold elS elSK;rw [rp_K,rp_K,pw_K,pw_K,mu_K,mu_K]
theorem ZAp {lem:Qt→Int × XX} {q:Qt} {l:List Qt} {x b y:XX} (h:lem q=(0,b)) (hs:elSK q b x=y) (h1:y.1.length≤4000) (h2:y.2.length≤4000):elF lem (q :: l) x=elF lem l y:=by
 have e:elS q (lem q).2 x=y:=by rw [h,elS_K];exact hs
 rw [elF_s (by rw [h]) (by rw [e];omega),e]
theorem mid_cG (a b t:Int):cbOf 2 [a,b] (1/2) t=some ⟨[a,b],[hlX,hlX],onX⟩:=by
 have e1:nX (1/2)=hlX:=by decide +kernel
 have e2:nX 1=onX:=by decide +kernel
 have e3:subX onX hlX=hlX:=add_C (exC (by decide +kernel)) (exC (by decide +kernel)) (by decide +kernel);show some (prC a b (nX (1/2)) (nX 1))=_;unfold prC;rw [e1,e2,e3]
def lmK (a b x:Int) (q:Qt):Int × XX :=
 if q.norm.2=0∨hasQ x q.norm.1=false then (0,(ofX q,onX))
 else (0,(sclT (q.norm.2:Rat) (adX (adX [] (muK hlX ((plOf q.norm.1 x).at a))) (muK hlX ((plOf q.norm.1 x).at b))),onX))
theorem lm_K (a b t x:Int) (q:Qt) (hm:(plOf q.norm.1 x).mid=false):lmX 2 [a,b] (1/2) t x q=lmK a b x q:=by
 unfold lmX lmK;by_cases h:q.norm.2=0∨hasQ x q.norm.1=false
 ·rw [ZBv h,ZBv h]
 ·rw [ZBu h,ZBu h,ZBu zd,mid_cG];simp only;rw [ZBu zs];unfold afN afD;rw [hm,ZBu zs,ZBu zs];show((0:Int),(sclT _ (Zbf (Zbf [] (mulX hlX ((plOf q.norm.1 x).at a))) (mulX hlX ((plOf q.norm.1 x).at b))),onX))=_;rw [mu_K,mu_K,ad_X,ad_X]
abbrev mlR:RQ:=⟨false,[1],[2]⟩
abbrev mlS:List RS:=[⟨1,⟨#[65]⟩,[],⟨false,[],[]⟩⟩,⟨1,⟨#[66]⟩,[],⟨false,[],[]⟩⟩,⟨1,⟨#[67]⟩,[],⟨false,[],[]⟩⟩,⟨2,⟨#[77]⟩,[1,2],mlR⟩,⟨2,⟨#[78]⟩,[0,2],mlR⟩]
abbrev mlGo:List RG:=[⟨2,[3,4,0,1],⟨false,[],[]⟩⟩]
theorem ml_e:∀i,i < mlS.length→errS mlS i=0:=by decide +kernel
theorem ml_r:∀s∈mlS,s.r.lm 2:=by
 intro s hs;have h:∀s∈mlS,(∀x∈s.r.l,x < 65536)∧(∀x∈s.r.d,x < 65536)∧s.r.l.length≤2∧s.r.d.length≤2:=by decide
 obtain⟨h1,h2,h3,h4⟩:=h s hs;exact⟨h1,h2,h3,h4⟩
abbrev sQ (a b c:Int):Qt:=⟨1,a,b,c⟩
abbrev ml0:QTs:=[((-1:Rat),[sQ 0 3 4]),((1:Rat),[sQ 1 3 4])]
abbrev ml1:QTs:=[((1/2:Rat),[sQ 0 2 3]),((1:Rat),[sQ 1 3 4])]
abbrev ml2:QTs:=[((1/2:Rat),[sQ 0 1 3]),((1/2:Rat),[sQ 0 2 3]),((-1/2:Rat),[sQ 1 2 3])]
abbrev ml3:QTs:=[((1/4:Rat),[sQ 0 1 2]),((1/2:Rat),[sQ 0 2 3]),((-1/2:Rat),[sQ 1 2 3])]
abbrev ml4:QTs:=[((-1/2:Rat),[sQ 1 2 3])]
theorem ml_goal:goX 2 [3,4,0,1] (RQ.q ⟨false,[],[]⟩)=ml0:=by
 show Zbf (ofX (sQ 3 4 1)) (sclT (-1) (ofX (sQ 3 4 0)))=_;rw [ad_X];decide +kernel
theorem ml_q:RQ.q mlR=(1/2:Rat):=by decide +kernel
theorem ml_L4 {q:Qt} {r:Int × XX} (hc:q.chk 5 64=0) (hm:(plOf q.norm.1 4).mid=false) (h:lmK 0 2 4 q=r):lemQ mlS 4 zd q=r:=by
 show(if q.chk 5 64=0 then lmS mlS 4 zd q else (q.chk 5 64,([],[])))=r;rw [ZBv hc,←h,←lm_K 0 2 0 4 q hm,←ml_q];rfl
theorem ml_L3 {q:Qt} {r:Int × XX} (hc:q.chk 5 64=0) (hm:(plOf q.norm.1 3).mid=false) (h:lmK 1 2 3 q=r):lemQ mlS 3 zd q=r:=by
 show(if q.chk 5 64=0 then lmS mlS 3 zd q else (q.chk 5 64,([],[])))=r;rw [ZBv hc,←h,←lm_K 1 2 0 3 q hm,←ml_q];rfl
theorem ml_z4:elT (elZ mlS 4 zd (ml0,onX))=(0,(ml2,onX)):=by
 have h:hvL ((4:Nat):Int) (flQ ml0++flQ onX)=[sQ 0 3 4,sQ 1 3 4]:=by decide +kernel
 show elT (elF _ (hvL ((4:Nat):Int) (flQ ml0++flQ onX)) (ml0,onX))=_;rw [h,ZAp (y:=(ml1,onX)) (ml_L4 (by decide +kernel) (by decide +kernel) rfl) (by decide +kernel) zd zd,ZAp (y:=(ml2,onX)) (ml_L4 (by decide +kernel) (by decide +kernel) rfl) (by decide +kernel) zd zd];decide +kernel
theorem ml_z3:elT (elZ mlS 3 zd (ml2,onX))=(0,([],onX)):=by
 have h:hvL ((3:Nat):Int) (flQ ml2++flQ onX)=[sQ 0 1 3,sQ 0 2 3,sQ 1 2 3]:=by decide +kernel
 show elT (elF _ (hvL ((3:Nat):Int) (flQ ml2++flQ onX)) (ml2,onX))=_;rw [h,ZAp (y:=(ml3,onX)) (ml_L3 (by decide +kernel) (by decide +kernel) rfl) (by decide +kernel) zd zd,ZAp (y:=(ml4,onX)) (ml_L3 (by decide +kernel) (by decide +kernel) rfl) (by decide +kernel) zd zd,ZAp (y:=([],onX)) (ml_L3 (by decide +kernel) (by decide +kernel) rfl) (by decide +kernel) zd zd];decide +kernel
theorem ml_a4:Ahead ((4:Nat):Int) (hvL ((4:Nat):Int) (flQ ml0++flQ onX)) (ml0,onX):=Ahead.beg (K:=1) (N:=1) (xbC _ _ (by decide +kernel)) ((Zov).mono zd zd) zd zd zd zd (by decide +kernel) (by decide +kernel)
theorem ml_x2:XB ml2 1 1:=by
 have h:(∀t∈ml2,t.1≠0∧(t.2.Pairwise λa b=>Qt.cmp a b≤0)∧(∀q∈t.2,q.norm=(q,1))∧t.2.length≤1∧t.1.den ∣ 2)∧(ml2.Pairwise λs t=>ordQ s.2 t.2 < 0)∧n1 ml2≤65535:=by decide +kernel
 exact⟨⟨λt ht=>⟨(h.1 t ht).1,(h.1 t ht).2.1,(h.1 t ht).2.2.1⟩,h.2.1⟩,λt ht=>(h.1 t ht).2.2.2.1,2,65535,by decide,by decide,by decide,⟨λt ht=>(h.1 t ht).2.2.2.2,h.2.2⟩⟩
theorem ml_a3:Ahead ((3:Nat):Int) (hvL ((3:Nat):Int) (flQ ml2++flQ onX)) (ml2,onX):=Ahead.beg (K:=1) (N:=1) ml_x2 ((Zov).mono zd zd) zd zd zd zd (by decide +kernel) (by decide +kernel)
end Go.Proofs.YtkefeinbjbeidaaGreatDoor
namespace Go.Proofs.YtkefeinbjbeidaaGreatDoor
open Go Go.RowKit Go.Pg Go.Pol Go.Proofs.Tryz
attribute [-bool_to_prop] Bool.and_eq_decide Bool.or_eq_decide Bool.decide_beq_decide decide_eq_decide
attribute [go_sem] szMQP zMQP
attribute [local go_sem] Zbu Zas Zaw Zav Za8 Zbx Zh6 Zkq Zbe Zbg Zce Zbs Zbt Zcy Zch Zcg Zcf Zcz Za9 Zo6 Zwt ivkBL Zgs Zju Zgm Zj7 Zip Zna
theorem exPoly0 (C V:List AV):Pure prog 58 [.sl 4 [],.agg [.sl 2 C,.sl 3 V]] (.tup [.v (.slice none 0 0),iv 0]):=by
 refine pI func58 rfl ntmps58 results58 call58 ?_;(focus (refine wkap w_t w_t (w_r 2) ?_;(repeat' first|exact w_t|apply w_l);all_goals intros));all_goals exact gL
theorem arProveV (M L A0 D0 A2 D2 C V R:List AV) (k:Int) (b:Bool) (l d:List Nat) (hR:R.length≤1000)
 (cg:Pure prog 8 [.agg [iv k,.sl 1 L,.v (.bool b),lim l,lim d]] (.tup [.sl 4 A0,iv 0]))
 (co:Pure prog 27 [iv 1] (.agg [.v (.bool false),lim [1],lim [1]])) (cc:Pure prog 55 [.agg [.v (.bool false),lim [1],lim [1]]] (.sl 4 D0))
 (cs:∀σ K,ACall prog 56 [.agg [.sl 6 M,.sl 5 [.agg [iv k,.sl 1 L,.v (.bool b),lim l,lim d]]],.agg [.sl 4 A0,.sl 4 D0],.ifc 101 (.agg [.sl 6 M,.sl 5 [.agg [iv k,.sl 1 L,.v (.bool b),lim l,lim d]]])] σ λr σ'=>∃sv,r=.tup [.own K sv,.agg [.sl 4 A2,.sl 4 D2],iv 0]∧σ'=upd σ K (some (.row sv 49 3 R 0)))
 (cf:Pure prog 57 [.agg [.sl 6 M,.sl 5 [.agg [iv k,.sl 1 L,.v (.bool b),lim l,lim d]]]] (.tup [.agg [.sl 2 C,.sl 3 V],iv 0]))
 (cp:Pure prog 58 [.sl 4 A2,.agg [.sl 2 C,.sl 3 V]] (.tup [.v (.slice none 0 0),iv 0])) :
 Pure prog 19 [.agg [.sl 6 M,.sl 5 [.agg [iv k,.sl 1 L,.v (.bool b),lim l,lim d]]],iv 0] (.tup [.sl 3 (R++[.agg [iv (-1),.v (.slice none 0 0),.sl 4 D0]]),iv 0]):=by
 refine pI func19 rfl ntmps19 results19 call19 ?_;(focus (refine wkap w_t (w_3 cg co cc) (w_r 0) ?_;(repeat' first|exact w_t|apply w_l);all_goals intros));refine Zg0 (cs _ 45) ?_;intro sv;(focus (refine wkap (w_1 hR) (w_2 cf cp) (w_r 0) ?_;(repeat' first|exact w_t|apply w_l);all_goals intros));all_goals exact gL
def mlF (n:Nat) (k:Nat) (c:UInt8):AV:=.agg [iv 1,strA (if n < k then ⟨#[c]⟩ else .empty),.v (.slice none 0 0),.v (.bool false),.v (.slice none 0 0),.v (.slice none 0 0)]
def mlD (n:Nat) (k:Nat) (c:UInt8) (a b:Int):AV:=.agg [iv 2,strA (if n < k then ⟨#[c]⟩ else .empty),.sl 1 [iv a,iv b],.v (.bool false),lim [1],lim [2]]
def mlL (k:Nat):List AV:=[mlF 0 k 65,mlF 1 k 66,mlF 2 k 67,mlD 3 k 77 1 2,mlD 4 k 78 0 2]
theorem lwMl:Pure prog 20 [] (figA mlS mlGo):=by
 have cF:Pure prog 59 [iv 1,iv 2] (.agg [.v (.bool false),lim [1],lim [2]]):=by
  have h:=qFrac 1 2 zo zo zo;rw [show mkRat ((1:Nat):Int) 2=(1/2:Rat) from by decide +kernel] at h
  rwa [show ratQ (1/2)=.agg [.v (.bool false),lim [1],lim [2]] from by
   show AV.agg [.v (.bool (decide ((1/2:Rat).num < 0))),lim (toL (1/2:Rat).num.natAbs),lim (toL (1/2:Rat).den)]=_;rw [show(1/2:Rat).num=1 from by decide +kernel,show(1/2:Rat).den=2 from by decide +kernel,show toL 2=[2] from by decide +kernel,show toL (Int.natAbs 1)=[1] from by decide +kernel];rfl] at h
 refine Zhk (r:=.agg [.sl 6 (mlL 5),.sl 5 [.agg [iv 2,.sl 1 [iv 3,iv 4,iv 0,iv 1],.v (.bool false),.v (.slice none 0 0),.v (.slice none 0 0)]]]) ?_ (Vk.aggL (.cons (Vk.slL rfl zd zd ?_) (.cons (Vk.slL rfl zd zd ?_) .nil)))
 ·refine pI func20 rfl ntmps20 results20 call20 ?_;(focus (refine wkad w_t (w_1 cF) w_t ?_;(repeat' first|exact w_t|apply w_l);all_goals intros));rename_i g0 g1 g2 s10 s13 s16 g3;refine Zad (ι:=Nat) (λi e m=>i≤5∧(e 3=.pbox 3 g3 0∧m 3=some (.box g3 42 [.own 16 s16,.v (.slice none 0 0)] false))∧(e 0=.pbox 0 g0 0∧m 0=some (.box g0 42 [.v (.slice none 0 0),.v (.slice none 0 0)] false))∧e 4=iv i∧m 16=some (.row s16 81 6 (mlL i) 0)) (λi=>5 - i) 0 zr ?_ ?_
  ·rintro i e m ⟨hi,⟨e3,m3⟩,⟨e0,m0'⟩,e4,m16⟩
   have h5:i=0∨i=1∨i=2∨i=3∨i=4∨i=5:=zo;rcases h5 with rfl | rfl | rfl | rfl | rfl | rfl
   ·simp [mlL,mlF,mlD] at m16;(focus (refine wkad (w_4 e3 m3 e4 m16) w_t (w_1 (w_d 7 [(5,.sl 1 [.v (.int .u8 65)])] [9] [])) ?_;(repeat' first|exact w_t|apply w_l);all_goals intros));exact⟨1,⟨zo,⟨gW e3,gW m3⟩,⟨gW e0,gW m0'⟩,gC,by simp [mlL,mlF,mlD];exact gW m16⟩,zo⟩
   ·simp [mlL,mlF,mlD] at m16;(focus (refine wkad (w_4 e3 m3 e4 m16) w_t (w_1 (w_d 7 [(5,.sl 1 [.v (.int .u8 66)])] [9] [])) ?_;(repeat' first|exact w_t|apply w_l);all_goals intros));exact⟨2,⟨zo,⟨gW e3,gW m3⟩,⟨gW e0,gW m0'⟩,gC,by simp [mlL,mlF,mlD];exact gW m16⟩,zo⟩
   ·simp [mlL,mlF,mlD] at m16;(focus (refine wkad (w_4 e3 m3 e4 m16) w_t (w_1 (w_d 7 [(5,.sl 1 [.v (.int .u8 67)])] [9] [])) ?_;(repeat' first|exact w_t|apply w_l);all_goals intros));exact⟨3,⟨zo,⟨gW e3,gW m3⟩,⟨gW e0,gW m0'⟩,gC,by simp [mlL,mlF,mlD];exact gW m16⟩,zo⟩
   ·simp [mlL,mlF,mlD] at m16;(focus (refine wkad (w_4 e3 m3 e4 m16) w_t (w_1 (w_d 7 [(5,.sl 1 [.v (.int .u8 77)])] [9] [])) ?_;(repeat' first|exact w_t|apply w_l);all_goals intros));exact⟨4,⟨zo,⟨gW e3,gW m3⟩,⟨gW e0,gW m0'⟩,gC,by simp [mlL,mlF,mlD];exact gW m16⟩,zo⟩
   ·simp [mlL,mlF,mlD] at m16;(focus (refine wkad (w_4 e3 m3 e4 m16) w_t (w_1 (w_d 7 [(5,.sl 1 [.v (.int .u8 78)])] [9] [])) ?_;(repeat' first|exact w_t|apply w_l);all_goals intros));exact⟨5,⟨zo,⟨gW e3,gW m3⟩,⟨gW e0,gW m0'⟩,gC,by simp [mlL,mlF,mlD];exact gW m16⟩,zo⟩
   ·simp [mlL,mlF,mlD] at m16;(focus (refine wkad (w_6 e3 m3 e0 m0' e4 m16) w_t w_t ?_;(repeat' first|exact w_t|apply w_l);all_goals intros));all_goals exact gM (w_3 e0 m0' m16)
  ·exact⟨zo,⟨gC,gC⟩,⟨gC,gC⟩,gC,by simp [mlL,mlF,mlD];exact gC⟩
 ·repeat first|exact .nil|refine .cons (.refl _) ?_|refine .cons (.nil 1) ?_
 ·repeat first|exact .nil|refine .cons (.refl _) ?_|refine .cons (.nil 1) ?_
theorem mlFig:figE mlS mlGo=0:=by decide +kernel
theorem mlOk:FigOk mlS:=by
 exact⟨by decide,ml_e,ml_r,by decide +kernel⟩
theorem mlBig:(List.range mlS.length).any (bigN mlS)=false:=by
 decide +kernel
theorem ml_k:∀i (h:i < mlS.length),mlS[i].k=1∨mlS[i].k=2:=by decide
theorem mlFrm:Pure prog 57 [figA mlS mlGo] (.tup [frmA (frN mlS mlS.length).cs (frN mlS mlS.length).vs,iv 0]):=by
 have sm:∀s∈mlS,s.sm:=λs hs=>by
  have h2:∀s∈mlS,s.nm.size≤1∧s.ar.length≤3:=by decide
  obtain⟨a,b⟩:=h2 s hs;exact⟨Zlo (ml_r s hs) zd,ZB1 a zd,ZB1 b zd⟩
 have sg:∀g∈mlGo,g.sm:=λg hg=>by
  rw [List.mem_singleton.1 hg];exact⟨⟨λx hx=>(by cases hx),λx hx=>(by cases hx),ZB5 _,ZB5 _⟩,by decide⟩
 have cr:=lwRight mlS mlGo zd zd sm sg;rw [mlFig] at cr;have:=coFrameG mlS mlGo cr mlOk λi h σ KB KC KV g svC svV cs vs fr hB hV hC a b c hl hf hok hco=>by
  rcases ml_k i h with k | k
  ·exact cbStep1 σ KB KC KV g svC svV cs vs fr i mlS[i] hB hV hC a b c hl hf k
  ·exact cbStep2 σ KB KC KV g svC svV cs vs fr i mlS[i] hB hV hC a b c hl hf hok hco k
 rwa [ZBu (by rw [mlBig];decide)] at this
abbrev mlP:Nat→Int
 | 0=>4
 | 1=>3
 | _=>-1
abbrev mlA:Nat→List AV
 | 0=>ml0.map qtA
 | 1=>ml2.map qtA
 | _=>[]
theorem ml_g:Pure prog 8 [.agg [iv 2,.sl 1 [iv 3,iv 4,iv 0,iv 1],.v (.bool false),lim [],lim []]] (.tup [.sl 4 (mlA 0),iv 0]):=by
 have c:=arGoal ⟨2,[3,4,0,1],⟨false,[],[]⟩⟩ ⟨⟨λx hx=>(by cases hx),λx hx=>(by cases hx),ZB5 _,ZB5 _⟩,by decide⟩ ⟨λx hx=>(by cases hx),λx hx=>(by cases hx),ZB5 _,ZB5 _⟩;unfold goR at c;rw [ZBv (by decide +kernel),ml_goal] at c;exact c
theorem Zwa:∀{p:QTs},p=ml0∨p=ml2∨p=[]→p.length≤1000000∧∀t∈p,t.2.length≤1000000:=by
 rintro p (rfl | rfl | rfl)<;>exact⟨by decide,by decide⟩
theorem ml_lst:∀i,i≤2→Pure prog 101 [.agg [.sl 6 (mlS.map RS.av),.sl 5 (mlGo.map RG.av)],.sl 4 (mlA i)] (iv (mlP i)):=by
 intro i hi;rcases (show i=0∨i=1∨i=2 by omega) with rfl | rfl | rfl
 ·have c:=ZBf mlS mlGo ml0 zd (Zwa (.inl rfl)).1 (Zwa (.inl rfl)).2
  rwa [show laF mlS ml0 mlS.length=4 from by decide +kernel] at c
 ·have c:=ZBf mlS mlGo ml2 zd (Zwa (.inr (.inl rfl))).1 (Zwa (.inr (.inl rfl))).2
  rwa [show laF mlS ml2 mlS.length=3 from by decide +kernel] at c
 ·have c:=ZBf mlS mlGo [] zd (Zwa (.inr (.inr rfl))).1 (Zwa (.inr (.inr rfl))).2
  rwa [show laF mlS [] mlS.length=-1 from by decide +kernel] at c
theorem ml_lem (i:Nat) (hi:i < mlS.length) (h2:mlS[i].k=2) (k a b c:Int):Pure prog 333 [figA mlS mlGo,iv i,.agg [iv k,iv a,iv b,iv c]] (lmA ⟨k,a,b,c⟩ mlS.length (lmS mlS i hi ⟨k,a,b,c⟩) (.v (.slice none 0 0))) :=
 elLemmaG mlS mlGo i hi zd (ml_e i hi) (ml_r _ (ZB7 _)) (elComb2 mlS mlGo i hi zd (ml_e i hi) (ml_r _ (ZB7 _)) h2) (λh4=>by rw [h2] at h4;exact absurd h4 zd) k a b c
theorem ml_el4:Pure prog 331 [.agg [.sl 6 (mlS.map RS.av),.sl 5 (mlGo.map RG.av)],iv 4,.agg [.sl 4 (ml0.map qtA),.sl 4 (onX.map qtA)]] (.tup [.agg [.sl 4 (ml2.map qtA),.sl 4 (onX.map qtA)],iv 0]):=by
 have c:=ZAq mlS mlGo 4 zd zd (ml_e 4 zd) (ml_r _ (ZB7 _)) (ml_lem 4 zd zd) (ml0,onX) zd zd zd zd zd ml_a4;rw [ml_z4] at c;unfold elR at c
 rwa [ZBv rfl,ZBu zd] at c
theorem ml_el3:Pure prog 331 [.agg [.sl 6 (mlS.map RS.av),.sl 5 (mlGo.map RG.av)],iv 3,.agg [.sl 4 (ml2.map qtA),.sl 4 (onX.map qtA)]] (.tup [.agg [.sl 4 [],.sl 4 (onX.map qtA)],iv 0]):=by
 have c:=ZAq mlS mlGo 3 zd zd (ml_e 3 zd) (ml_r _ (ZB7 _)) (ml_lem 3 zd zd) (ml2,onX) zd zd zd zd zd ml_a3;rw [ml_z3] at c;unfold elR at c;rw [ZBv rfl,ZBv rfl] at c;exact Zhk c (Vk.tupL (.cons (Vk.aggL (.cons (.nil 4) (.cons (.refl _) .nil))) (.cons (.refl _) .nil)))
theorem ml_stp (σ:Mem) (K:Nat):ACall prog 56 [.agg [.sl 6 (mlS.map RS.av),.sl 5 (mlGo.map RG.av)],.agg [.sl 4 (mlA 0),.sl 4 (onX.map qtA)],.ifc 101 (.agg [.sl 6 (mlS.map RS.av),.sl 5 (mlGo.map RG.av)])] σ λr σ'=>∃sv,r=.tup [.own K sv,.agg [.sl 4 [],.sl 4 (onX.map qtA)],iv 0]∧σ'=upd σ K (some (.row sv 49 3 (roS mlP mlA (λ_=>onX.map qtA) 2) 0)) :=
 arSteps σ K _ _ 2 zd mlP mlA (λ_=>onX.map qtA) (λi hi=>by rcases (show i=0∨i=1 by omega) with rfl | rfl<;>decide) zd ml_lst λi hi=>by
  rcases (show i=0∨i=1 by omega) with rfl | rfl
  ·exact arByL _ _ _ _ _ _ _ ml_el4
  ·exact arByL _ _ _ _ _ _ _ ml_el3
theorem ml_prv:Pure prog 19 [.agg [.sl 6 (mlS.map RS.av),.sl 5 (mlGo.map RG.av)],iv 0] (.tup [.sl 3 [.agg [iv 4,.sl 4 (ml2.map qtA),.sl 4 (onX.map qtA)],.agg [iv 3,.sl 4 [],.sl 4 (onX.map qtA)],.agg [iv (-1),.v (.slice none 0 0),.sl 4 (onX.map qtA)]],iv 0]):=by
 have co:Pure prog 27 [iv 1] (ratQ 1):=Zpg 1 zo;have cc:Pure prog 55 [ratQ 1] (qpA (nX 1)):=Zm1 (Zjw.mono zd);rw [nx1] at cc;rw [Znp] at co cc;exact arProveV _ _ _ _ _ _ _ _ (roS mlP mlA (λ_=>onX.map qtA) 2) 2 false [] [] (by rw [Zx1];decide) ml_g co cc ml_stp mlFrm (exPoly0 _ _)
theorem ml_nm:nmK mlS mlS.length=[⟨#[65]⟩,⟨#[66]⟩,⟨#[67]⟩,⟨#[77]⟩,⟨#[78]⟩]:=by decide +kernel
theorem on_ok:OkT onX 1:=λt ht=>by rw [List.mem_singleton.1 ht];exact⟨by decide,Zjw⟩
theorem ml_txt:Pure prog 13 [.agg [.sl 6 (mlS.map RS.av),.sl 5 (mlGo.map RG.av)],.sl 3 [.agg [iv (-1),.v (.slice none 0 0),.sl 4 (onX.map qtA)]]] (.tup [strA ⟨#[119,105,116,104,111,117,116,32,97,108,108,58,32,48,32,111,118,101,114,32,49,10]⟩,iv 0]):=by
 have hs:∀s∈nmK mlS mlS.length,s.size≤1000:=by rw [ml_nm];decide
 have hl:(nmK mlS mlS.length).length=5:=by rw [ml_nm];rfl
 have c:=arText mlS mlGo (nmK mlS mlS.length) [(-1,[],onX)] hl zd hs zd (Zzh mlS mlGo zd zd) λt ht=>by
  rw [List.mem_singleton.1 ht];exact⟨Zqi [] _ (by rw [hl];decide) hs zd (k:=1) zd (λt ht=>by cases ht),Zqi onX _ (by rw [hl];decide) hs zd (k:=1) zd on_ok,
   λh=>Zof hs zd (k:=1) zd (λt ht=>by cases ht) h,λh=>Zof hs zd (k:=1) zd on_ok h⟩
 rw [ml_nm,show atR [⟨#[65]⟩,⟨#[66]⟩,⟨#[67]⟩,⟨#[77]⟩,⟨#[78]⟩] [(-1,[],onX)]=.tup [strA ⟨#[119,105,116,104,111,117,116,32,97,108,108,58,32,48,32,111,118,101,114,32,49,10]⟩,iv 0] from by
  unfold atR;rw [ZBv (by decide +kernel)];exact ZDi (λs=>AV.tup [strA s,iv 0]) (by decide +kernel)] at c
 refine Zir c (.cons (.refl _) (.cons (Vk.slL rfl zd zd ?_) .nil))
 repeat first|exact .nil|refine .cons (.refl _) ?_|refine .cons (.nil 4) ?_
abbrev mdP:QTs:=[((1:Rat),[⟨2,0,1,0⟩]),((1:Rat),[⟨2,0,2,0⟩]),((2:Rat),[⟨2,1,0,2⟩])]
theorem ml_md:Pure prog 8 [.agg [iv 5,.sl 1 [iv 0,iv 1,iv 2],.v (.bool false),.v (.slice none 0 0),.v (.slice none 0 0)]] (.tup [.sl 4 (mdP.map qtA),iv 0]):=by
 have c:=arGoal ⟨5,[0,1,2],⟨false,[],[]⟩⟩ ⟨⟨λx hx=>(by cases hx),λx hx=>(by cases hx),ZB5 _,ZB5 _⟩,by decide⟩ ⟨λx hx=>(by cases hx),λx hx=>(by cases hx),ZB5 _,ZB5 _⟩;unfold goR at c;rw [ZBv (by decide +kernel),show goX 5 [0,1,2] (RQ.q ⟨false,[],[]⟩)=mdP from by
  show Zbf (Zbf (pyX 0 1 0) (pyX 0 2 0)) (mulX (cstT 2) (pyX 1 0 2))=_;rw [mu_K,ad_X,ad_X];decide +kernel] at c
 refine Zir c (.cons (Vk.aggL ?_) .nil)
 repeat first|exact .nil|refine .cons (.refl _) ?_|refine .cons (.nil 1) ?_
theorem ml_mt:Pure prog 21 [.sl 4 (mdP.map qtA),.sl 1 [strA ⟨#[77]⟩,strA ⟨#[65]⟩,strA ⟨#[66]⟩]] (.tup [strA ⟨#[80,40,77,44,32,65,44,32,77,41,32,43,32,80,40,77,44,32,66,44,32,77,41,32,43,32,50,42,80,40,65,44,32,77,44,32,66,41]⟩,iv 0]):=by
 have c:=Zqi mdP [⟨#[77]⟩,⟨#[65]⟩,⟨#[66]⟩] zd zd zd (k:=1) zo (λt ht=>by
  have h:∀t∈mdP,t.2.length≤1000∧(toL t.1.num.natAbs).length≤1∧(toL t.1.den).length≤1:=by decide +kernel
  obtain⟨a,b,d⟩:=h t ht;exact⟨a,b,d⟩)
 rw [ZBv (by decide +kernel),show eTxt [⟨#[77]⟩,⟨#[65]⟩,⟨#[66]⟩] mdP=⟨#[80,40,77,44,32,65,44,32,77,41,32,43,32,80,40,77,44,32,66,44,32,77,41,32,43,32,50,42,80,40,65,44,32,77,44,32,66,41]⟩from by decide +kernel] at c;exact c
theorem awake35V (M G A1 D1 A2 D2 D3 P:List AV) (cm:Pure prog 20 [] (.agg [.sl 6 M,.sl 5 G]))
 (cp:Pure prog 19 [.agg [.sl 6 M,.sl 5 G],iv 0] (.tup [.sl 3 [.agg [iv 4,.sl 4 A1,.sl 4 D1],.agg [iv 3,.sl 4 A2,.sl 4 D2],.agg [iv (-1),.v (.slice none 0 0),.sl 4 D3]],iv 0]))
 (ct:Pure prog 13 [.agg [.sl 6 M,.sl 5 G],.sl 3 [.agg [iv (-1),.v (.slice none 0 0),.sl 4 D3]]] (.tup [strA ⟨#[119,105,116,104,111,117,116,32,97,108,108,58,32,48,32,111,118,101,114,32,49,10]⟩,iv 0]))
 (cg:Pure prog 8 [.agg [iv 5,.sl 1 [iv 0,iv 1,iv 2],.v (.bool false),.v (.slice none 0 0),.v (.slice none 0 0)]] (.tup [.sl 4 P,iv 0]))
 (cx:Pure prog 21 [.sl 4 P,.sl 1 [strA ⟨#[77]⟩,strA ⟨#[65]⟩,strA ⟨#[66]⟩]] (.tup [strA ⟨#[80,40,77,44,32,65,44,32,77,41,32,43,32,80,40,77,44,32,66,44,32,77,41,32,43,32,50,42,80,40,65,44,32,77,44,32,66,41]⟩,iv 0])) :
 Pure prog 7 [] (.v (.bool true)):=by
 refine pI func7 rfl ntmps7 results7 call7 ?_;(focus (refine wkax w_t (w_3 cm cp ct) (w_1 (w_d 4 [(0,.agg [.sl 6 M,.sl 5 G]),(3,.tup [strA ⟨#[119,105,116,104,111,117,116,32,97,108,108,58,32,48,32,111,118,101,114,32,49,10]⟩,iv 0])] [] [])) (w_2 cg cx) w_t w_t w_y (w_r 0) ?_;(repeat' first|exact w_t|apply w_l);all_goals intros));all_goals exact gL
theorem awake35:Pure prog 7 [] (.v (.bool true)):=awake35V _ _ _ _ _ _ _ _ lwMl ml_prv ml_txt ml_md ml_mt
end Go.Proofs.YtkefeinbjbeidaaGreatDoor
