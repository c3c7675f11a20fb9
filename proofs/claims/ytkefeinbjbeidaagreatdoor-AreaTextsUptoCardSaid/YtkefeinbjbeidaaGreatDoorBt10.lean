/- Contracts of the functions that the law reaches, and the rules by which they are walked. They say what a call hands back for every input within the bounds that each names; no other condition. -/
import Derived.Test.YtkefeinbjbeidaaGreatDoorBt9
set_option linter.unusedSimpArgs false
set_option linter.unusedVariables false
set_option maxRecDepth 20000
set_option maxHeartbeats 16000000
namespace Go.Proofs.YtkefeinbjbeidaaGreatDoor
open Go Go.RowKit Go.Pg Go.Pol Go.Proofs.Tryz
attribute [-bool_to_prop] Bool.and_eq_decide Bool.or_eq_decide Bool.decide_beq_decide decide_eq_decide
attribute [local go_sem] Zas Zaw Zav Zah Zaq Zai Bool.and_self Zal Zba Za9 Zca Zcb Za8
theorem fst_of {α:Type} (F:α→Bool) (l:List α):∃n,n≤l.length∧(∀j (h:j < l.length),j < n→F l[j]=false)∧(∀h:n < l.length,F l[n]=true)∧l.any F=decide (n < l.length):=by
 induction l with
 | nil=>exact⟨0,by simp,by simp,by simp,by simp⟩
 | cons a l ih =>
   obtain⟨n,h1,h2,h3,h4⟩:=ih
   cases ha:F a with
   | true=>exact⟨0,by simp,λj h h'=>zo,λ_=>ha,by simp [ha]⟩
   | false =>
     refine⟨n+1,by simpa using h1,λj h h'=>?_,λh=>h3 (by simpa using h),by simp [ha,h4]⟩
     cases j with
     | zero=>exact ha
     | succ j=>exact h2 j (by simpa using h) zo
theorem Zt0 (q:Qt):q.pts.length≤40:=by
 unfold Qt.pts;split
 ·rw [ZB2];exact ZB1 (ZGm _ _) zs
 ·simp
theorem slIdxI (l:List Int) (x:Int) (hl:l.length≤1000000):∃z:Int,Pure prog 274 [ivs l,iv x] (iv z)∧decide (0≤z)=l.any λt=>decide (x=t):=by
 have hlm:(l.map iv).length=l.length:=ZB2 ..;have hg:∀i (h:i < l.length),(l.map iv).getD i .u=iv l[i]:=λi h=>Zam iv h;obtain⟨n,h1,h2,h3,h4⟩:=fst_of (λt:Int=>decide (x=t)) l;refine⟨if n < l.length then (n:Int) else -1,?_,?_⟩
 ·show Pure _ _ [.sl 1 (l.map iv),iv x] _;generalize l.map iv=L at *;refine pI func274 rfl ntmps274 results274 call274 ?_
  (refine wkap (w_1 hlm) w_t (w_r 0) (w_s ?_);intros)
  refine Zad (ι:=Nat) (λk e m=>k≤n∧e 0=.sl 1 L∧e 1=iv x∧e 7=iv l.length∧e 8=iv k) (λk=>n - k) 0 zr ?_ ?_
  ·rintro k e m ⟨hk,e0,e1,e7,e8⟩
   by_cases hlt:k < l.length
   ·have hgk:=hg k hlt;by_cases hkn:k < n
    ·have hb:=of_decide_eq_false (h2 k hlt hkn);generalize l[k]=a at *
     (refine wkap (w_7 e0 e1 e7 e8 hgk hlm hb) w_t (w_r 0) (w_s ?_);intros)
     exact⟨k+1,⟨zo,gW e0,gW e1,gW e7,gS⟩,zo⟩
    ·have hkn:k=n:=zo;subst hkn;have hb:=ZHc (h3 hlt);rw [ZBv hlt];rw [←hb] at hgk;clear hb
     (refine wkap (w_6 e0 e1 e7 e8 hgk hlm) w_t (w_r 0) (w_s ?_);intros)
     all_goals exact gL
   ·rw [ZBu zo]
    (refine wkap (w_5 e0 e1 e7 e8 hlm) w_t (w_r 0) (w_s ?_);intros)
    all_goals exact gL
  ·exact⟨ZB5 _,gC,gC,gW hlm,gC⟩
 ·rw [h4,ZCk,ZCs,ZCs];split<;>omega
theorem Zxn (l:List Int) (x:Int) (hl:l.length≤1000000):Pure prog 230 [ivs l,iv x] (.v (.bool (l.any λt=>decide (x=t)))):=by
 obtain⟨z,c,hz⟩:=slIdxI l x hl;rw [←hz];show Pure _ _ [.sl 1 (l.map iv),iv x] _;have c:Pure _ _ [.sl 1 (l.map iv),iv x] _:=c;generalize l.map iv=L at *;refine pI func230 rfl ntmps230 results230 call230 ?_
 (refine wkap w_t (w_1 c) (w_r 0) (w_s ?_);intros)
 all_goals exact gL
def hasQ (x:Int) (q:Qt):Bool:=q.pts.any λt=>decide (x=t)
def hasP (x:Int) (p:List Qt):Bool:=p.any (hasQ x)
def hasT (x:Int) (p:QTs):Bool:=p.any λt=>hasP x t.2
theorem Zu9 {α:Type} {f:α→Bool} {l:List α} {i:Nat} (h:i < l.length) (h1:(l.take i).any f=false) (h2:f l[i]=false):(l.take (i+1)).any f=false:=by
 rw [ZEe h,List.any_append,h1];simp [h2]
theorem ZBg {α:Type} {f:α→Bool} {l:List α} {i:Nat} (h:i < l.length) (h2:f l[i]=true):l.any f=true:=List.any_eq_true.2 ⟨_,ZB7 h,h2⟩
theorem exHas (p:QTs) (x:Int) (hl:p.length≤1000000) (hq:∀t∈p,t.2.length≤1000000):Pure prog 165 [.sl 4 (p.map qtA),iv x] (.v (.bool (hasT x p))):=by
 have hlm:(p.map qtA).length=p.length:=ZB2 ..;have hg:∀i (h:i < p.length),(p.map qtA).getD i .u=.agg [.v (.bool (decide (p[i].1.num < 0))),lim (toL p[i].1.num.natAbs),lim (toL p[i].1.den),.sl 4 (p[i].2.map Qt.av)]:=λi h=>Zam qtA h;have hq2:∀i (h:i < p.length),p[i].2.length≤1000000:=λi h=>hq _ (ZB7 h);generalize p.map qtA=P at *;refine pI func165 rfl ntmps165 results165 call165 ?_
 (refine wkap (w_1 hlm) w_t (w_r 0) (w_s ?_);intros)
 refine Zad (ι:=Nat) (λi e m=>i≤p.length∧(e 1=iv x∧e 9=.sl 4 P∧e 10=iv p.length∧e 11=iv i)∧(p.take i).any (λt=>hasP x t.2)=false) (λi=>p.length - i) 0 zr ?_ ?_
 ·rintro i e m ⟨hi,⟨e1,e9,e10,e11⟩,hc⟩
  by_cases hlt:i < p.length
  ·have hgi:=hg i hlt;have hqi:=hq2 i hlt;have hqm:(p[i].2.map Qt.av).length=p[i].2.length:=ZB2 ..;have hqe:∀b (h:b < p[i].2.length),(p[i].2.map Qt.av).getD b .u=.agg [iv p[i].2[b].k,iv p[i].2[b].a,iv p[i].2[b].b,iv p[i].2[b].c]:=λb h=>Zam Qt.av h;have hst:hasP x p[i].2=false→(p.take (i+1)).any (λt=>hasP x t.2)=false:=Zu9 hlt hc;have hht:hasP x p[i].2=true→hasT x p=true:=ZBg (f:=λt:Rat × List Qt=>hasP x t.2) hlt;generalize p[i].2=w at *;generalize w.map Qt.av=qs at *
   (refine wkap (w_7 e1 e9 e10 e11 hlm hgi hqm) w_t (w_r 0) (w_s ?_);intros)
   refine Zad (ι:=Nat) (λb e m=>b≤w.length∧(e 1=iv x∧e 9=.sl 4 P∧e 10=iv p.length∧e 11=iv i∧e 16=.sl 4 qs∧e 17=iv w.length∧e 18=iv b)∧(w.take b).any (hasQ x)=false) (λb=>w.length - b) 0 zr ?_ ?_
   ·rintro b e m ⟨hb,⟨e1,e9,e10,e11,e16,e17,e18⟩,hcb⟩
    by_cases hbl:b < w.length
    ·have hqb:=hqe b hbl;have cp:Pure prog 231 [.agg [iv w[b].k,iv w[b].a,iv w[b].b,iv w[b].c]] (ivs w[b].pts):=Zkf w[b].k w[b].a w[b].b w[b].c;have cc:=Zxn w[b].pts x (by have:=Zt0 w[b];omega);have hs2:hasQ x w[b]=false→(w.take (b+1)).any (hasQ x)=false:=Zu9 hbl hcb;have hh2:hasQ x w[b]=true→hasP x w=true:=ZBg (f:=hasQ x) hbl;have hqd:(w[b].pts.any λt=>decide (x=t))=hasQ x w[b]:=rfl;rw [hqd] at cc;generalize w[b].pts.map iv=pp at *
     cases hv:hasQ x w[b] with
     | true =>
       rw [hv] at cc;rw [hht (hh2 hv)];clear hs2 hh2 hst hht;generalize w[b]=y at *;obtain⟨y1,y2,y3,y4⟩:=y;simp only at *;generalize (Qt.pts ⟨y1,y2,y3,y4⟩)=pts at *
       (refine wkap (w_9 e1 e9 e10 e11 e16 e17 e18 hqm hqb) (w_2 cp cc) (w_r 0) (w_s ?_);intros)
       all_goals exact gL
     | false =>
       rw [hv] at cc;have hs3:=hs2 hv;clear hs2 hh2 hst hht;generalize w[b]=y at *;obtain⟨y1,y2,y3,y4⟩:=y;simp only at *;generalize (Qt.pts ⟨y1,y2,y3,y4⟩)=pts at *
       (refine wkap (w_9 e1 e9 e10 e11 e16 e17 e18 hqm hqb) (w_2 cp cc) (w_r 0) (w_s ?_);intros)
       exact⟨b+1,⟨zo,⟨gW e1,gW e9,gW e10,gW e11,gW e16,gW e17,gS⟩,hs3⟩,zo⟩
    ·have:b=w.length:=zo;subst this;rw [ZDg] at hcb;have hs3:=hst hcb
     (refine wkap (w_8 e1 e9 e10 e11 e16 e17 e18 hqm) w_t (w_r 0) (w_s ?_);intros)
     exact⟨i+1,⟨zo,⟨gW e1,gW e9,gW e10,gS⟩,hs3⟩,zo⟩
   ·exact⟨ZB5 _,⟨gW e1,gW e9,gW e10,gW e11,gC,gW hqm,gC⟩,rfl⟩
  ·have:i=p.length:=zo;subst this;rw [ZDg] at hc;rw [show hasT x p=false from hc]
   (refine wkap (w_5 e1 e9 e10 e11 hlm) w_t (w_r 0) (w_s ?_);intros)
   all_goals exact gL
 ·exact⟨ZB5 _,⟨gC,gC,gW hlm,gC⟩,rfl⟩
section
attribute [local go_sem] underlying3 underlying4 underlying161 underlying24 underlying26 underlying28 underlying91 underlying76 underlying78 underlying33 underlying34 sz3 by3 z3 szB zB Zas zRat Zaw zInt Zav zNat Zah Zaq Zai Bool.and_self Zal Zba zSlQ szQT byQT zQT Za9 zSlT szQP zQP underlying346 underlying47 szFr byFr zFr Zca Zcb zSQP underlying35 underlying65 underlying9 Za8 zStr underlying22
end
section
attribute [local go_sem] underlying3 underlying4 underlying161 underlying24 underlying26 underlying28 underlying91 underlying76 underlying78 underlying33 underlying34 sz3 by3 z3 szB zB Zas zRat Zaw zInt Zav zNat Zah Zaq Zai Bool.and_self Zal Zba zSlQ szQT byQT zQT Za9 zSlT szQP zQP underlying346 underlying47 szFr byFr zFr Zca Zcb zSQP underlying35 underlying65 underlying9 Za8 zStr underlying22
end
abbrev cQ (a:Rat):List AV:=[.v (.bool (decide (a.num < 0))),lim (toL a.num.natAbs),lim (toL a.den)]
def pV (ps:List PQ) (rs:List Rat) (t:Rat × List Qt):Nat→Rat
 | 0=>t.1
 | i+1=>pV ps rs t i*Qt.val (t.2.getD i Qt.zero) ps rs
def eV (ps:List PQ) (rs:List Rat) (l:QTs):Nat→Rat
 | 0=>0
 | i+1=>eV ps rs l i+pV ps rs (l.getD i (0,[])) (l.getD i (0,[])).2.length
def chQ (n m:Int):List Qt→Int
 | []=>0
 | q :: l=>if Qt.chk q n m=0 then chQ n m l else Qt.chk q n m
def chE (n m:Int):QTs→Int
 | []=>0
 | t :: l=>if chQ n m t.2=0 then chE n m l else chQ n m t.2
abbrev cQ0:List AV:=[.v (.bool false),.v (.slice none 0 0),.v (.slice none 0 0)]
section
attribute [local go_sem] underlying3 underlying4 underlying161 underlying24 underlying26 underlying28 underlying91 underlying76 underlying78 underlying33 underlying34 sz3 by3 z3 szB zB Zas zRat Zaw zInt Zav zNat Zah Zaq Zai Bool.and_self Zal Zba zSlQ szQT byQT zQT Za9 zSlT szQP zQP underlying346 underlying47 szFr byFr zFr Zca Zcb zSQP underlying35 underlying65 underlying9 Za8 zStr underlying87 underlying53 underlying85
end
end Go.Proofs.YtkefeinbjbeidaaGreatDoor
namespace Go.Proofs.YtkefeinbjbeidaaGreatDoor
section
open Go Go.RowKit Go.Pg Go.Pol
end
end Go.Proofs.YtkefeinbjbeidaaGreatDoor
namespace Go.Proofs.YtkefeinbjbeidaaGreatDoor
open Go Go.RowKit Go.Pg Go.Pol Go.Proofs.Tryz
attribute [-bool_to_prop] Bool.and_eq_decide Bool.or_eq_decide Bool.decide_beq_decide decide_eq_decide
attribute [local go_sem] Zas Zaw Zav Zah Zaq Zai Bool.and_self Zal Zba Za9 Zca Zcb Za8
theorem XB.neg {q:QTs} {k n:Nat} (h:XB q k n):XB (sclT (-1) q) k n:=by
 obtain⟨a,b,D,B,c,d,e,f⟩:=h;refine⟨⟨λt ht=>?_,List.pairwise_map.2 a.2⟩,λt ht=>?_,D,B,c,d,e,λt ht=>?_,?_⟩
 ·obtain⟨u,hu,rfl⟩:=List.mem_map.1 ht;refine⟨λh=>(a.1 u hu).1 ?_,(a.1 u hu).2⟩;have h:(-1:Rat)*u.1=0:=h;rw [Rat.neg_mul,ZFw] at h;have:=ZDi (λz:Rat=>-z) h
  simpa using this
 ·obtain⟨u,hu,rfl⟩:=List.mem_map.1 ht;exact b u hu
 ·obtain⟨u,hu,rfl⟩:=List.mem_map.1 ht;have:=f.1 u hu;show((-1:Rat)*u.1).den ∣ D;have e1:((-1:Rat)*u.1)=-u.1:=by rw [Rat.neg_mul,ZFw]
  rw [e1];exact this
 ·refine ZB1 (Nat.le_of_eq ?_) f.2;unfold n1 sclT;rw [List.map_map];congr 1;refine ZEg λu _=>?_;show cl ((-1:Rat)*u.1)=cl u.1;have e1:((-1:Rat)*u.1)=-u.1:=by rw [Rat.neg_mul,ZFw]
  rw [e1];unfold cl;rw [show(-u.1).num=-u.1.num from rfl,show(-u.1).den=u.1.den from rfl,ZG0]
def reP (p:QTs):List RE:=p.map λt=>⟨rawQ t.1,t.2⟩
theorem reP_av (p:QTs):(reP p).map RE.av=p.map qtA:=by unfold reP;rw [List.map_map];rfl
theorem sgP_ok {l:List Qt} (h:∀q∈l,q.norm=(q,1)):sgP l=1:=by
 have key:∀(l:List Qt) (s:Int),(∀q∈l,q.norm=(q,1))→l.foldl (λs q=>s*q.norm.2) s=s:=by
  intro l
  induction l with
  | nil=>intro s _;rfl
  | cons a l ih=>intro s h;rw [ZGt,h a (.head _),Int.mul_one];exact ih s λq hq=>h q (.tail _ hq)
 exact key l 1 h
theorem nsP_ok:∀{l:List Qt},(∀q∈l,q.norm=(q,1))→nsP l=l
 | [],_=>rfl
 | a :: l,h=>by
   show a.norm.1 :: nsP l=a :: l;rw [h a (.head _),nsP_ok λq hq=>h q (.tail _ hq)]
theorem putP_ok {l:List Qt} (h:okQ l):putP l=l:=by
 rw [←Zxk (by rw [sgP_ok h.2];decide),nsP_ok h.2];exact Zft qtO (Zb6 qtO.cp _) h.1 (Za2 _)
theorem reP_ok {p:QTs} (h:∀t∈p,okQ t.2):(reP p).all RE.ok=true:=by
 rw [ZEu];intro t ht;obtain⟨u,hu,rfl⟩:=List.mem_map.1 ht;show((rawQ u.1).ok && u.2.all Qt.ok)=true;rw [Zrl,ZDn,ZEu];exact λq hq=>Zr2 ((h u hu).2 q hq)
theorem reP_t:∀{p:QTs},(∀t∈p,okQ t.2)→(reP p).map RE.t=p
 | [],_=>rfl
 | u :: p,h=>by
   show RE.t ⟨rawQ u.1,u.2⟩ :: (reP p).map RE.t=u :: p;rw [reP_t λt ht=>h t (.tail _ ht)];show((rawQ u.1).q*(sgP u.2:Rat),putP u.2) :: p=u :: p;rw [Zx9,sgP_ok (h u (.head _)).2,putP_ok (h u (.head _)),show((1:Int):Rat)=1 from rfl,ZGc]
theorem nrm_re {p:QTs} (h:∀t∈p,okQ t.2):nrmR (reP p)=qpA (gatM p):=by rw [Zy3 (reP_ok h),reP_t h]
theorem reP_lm {p:QTs} {j n:Nat} (h:QK p j n):(∀t∈reP p,t.r.lm j)∧∀t∈reP p,t.q.length≤n:=by
 refine⟨λt ht=>?_,λt ht=>?_⟩<;>obtain⟨u,hu,rfl⟩:=List.mem_map.1 ht
 ·exact Zrm (h u hu).1
 ·exact(h u hu).2
theorem Zss (φ:List Qt→Rat) (s:Rat):∀p:QTs,evl φ (sclT s p)=s*evl φ p
 | []=>by show(0:Rat)=s*0;rw [ZGd]
 | t :: p=>by
   show s*t.1*φ t.2+evl φ (sclT s p)=s*(t.1*φ t.2+evl φ p);rw [Zss φ s p];grind
theorem EX.neg {p:QTs} (h:EX p):EX (sclT (-1) p):=by
 refine⟨λt ht=>?_,List.pairwise_map.2 h.2⟩;obtain⟨u,hu,rfl⟩:=List.mem_map.1 ht;refine⟨λh0=>(h.1 u hu).1 ?_,(h.1 u hu).2⟩;have h0:(-1:Rat)*u.1=0:=h0
 grind
theorem NB.nz {D B:Nat} {l:QTs} (h:NB D B l):NB D B (nzT l):=by
 refine⟨λt ht=>h.1 t (List.mem_filter.1 ht).1,ZB1 ?_ h.2⟩;clear h;unfold nzT
 induction l with
 | nil=>exact ZBw _
 | cons t l ih =>
   rw [Zbh];by_cases h0:t.1=0
   ·rw [ZFd (by simpa using h0)];omega
   ·rw [ZFe (by simpa using h0),Zbh];omega
theorem exNrmG (p:QTs) {D C a b n:Nat} (hN:NB D C p) (h0:D≠0) (hd:D < 65536 ^ a) (hb:C < 65536 ^ b) (ho:∀t∈p,okQ t.2) (hl:p.length≤1000000) (hq:∀t∈p,t.2.length≤n) (hn:n≤maxQ) (hj:a+b≤900000):Pure prog 100 [qpA p] (qpA (gatM p)):=by
 have hqk:=nb_qk hN h0 hd hb hq;have c:=exNormG (reP p) (J:=a+b) (JA:=a+b) (nQ:=n) (by show(List.map _ _).length≤_;rw [ZB2];exact hl) (reP_lm hqk).1 (reP_lm hqk).2 hn hj zo λi hi _=>by
  have e:((reP p).take i).map RE.t=p.take i:=by
   have e1:(reP p).take i=reP (p.take i):=by unfold reP;rw [List.map_take]
   rw [e1,reP_t λt ht=>ho t (ZDc ht)]
  rw [e];have hmem:∀t∈nzT (p.take i),t∈p:=λt ht=>ZDc (List.mem_filter.1 ht).1;have hnb:=acc_nb (nzT (p.take i)) [] (NB.nil D 0) (NB.nz (hN.take i));rw [ZCl] at hnb;refine⟨nb_qk hnb h0 hd hb ?_,?_,?_⟩
  ·exact Zjp (P:=λx=>x.length≤n) _ [] (λt ht=>by cases ht) λt ht=>hq t (hmem t ht)
  ·exact Zjp (P:=λx=>∀q∈x,q.b8) _ [] (λt ht=>by cases ht) λt ht=>(ho t (hmem t ht)).b8
  ·have h1:=ZBp (nzT (p.take i)) [];have h2:=Zr0 (p.take i);rw [ZCh] at h2;rw [ZCq] at h1;exact ZB1 h1 zo
 rwa [reP_av,nrm_re ho] at c
end Go.Proofs.YtkefeinbjbeidaaGreatDoor
namespace Go.Proofs.YtkefeinbjbeidaaGreatDoor
open Go Go.RowKit Go.Pg Go.Pol Go.Proofs.Tryz
def tmQ (q:Qt) (l:List Qt):Nat:=(l.filter λx=>decide (x=q)).length
def woQ (q:Qt) (l:List Qt):List Qt:=l.filter λx=>decide (x≠q)
def woL (q:Qt) (a:QTs) (k:Nat):QTs:=(a.filter λt=>decide (tmQ q t.2=k)).map λt=>(t.1,woQ q t.2)
def moQ (q:Qt) (a:QTs):Nat:=a.foldl (λn t=>max n (tmQ q t.2)) 0
theorem Zw4 (q:Qt):∀l:List Qt,tmQ q l+(woQ q l).length=l.length
 | []=>rfl
 | a :: l=>by
   have ih:=Zw4 q l;unfold tmQ woQ at *;by_cases h:a=q
   ·rw [ZFe (by simpa using h),ZFd (by simpa using h),ZCd,ZCd];omega
   ·rw [ZFd (by simpa using h),ZFe (by simpa using h),ZCd,ZCd];omega
theorem tm_le (q:Qt) (l:List Qt):tmQ q l≤l.length:=by have:=Zw4 q l;omega
theorem Zzc (q:Qt) (a:QTs) (t:Rat × List Qt):moQ q (a++[t])=max (moQ q a) (tmQ q t.2):=by unfold moQ;rw [ZGe];rfl
theorem mo_le {q:Qt} {n:Nat} {a:QTs} (h:∀t∈a,t.2.length≤n):moQ q a≤n:=by
 have key:∀(a:QTs) (s:Nat),s≤n→(∀t∈a,t.2.length≤n)→a.foldl (λn t=>max n (tmQ q t.2)) s≤n:=by
  intro a
  induction a with
  | nil=>exact λs hs _=>hs
  | cons t a ih=>exact λs hs h=>ih _ (by show max s (tmQ q t.2)≤n;have:=tm_le q t.2;have:=h t (.head _);omega) λu hu=>h u (.tail _ hu)
 exact key a 0 (ZB5 _) h
theorem wo_snoc (q:Qt) (a:QTs) (t:Rat × List Qt) (k:Nat):woL q (a++[t]) k=if tmQ q t.2=k then woL q a k++[(t.1,woQ q t.2)] else woL q a k:=by
 unfold woL;rw [ZEz,ZCp];split
 ·rename_i h;rw [ZFe (by simpa using h)];rfl
 ·rename_i h;rw [ZFd (by simpa using h)];simp
theorem wo_above {q:Qt}:∀{a:QTs} {k:Nat},moQ q a < k→woL q a k=[]:=by
 intro a k h
 have key:∀(a:QTs) (s:Nat),a.foldl (λn t=>max n (tmQ q t.2)) s < k→s < k∧a.filter (λt=>decide (tmQ q t.2=k))=[]:=by
  intro a
  induction a with
  | nil=>exact λs hs=>⟨hs,rfl⟩
  | cons t a ih =>
    intro s hs;obtain⟨h1,h2⟩:=ih _ hs;have h1:max s (tmQ q t.2) < k:=h1;refine⟨zo,?_⟩;rw [ZFd (by simp;omega)];exact h2
 unfold woL;rw [(key a 0 h).2];rfl
theorem Zwv (q:Qt) (a:QTs) (k:Nat):(woL q a k).length≤a.length:=by unfold woL;rw [ZB2];exact ZGm _ _
theorem okQ.wo {l:List Qt} (h:okQ l) (q:Qt):okQ (woQ q l):=⟨h.1.filter _,λx hx=>h.2 x (List.mem_filter.1 hx).1⟩
theorem Zj0 {q:Qt} {a:QTs} {k:Nat} {u:Rat × List Qt} (h:u∈woL q a k):∃t∈a,u=(t.1,woQ q t.2):=by
 obtain⟨t,ht,rfl⟩:=List.mem_map.1 h;exact⟨t,(List.mem_filter.1 ht).1,rfl⟩
theorem Zs8 {a:QTs} (h:∀t∈a,okQ t.2) (q:Qt) (k:Nat):∀t∈woL q a k,okQ t.2:=λu hu=>by
 obtain⟨t,ht,rfl⟩:=Zj0 hu;exact(h t ht).wo q
theorem Zqx {a:QTs} {n:Nat} (h:∀t∈a,t.2.length≤n) (q:Qt) (k:Nat):∀t∈woL q a k,t.2.length≤n:=λu hu=>by
 obtain⟨t,ht,rfl⟩:=Zj0 hu;exact ZB1 (by have:=Zw4 q t.2;show(woQ q t.2).length≤_;omega) (h t ht)
theorem n1_wo (q:Qt) (k:Nat):∀a:QTs,n1 (woL q a k)≤n1 a
 | []=>ZBw _
 | t :: a=>by
   have ih:=n1_wo q k a;unfold woL at *;by_cases h:tmQ q t.2=k
   ·rw [ZFe (by simpa using h),ZC1,Zbh,Zbh];exact Nat.add_le_add_left ih _
   ·rw [ZFd (by simpa using h),Zbh];omega
abbrev paQ (q:Qt) (a:QTs) (k:Nat):QTs:=gatM (woL q a k)
theorem XB.part {a:QTs} {k n:Nat} (h:XB a k n) (q:Qt) (i:Nat):XB (paQ q a i) k n:=by
 obtain⟨a1,b,D,B,c,d,e,f⟩:=h;refine⟨Zgt Zbo (Zs8 a1.dom q i),Zkl (Zqx b q i),D,B,c,d,e,NB.sumG ⟨λt ht=>?_,ZB1 (n1_wo q i a) f.2⟩⟩;obtain⟨u,hu,rfl⟩:=Zj0 ht;exact f.1 u hu
theorem gat_len (l:QTs):(gatM l).length≤l.length:=by
 obtain⟨j,hj⟩:∃j,QK l j ((l.map λt=>t.2.length).sum):=by
  induction l with
  | nil=>exact⟨0,λt ht=>by cases ht⟩
  | cons a l ih =>
    obtain⟨j,hj⟩:=ih;refine⟨max j (max (toL a.1.num.natAbs).length (toL a.1.den).length),λt ht=>?_⟩;rw [ZC1,List.sum_cons];rcases List.mem_cons.1 ht with rfl | ht
    ·exact⟨⟨zo,zo⟩,zo⟩
    ·exact⟨(hj t ht).1.mono zo,by have:=(hj t ht).2;omega⟩
 exact(Zz6 _ l rfl hj).2
theorem pa_len (q:Qt) (a:QTs) (k:Nat):(paQ q a k).length≤a.length:=ZB1 (gat_len _) (Zwv q a k)
abbrev pwX (d:QTs) (i:Nat):QTs:=pwG ordQ muQ [] d i
abbrev hnX (P:Nat→QTs) (a d:QTs) (m i:Nat):QTs:=hnG ordQ muQ [] P a d m i
abbrev rfX (P:Nat→QTs) (a d:QTs) (m i:Nat):QTs:=rfG ordQ muQ [] P a d m i
theorem Zov:XB [((1:Rat),[])] 1 0:=xbC _ _ (by decide +kernel)
theorem Zow:XB [] 1 0:=xbC _ _ (by decide +kernel)
theorem XB.pw {d:QTs} {k n:Nat} (h:XB d k n):∀i,XB (pwX d i) (1+i*k) (i*n)
 | 0=>by rw [ZEp,ZEp];exact Zov
 | i+1=>(XB.mul (h.pw i) h).mono (by rw [ZDt];omega) (by rw [ZDt];omega)
theorem Zpi {d:QTs} {L:Nat} (h:d.length≤L):∀i,(pwX d i).length≤L ^ i
 | 0=>ZBw _
 | i+1=>ZB1 (Zd3 _ _) (by rw [ZC5];exact ZC7 (Zpi h i) h)
section
variable {P:Nat→QTs} {a d:QTs} {kp kb np nb LP L:Nat}
theorem XB.hn (hP:∀k,XB (P k) kp np) (ha:XB a kb nb) (hd:XB d kb nb) (m:Nat):∀i,XB (hnX P a d m i) (1+i*(kp+kb+2+i*kb)) (np+i*nb)
 | 0=>Zow.mono zo (ZB5 _)
 | i+1=>by
   have h1:=((XB.hn hP ha hd m i).mul ha).add ((hP (m - i)).mul (hd.pw i));refine XB.mono h1 ?_ ?_
   ·have e:(i+1)*(kp+kb+2+(i+1)*kb)=i*(kp+kb+2+i*kb)+i*kb+(kp+kb+2+(i*kb+kb)):=by grind
    rw [e];omega
   ·rw [ZDt];exact Nat.max_le.2 ⟨zo,zo⟩
theorem hn_len (hP:∀k,(P k).length≤LP) (ha:a.length≤L) (hd:d.length≤L) (hL:1≤L) (m:Nat):∀i,(hnX P a d m i).length≤i*LP*L ^ i
 | 0=>ZB5 _
 | i+1=>by
   refine ZB1 (Ze0 _ _) ?_;have h1:=ZB1 (Zd3 (hnX P a d m i) a) (ZC7 (hn_len hP ha hd hL m i) ha);have h2:=ZB1 (Zd3 (P (m - i)) (pwX d i)) (ZC7 (hP _) (Zpi hd i));have h3:LP*L ^ i≤LP*L ^ i*L:=ZE2 _ hL;refine ZB1 (ZC8 h1 h2) ?_;have e:(i+1)*LP*L ^ (i+1)=i*LP*L ^ i*L+LP*L ^ i*L:=by rw [ZC5];grind
   rw [e];omega
theorem XB.rf (hP:∀k,XB (P k) kp np) (ha:XB a kb nb) (hd:XB d kb nb) (m:Nat):∀i,i≤m+1→XB (rfX P a d m i) (1+i*(kp+3+m*kb)) (np+m*nb)
 | 0,_=>Zow.mono zo (ZB5 _)
 | i+1,hi=>by
   have h1:=(XB.rf hP ha hd m i zo).add (((hP i).mul (ha.pw i)).mul (hd.pw (m - i)));have e1:i*kb+(m - i)*kb=m*kb:=by rw [←ZCo];congr 1;omega
   have e2:i*nb+(m - i)*nb=m*nb:=by rw [←ZCo];congr 1;omega
   refine XB.mono h1 ?_ ?_
   ·rw [ZDt];omega
   ·exact Nat.max_le.2 ⟨zo,zo⟩
theorem rf_len (hP:∀k,(P k).length≤LP) (ha:a.length≤L) (hd:d.length≤L) (m:Nat):∀i,i≤m+1→(rfX P a d m i).length≤i*(LP*L ^ m)
 | 0,_=>ZB5 _
 | i+1,hi=>by
   refine ZB1 (Ze0 _ _) ?_;have h1:=rf_len hP ha hd m i zo;have h2:=ZB1 (Zd3 (P i) (pwX a i)) (ZC7 (hP _) (Zpi ha i));have h3:=ZB1 (Zd3 (mulX (P i) (pwX a i)) (pwX d (m - i))) (ZC7 h2 (Zpi hd (m - i)));have e:LP*L ^ i*L ^ (m - i)=LP*L ^ m:=by rw [ZC6,←ZDb];congr 2;omega
   rw [e] at h3;rw [ZDt];exact ZC8 h1 h3
end
abbrev rpN (q:Qt) (a num den:QTs):QTs:=rfX (paQ q a) num den (moQ q a) (moQ q a+1)
abbrev rpD (q:Qt) (a den:QTs):QTs:=pwX den (moQ q a)
theorem Zxz (q:Qt) {a num den:QTs} (ha:EX a) (hn:EX num) (hd:EX den):hnX (paQ q a) num den (moQ q a) (moQ q a+1)=rpN q a num den :=
 horner rgQ (λk=>Zgt Zbo (Zs8 ha.dom q k)) hn hd _
theorem Zk2 (p:QTs):sclT 1 p=p:=Ztl p
theorem mul_neg {p:QTs} (h:EX p):mulX [((-1:Rat),[])] p=sclT (-1) p :=
 Zig (D:=okQ) Zbo (Zbi rgQ ⟨λt ht=>by rw [List.mem_singleton.1 ht];exact⟨by decide +kernel,rgQ.de⟩,ZGn _ _⟩ h) h.neg λφ=>by
  rw [Zfs Zbo,Zss];show(-1:Rat)*evl (λk=>φ (muQ [] k)) p+0=_;rw [ZD5];congr 1
  have key:∀p:QTs,(∀t∈p,okQ t.2)→evl (λk=>φ (muQ [] k)) p=evl φ p:=by
   intro p
   induction p with
   | nil=>intro _;rfl
   | cons t p ih =>
     intro h;show t.1*φ (muQ [] t.2)+_=t.1*φ t.2+_;rw [ih λu hu=>h u (.tail _ hu),rgQ.comm,rgQ.one _ (h t (.head _))]
  exact key p h.dom
structure XN (p:QTs) (D B n:Nat):Prop where
 ex:EX p
 q:∀t∈p,t.2.length≤n
 nb:NB D B p
theorem XN.mono {p:QTs} {D B n E C m:Nat} (h:XN p D B n) (hd:D ∣ E) (hb:B≤C) (hn:n≤m):XN p E C m:=⟨h.ex,λt ht=>ZB1 (h.q t ht) hn,h.nb.mono hd hb⟩
theorem XN.mul {p q:QTs} {D B n E C m:Nat} (h:XN p D B n) (g:XN q E C m):XN (mulX p q) (D*E) (B*C) (n+m) :=
 ⟨Zbi rgQ h.ex g.ex,Zkl (Zle h.q g.q),(h.nb.prodL g.nb).sumG⟩
theorem XN.add {p q:QTs} {D B n C m:Nat} (h:XN p D B n) (g:XN q D C m):XN (Zbf p q) D (B+C) (max n m):=by
 refine⟨Zgl Zbo h.ex g.ex,λt ht=>?_,h.nb.addP g.nb⟩;rcases Zg1 ht with h1 | h1 | ⟨s,hs,u,hu,rfl⟩
 ·have:=h.q t h1;omega
 ·have:=g.q t h1;omega
 ·have:=h.q s hs;show s.2.length≤_;omega
theorem XN.xb {p:QTs} {D B n k:Nat} (h:XN p D B n) (h0:D≠0) (hd:D < 65536 ^ k) (hb:B < 65536 ^ k):XB p k n:=⟨h.ex,h.q,D,B,h0,hd,hb,h.nb⟩
theorem XN.nil (D:Nat):XN [] D 0 0:=⟨Zow.1,λt ht=>(by cases ht),NB.nil D 0⟩
theorem XN.one:XN [((1:Rat),[])] 1 1 0:=⟨Zov.1,λt ht=>by rw [List.mem_singleton.1 ht];exact ZBw _,λt ht=>by rw [List.mem_singleton.1 ht];decide +kernel,by decide +kernel⟩
theorem XN.pw {d:QTs} {E C n:Nat} (h:XN d E C n):∀i,XN (pwX d i) (E ^ i) (C ^ i) (i*n)
 | 0=>by rw [ZFq,ZFq,ZEp];exact XN.one
 | i+1=>by rw [ZC5,ZC5,ZDt];exact(h.pw i).mul h
theorem XN.part {a:QTs} {D B n:Nat} (h:XN a D B n) (q:Qt) (k:Nat):XN (paQ q a k) D B n :=
 ⟨Zgt Zbo (Zs8 h.ex.dom q k),Zkl (Zqx h.q q k),NB.sumG ⟨λt ht=>by obtain⟨u,hu,rfl⟩:=Zj0 ht;exact h.nb.1 u hu,ZB1 (n1_wo q k a) h.nb.2⟩⟩
section
variable {P:Nat→QTs} {a d:QTs} {D B E C np nb:Nat}
theorem XN.hn (hP:∀k,XN (P k) D B np) (ha:XN a E C nb) (hd:XN d E C nb) (hC:1≤C) (m:Nat):∀i,XN (hnX P a d m i) (D*E ^ i) (i*(B*C ^ i)) (np+i*nb)
 | 0=>by rw [ZEp,ZEp];exact(XN.nil _).mono (ZD6 _) (ZBw _) (ZB5 _)
 | i+1=>by
   have h1:=(XN.hn hP ha hd hC m i).mul ha;have h2:=(hP (m - i)).mul (hd.pw i);have e1:D*E ^ (i+1)=D*E ^ i*E:=by rw [ZC5,ZC6]
   have e2:(i+1)*(B*C ^ (i+1))=i*(B*C ^ i)*C+B*C ^ i*C:=by rw [ZC5];grind
   have h3:=XN.add h1 (h2.mono (E:=D*E ^ i*E) (ZFv _ _) (ZBw _) (ZBw _));rw [e1,e2];exact h3.mono (ZD6 _) (Nat.add_le_add_left (ZE2 _ hC) _) (by rw [ZDt];exact Nat.max_le.2 ⟨zo,zo⟩)
theorem XN.rf (hP:∀k,XN (P k) D B np) (ha:XN a E C nb) (hd:XN d E C nb) (m:Nat):∀i,i≤m+1→XN (rfX P a d m i) (D*E ^ m) (i*(B*C ^ m)) (np+m*nb)
 | 0,_=>by rw [ZEp];exact(XN.nil _).mono (ZD6 _) (ZBw _) (ZB5 _)
 | i+1,hi=>by
   have h1:=XN.rf hP ha hd m i zo;have h2:=((hP i).mul (ha.pw i)).mul (hd.pw (m - i));have e1:D*E ^ i*E ^ (m - i)=D*E ^ m:=by rw [ZC6,←ZDb];congr 2;omega
   have e2:B*C ^ i*C ^ (m - i)=B*C ^ m:=by rw [ZC6,←ZDb];congr 2;omega
   have e3:np+i*nb+(m - i)*nb=np+m*nb:=by rw [ZGs,←ZCo];congr 2;omega
   rw [e1,e2,e3] at h2;have h3:=h1.add h2;rw [ZDt];exact h3.mono (ZD6 _) (ZBw _) zo
end
theorem two_xn {a d:QTs} {k n:Nat} (ha:XB a k n) (hd:XB d k n):∃E C,E≠0∧1≤C∧E < 65536 ^ (2*k)∧C < 65536 ^ k∧XN a E C n∧XN d E C n:=by
 obtain⟨a1,b1,D1,B1,c1,d1,e1,f1⟩:=ha;obtain⟨a2,b2,D2,B2,c2,d2,e2,f2⟩:=hd;have hk:k≠0:=λh=>by rw [h,ZFq] at d1;omega
 have hp:65536≤65536 ^ k:=Nat.le_self_pow hk _;refine⟨D1*D2,max 1 (max B1 B2),ZE3 c1 c2,zo,?_,zo,⟨a1,b1,f1.mono (ZFv ..) zo⟩,⟨a2,b2,f2.mono (ZHl ..) zo⟩⟩;rw [Nat.two_mul,ZDb];exact ZGb d1 d2
theorem Zym {E k:Nat} (h:E < 65536 ^ k) (i:Nat):E ^ i≤65536 ^ (i*k):=by
 rw [ZCy,Nat.pow_mul];exact ZHb (Nat.le_of_lt h) i
theorem Zzi {B C k j i m:Nat} (hB:B < 65536 ^ k) (hC:C < 65536 ^ j) (hi:i≤65536):i*(B*C ^ m) < 65536 ^ (k+1+m*(2*j)):=by
 have h1:C ^ m≤65536 ^ (m*(2*j)):=ZB1 (Zym hC m) (ZDk zd (ZD0 _ zo));have h0:0 < 65536 ^ (m*(2*j)):=ZF4 zd;have h2:B*C ^ m < 65536 ^ k*65536 ^ (m*(2*j)):=ZGl (ZD0 _ h1) (ZGz hB h0);have e:65536 ^ (k+1+m*(2*j))=65536*(65536 ^ k*65536 ^ (m*(2*j))):=by rw [ZDb,ZC5];grind
 rw [e];rcases ZC3 i with rfl | h3
 ·rw [ZEp];exact Nat.mul_pos zd (Nat.mul_pos (ZF4 zd) h0)
 ·exact ZDx ((Nat.mul_lt_mul_left h3).2 h2) (ZCf _ hi)
theorem Zzj {D E k j m:Nat} (hD:D < 65536 ^ k) (hE:E < 65536 ^ (2*j)):D*E ^ m < 65536 ^ (k+1+m*(2*j)):=by
 have h1:E ^ m≤65536 ^ (m*(2*j)):=Zym hE m;have h0:0 < 65536 ^ (m*(2*j)):=ZF4 zd;have h2:D*E ^ m < 65536 ^ k*65536 ^ (m*(2*j)):=ZGl (ZD0 _ h1) (ZGz hD h0);rw [←ZDb] at h2;exact ZDx h2 (ZDk zd zo)
theorem hn_xb {a num den:QTs} {ka kb na nb:Nat} (ha:XB a ka na) (hu:XB num kb nb) (hd:XB den kb nb) (q:Qt) (m i:Nat) (hi:i≤65536):XB (hnX (paQ q a) num den m i) (ka+1+i*(2*kb)) (na+i*nb):=by
 obtain⟨E,C,e0,c0,e1,c1,g1,g2⟩:=two_xn hu hd;obtain⟨a1,b1,D,B,d0,d1,d2,d3⟩:=ha;have g:XN a D B na:=⟨a1,b1,d3⟩;exact(XN.hn (λk=>g.part q k) g1 g2 c0 m i).xb (ZE3 d0 (Nat.ne_of_gt (ZF4 (ZDl e0)))) (Zzj d1 e1) (Zzi d2 c1 hi)
theorem rf_xb {a num den:QTs} {ka kb na nb:Nat} (ha:XB a ka na) (hu:XB num kb nb) (hd:XB den kb nb) (q:Qt) (m i:Nat) (hm:m < 65536) (hi:i≤m+1):XB (rfX (paQ q a) num den m i) (ka+1+m*(2*kb)) (na+m*nb):=by
 obtain⟨E,C,e0,c0,e1,c1,g1,g2⟩:=two_xn hu hd;obtain⟨a1,b1,D,B,d0,d1,d2,d3⟩:=ha;have g:XN a D B na:=⟨a1,b1,d3⟩;exact(XN.rf (λk=>g.part q k) g1 g2 m i hi).xb (ZE3 d0 (Nat.ne_of_gt (ZF4 (ZDl e0)))) (Zzj d1 e1) (Zzi d2 c1 zo)
theorem hn_len2 {P:Nat→QTs} {a d:QTs} {LP L:Nat} (hP:∀k,(P k).length≤LP) (ha:a.length≤L) (hd:d.length≤L) (hL:1≤L) (m i M:Nat) (hi:i≤M):(hnX P a d m i).length≤M*LP*L ^ M :=
 ZB1 (hn_len hP ha hd hL m i) (ZC7 (ZCf _ hi) (ZDk hL hi))
end Go.Proofs.YtkefeinbjbeidaaGreatDoor
namespace Go.Proofs.YtkefeinbjbeidaaGreatDoor
open Go Go.RowKit Go.Pg Go.Pol Go.Proofs.Tryz
attribute [-bool_to_prop] Bool.and_eq_decide Bool.or_eq_decide Bool.decide_beq_decide decide_eq_decide
attribute [local go_sem] Zas Zaw Zav Zah Zaq Zai Bool.and_self Zal Zba Za9 Zca Zcb
theorem Zw5 (q:Qt) (l:List Qt) (x:Qt):tmQ q (l++[x])=if x=q then tmQ q l+1 else tmQ q l:=by
 unfold tmQ;rw [ZEz,ZCr];split
 ·rename_i h;rw [ZFe (by simpa using h)];rfl
 ·rename_i h;rw [ZFd (by simpa using h)];rfl
theorem woQ_y {q x:Qt} (l:List Qt) (h:x≠q):woQ q (l++[x])=woQ q l++[x]:=by unfold woQ;rw [ZEz,ZFe (by simpa using h)];rfl
theorem woQ_n {q x:Qt} (l:List Qt) (h:x=q):woQ q (l++[x])=woQ q l:=by unfold woQ;rw [ZEz,ZFd (by simpa using h)];simp
theorem cst_ok (a:Rat):nrmR (cstE a)=qpA (if a=0 then [] else [(a,[])]):=by
 have h:=nrm_re (p:=[(a,[])]) (λt ht=>by rw [List.mem_singleton.1 ht];exact rgQ.de)
 rwa [Zn8] at h
theorem Zyd {α:Type} (f:Nat→α) {n k:Nat} (x:α) (h:k < n):((List.range n).map f).set k x=(List.range n).map λj=>if j=k then x else f j:=by
 refine List.ext_getElem? λj=>?_;by_cases hj:j < n
 ·by_cases hjk:j=k
  ·subst hjk;rw [ZHm (by simp;omega)];simp [ZC4,ZEo hj]
  ·rw [List.getElem?_set_ne (ZDu hjk)];simp [ZC4,ZEo hj,hjk]
 ·rw [ZDh (by simp;omega),ZDh (by simp;omega)]
theorem Zvu {α:Type} (f:Nat→α) (n:Nat):(List.range (n+1)).map f=(List.range n).map f++[f n]:=by rw [List.range_succ,ZCp];rfl
structure PtM (m:Mem) (sv:Value) (S:Nat→Value) (L:Nat→List AV) (len:Nat):Prop where
 top:m 12=some (.row sv 34 1 ((List.range len).map λj=>.own (2000+j) (S j)) 0)
 el:∀j,j < len→m (2000+j)=some (.row (S j) 78 4 (L j) 0)
theorem PtM.upd {m:Mem} {sv:Value} {S:Nat→Value} {L:Nat→List AV} {len k:Nat} {x:Option Ent} (h:PtM m sv S L len) (hk:k≠12) (hk2:k < 2000):PtM (upd m k x) sv S L len :=
 ⟨by rw [Zfw (ZDu hk)];exact h.top,λj hj=>by rw [Zfw zo];exact h.el j hj⟩
theorem Zzu {P:Program} {n:Nat} {K:St→Prop} {st:St} (h:K st):Zl7 P n [] K st:=h
theorem exSplit (a:QTs) (q:Qt) {n:Nat} (hl:a.length≤100000) (hq:∀t∈a,t.2.length≤n) (hn:n≤100000):Pure prog 350 [qpA a,q.av] (.sl 1 ((List.range (moQ q a+1)).map λk=>qpA (woL q a k))):=by
 have hpm:(a.map qtA).length=a.length:=ZB2 ..;have gp:∀i (h:i < a.length),(a.map qtA).getD i .u=qtA a[i]:=λi h=>Zam qtA h;have hmo:∀i,moQ q (a.take i)≤n:=λi=>mo_le λt ht=>hq t (ZDc ht);have hwl:∀i k,((woL q (a.take i) k).map qtA).length≤100000:=λi k=>by
  rw [ZB2];have:=Zwv q (a.take i) k;rw [ZCh] at this;omega
 have hfull:a.take a.length=a:=ZDg;obtain⟨q1,q2,q3,q4⟩:=q;generalize hQ:(⟨q1,q2,q3,q4⟩:Qt)=q at *;show Pure _ _ [.sl 4 (a.map qtA),q.av] (.sl 1 ((List.range (moQ q a+1)).map λk=>.sl 4 ((woL q a k).map qtA)));generalize a.map qtA=A at *;have hqv:q.av=.agg [iv q1,iv q2,iv q3,iv q4]:=by rw [←hQ]
 rw [hqv];refine pI func350 rfl ntmps350 results350 call350 ?_
 (refine wkad w_t w_t w_t (w_s ?_);intros)
 rename_i g3 s12;refine Zfb (Frz.elNil (K:=12) (j:=0) 2000 4 78 (gC) zo zr) ?_;refine r_loopZ ?_;refine Zad (ι:=Nat) (λi e m=>i≤a.length∧(e 3=.pbox 3 g3 0∧m 3=some (.box g3 91 [iv q1,iv q2,iv q3,iv q4] false))∧(e 13=.sl 4 A∧e 14=iv a.length∧e 15=iv i)∧∃sv S,e 5=.own 12 sv∧PtM m sv S (λk=>(woL q (a.take i) k).map qtA) (moQ q (a.take i)+1)) (λi=>a.length - i) 0 zr ?_ ?_
 ·rintro i e m ⟨hi,⟨e3,m3⟩,⟨e13,e14,e15⟩,sv,S,e5,hM⟩
  by_cases hlt:i < a.length
  ·have gpi:=gp i hlt;have hql:a[i].2.length≤n:=hq _ (ZB7 hlt);have hmi:=hmo i;have hsn:a.take (i+1)=a.take i++[a[i]]:=by rw [ZEe hlt]
   have hm2:moQ q (a.take (i+1))=max (moQ q (a.take i)) (tmQ q a[i].2):=by rw [hsn,Zzc]
   have hw2:∀k,woL q (a.take (i+1)) k=if tmQ q a[i].2=k then woL q (a.take i) k++[(a[i].1,woQ q a[i].2)] else woL q (a.take i) k:=λk=>by rw [hsn,wo_snoc]
   have habv:∀k,moQ q (a.take i) < k→woL q (a.take i) k=[]:=λk h=>wo_above h;have hwl:=hwl i;clear gp hq hmo hsn;generalize woL q (a.take i)=W at *;generalize moQ q (a.take i)=mo at *;generalize a[i]=u at *;obtain⟨u1,u2⟩:=u;simp only at hql hm2 hw2;have gpi:A.getD i .u=.agg [.v (.bool (decide (u1.num < 0))),lim (toL u1.num.natAbs),lim (toL u1.den),.sl 4 (u2.map Qt.av)]:=gpi;have hqt:[(u1,woQ q u2)].map qtA=[.agg [.v (.bool (decide (u1.num < 0))),lim (toL u1.num.natAbs),lim (toL u1.den),.sl 4 ((woQ q u2).map Qt.av)]]:=rfl;have hum:(u2.map Qt.av).length=u2.length:=ZB2 ..;have gu:∀k (h:k < u2.length),(u2.map Qt.av).getD k .u=Qt.av u2[k]:=λk h=>Zam Qt.av h
   generalize toL u1.num.natAbs=un at *;generalize toL u1.den=ud at *;generalize decide (u1.num < 0)=us at *;generalize u2.map Qt.av=UQ at *
   (refine wkad (w_8 e3 m3 e13 e14 e15 e5 hpm gpi) w_t w_t (w_s ?_);intros)
   rename_i g7;refine Zfb (Frz.nilOwn (d:=8) 500 4 91 (gC)) ?_;refine Zad (ι:=Nat) (λk e m=>k≤u2.length∧(e 3=.pbox 3 g3 0∧m 3=some (.box g3 91 [iv q1,iv q2,iv q3,iv q4] false))∧(e 13=.sl 4 A∧e 14=iv a.length∧e 15=iv i∧e 5=.own 12 sv)∧(e 7=.pbox 7 g7 0∧m 7=some (.box g7 78 [.v (.bool us),lim un,lim ud,.sl 4 UQ] false))∧(e 20=.sl 4 UQ∧e 21=iv u2.length∧e 22=iv k)∧(∃s8,e 8=.own 500 s8∧m 500=some (.row s8 91 4 ((woQ q (u2.take k)).map Qt.av) 0))∧PtM m sv S (λk=>(W k).map qtA) (mo+1)) (λk=>u2.length - k) 0 zr ?_ ?_
   ·clear e3 m3 e13 e14 e15 e5 hM
    rintro k e m ⟨hk,⟨e3,m3⟩,⟨e13,e14,e15,e5⟩,⟨e7,m7⟩,⟨e20,e21,e22⟩,⟨s8,e8,m8⟩,hM⟩
    by_cases hkl:k < u2.length
    ·have guk:=gu k hkl
     have hwk:(woQ q (u2.take k)).length≤100000:=by
      have:=Zw4 q (u2.take k);rw [ZCh] at this;omega
     have hwm:((woQ q (u2.take k)).map Qt.av).length≤100000:=by rw [ZB2];exact hwk
     have hts:u2.take (k+1)=u2.take k++[u2[k]]:=by rw [ZEe hkl]
     by_cases hx:u2[k]=q
     ·have hnx:(woQ q (u2.take (k+1))).map Qt.av=(woQ q (u2.take k)).map Qt.av:=by rw [hts,woQ_n _ hx]
      rw [hx,hqv] at guk;clear gu hts;generalize (woQ q (u2.take k)).map Qt.av=R at *
      (refine wkad (w_15 e3 m3 e13 e14 e15 e5 e7 m7 e20 e21 e22 e8 m8 hum guk) w_t w_t (w_s ?_);intros)
      exact⟨k+1,⟨zo,⟨gW e3,gW m3⟩,⟨gW e13,gW e14,gW e15,gW e5⟩,⟨gW e7,gW m7⟩,⟨gW e20,gW e21,gS⟩,⟨s8,gW e8,by rw [hnx];exact gW m8⟩,by(repeat' first|exact hM|refine PtM.upd ?_ zd zd)⟩,zo⟩
     ·have hnx:woQ q (u2.take (k+1))=woQ q (u2.take k)++[u2[k]]:=by rw [hts,woQ_y _ hx]
      have hmp:(woQ q (u2.take (k+1))).map Qt.av=(woQ q (u2.take k)).map Qt.av++[Qt.av u2[k]]:=by rw [hnx,ZCp];rfl
      clear gu hts hnx;generalize (woQ q (u2.take k)).map Qt.av=R at *;generalize u2[k]=x at *;obtain⟨x1,x2,x3,x4⟩:=x;have hx:¬(x1=q1∧x2=q2∧x3=q3∧x4=q4):=λh=>hx (by rw [←hQ];obtain⟨rfl,rfl,rfl,rfl⟩:=h;rfl)
      (refine wkad (w_15 e3 m3 e13 e14 e15 e5 e7 m7 e20 e21 e22 e8 m8 hum guk) w_t w_t (w_s ?_);intros)
      all_goals exact⟨k+1,⟨zo,⟨gW e3,gW m3⟩,⟨gW e13,gW e14,gW e15,gW e5⟩,⟨gW e7,gW m7⟩,⟨gW e20,gW e21,gS⟩,⟨_,gC,by rw [hmp];exact gC⟩,by(repeat' first|exact hM|refine PtM.upd ?_ zd zd)⟩,zo⟩
    ·have hku:k=u2.length:=zo;subst hku;rw [ZDg] at m8;have htw:=Zw4 q u2;have hRm:((woQ q u2).map Qt.av).length=(woQ q u2).length:=ZB2 ..;have hn1:(u2.length:Int) - ((woQ q u2).length:Int)=(tmQ q u2:Int):=zo;have hn2:(tmQ q u2:Int)≤n:=zo;generalize (woQ q u2).map Qt.av=R at *;generalize (woQ q u2).length=rl at *;generalize tmQ q u2=tn at *
     (refine wkad (w_16 e3 m3 e13 e14 e15 e5 e7 m7 e20 e21 e22 e8 m8 hum hRm hn1) w_t w_t (w_s ?_);intros)
     refine Zyf (ι:=Nat) (λj e m=>(mo+1≤j∧j≤max mo tn+1)∧(e 3=.pbox 3 g3 0∧m 3=some (.box g3 91 [iv q1,iv q2,iv q3,iv q4] false))∧(e 13=.sl 4 A∧e 14=iv a.length∧e 15=iv i)∧(e 7=.pbox 7 g7 0∧m 7=some (.box g7 78 [.v (.bool us),lim un,lim ud,.sl 4 UQ] false))∧(e 8=.own 500 s8∧m 500=some (.row s8 91 4 R 0))∧e 11=iv tn∧∃sv S,e 5=.own 12 sv∧PtM m sv S (λk=>(W k).map qtA) j) (λj=>max mo tn+1 - j) (mo+1) zr ?_ ?_
     ·clear e3 m3 e13 e14 e15 e5 hM e7 m7 e8 m8 e20 e21 e22
      rintro j e m ⟨⟨hj1,hj2⟩,⟨e3,m3⟩,⟨e13,e14,e15⟩,⟨e7,m7⟩,⟨e8,m8⟩,e11,sv,S,e5,hM⟩
      have hlE:((List.range j).map λk=>AV.own (2000+k) (S k)).length=j:=by rw [ZB2,List.length_range]
      by_cases hjt:j≤tn
      ·obtain⟨top,el⟩:=hM;have hjt':(j:Int)≤(tn:Int):=zo;have hW:=habv j zo;have n3:¬3=2000+j:=zo;have n7:¬7=2000+j:=zo;have n5:¬500=2000+j:=zo;have hset:∀x y:AV,(((List.range j).map λk=>AV.own (2000+k) (S k))++[x]).set j y=((List.range j).map λk=>AV.own (2000+k) (S k))++[y]:=λx y=>by
        rw [List.set_append_right _ _ zo,hlE,ZE8];rfl
       have hnw:(List.range (j+1)).map (λk=>AV.own (2000+k) (if k=j then .slice none 0 0 else S k))=((List.range j).map λk=>AV.own (2000+k) (S k))++[.own (2000+j) (.slice none 0 0)]:=by
        rw [Zvu,ZBv rfl];congr 1;exact ZEg λk hk=>by rw [ZBu (by have:=List.mem_range.1 hk;omega)]
       generalize (List.range j).map (λk=>AV.own (2000+k) (S k))=E at *
       (refine wkad (w_14 e3 m3 e13 e14 e15 e7 m7 e8 m8 e11 e5 top hlE hjt') w_t w_t (w_s ?_);intros)
       refine⟨j+1,_,Frz.elNil (K:=12) (j:=j) (2000+j) 4 78 (gC) zo (by rw [ZDr zo,hlE,ZE8];rfl),⟨⟨zo,zo⟩,⟨gW e3,gW (And.intro m3 n3)⟩,⟨gW e13,gW e14,gW e15⟩,⟨gW e7,gW (And.intro m7 n7)⟩,⟨gW e8,gW (And.intro m8 n5)⟩,gW e11,_,(λk=>if k=j then .slice none 0 0 else S k),gC,⟨?_,λk hk=>?_⟩⟩,zo⟩
       ·dsimp only;rw [Zjv,hset,←hnw]
       ·by_cases hkj:k=j
        ·subst hkj;dsimp only;rw [Zfw zo,Zjv,if_pos rfl,hW];rfl
        ·rw [ZBu hkj];simp (disch:=omega) only [Zfw,marks];exact el k zo
      ·have hjt':¬(j:Int)≤(tn:Int):=zo;have hjm:j=max mo tn+1:=zo;have hM2:=hM.top
       (refine wkax (w_14 e3 m3 e13 e14 e15 e7 m7 e8 m8 e11 e5 hM2 hlE hjt') w_t w_t w_t w_t w_t w_t (w_r 0) (w_s ?_);intros)
       refine r_frzD (Frz.own (d:=8) (k:=500) (sv:=s8) (ty:=91) (mm:=4) (es:=R) (pub:=0) (gW e8) (by exact m8)) ?_;have hM:PtM (Go.Pg.mark m 500) sv S (λk=>(W k).map qtA) j:=hM.upd zo zo;obtain⟨top,el⟩:=hM;have etn:=el tn zo
       have hgE:((List.range j).map λk=>AV.own (2000+k) (S k)).getD tn .u=.own (2000+tn) (S tn):=by
        rw [ZCb,ZC4,ZEo zo];rfl
       have hwt:=hwl tn;have hset:=λx:AV=>Zyd (λk=>AV.own (2000+k) (S k)) (n:=j) x (show tn < j by omega);have w7:Go.Pg.mark m 500 7=some (.box g7 78 [.v (.bool us),lim un,lim ud,.sl 4 UQ] false):=by show Go.Pg.upd m 500 _ 7=_;rw [Zfw zo];exact m7
       have w3:Go.Pg.mark m 500 3=some (.box g3 91 [iv q1,iv q2,iv q3,iv q4] false):=by show Go.Pg.upd m 500 _ 3=_;rw [Zfw zo];exact m3
       have htj:(tn:Int) < (j:Int):=zo;have htj2:tn < j:=zo;obtain⟨kn,hkn⟩:∃kn,kn=2000+tn:=⟨_,rfl⟩;rw [←hkn] at etn hgE;have b3:(3 == kn)=false:=by rw [ZGk];omega
       have b7:(7 == kn)=false:=by rw [ZGk];omega
       have b12:(12 == kn)=false:=by rw [ZGk];omega
       have n3:¬3=kn:=zo;have n7:¬7=kn:=zo;have n12:¬12=kn:=zo;have n12':¬kn=12:=zo;have hWn:∀k,(woL q (a.take (i+1)) k).map qtA=if tn=k then (W k).map qtA++[.agg [.v (.bool us),lim un,lim ud,.sl 4 R]] else (W k).map qtA:=λk=>by
        rw [hw2];by_cases h:tn=k
        ·rw [ZBv h,ZBv h,ZCp,hqt]
        ·rw [ZBu h,ZBu h]
       generalize Go.Pg.mark m 500=m1 at *;clear m3 m7 m8 hM2 hw2;generalize hLT:(W tn).map qtA=LT at *;generalize (List.range j).map (λk=>AV.own (2000+k) (S k))=E at *;refine r_drawS 13 (Zfc [(10,.sl 4 [.agg [.v (.bool us),lim un,lim ud,.sl 4 R]])]) [11,1011] [kn] (by simp only [ZHn,ZFk];rfl) (by simp only [List.drop_succ_cons,ZD9];rfl) zk zr zk zk (by simp only [ZCd,ZCq,Nat.reduceAdd];rfl) ?_
       (refine wkax (w_22 e3 w3 e13 e14 e15 e7 w7 e11 e5 top hlE hgE etn b3 b7 b12 n12 n12' n3 n7 hwt htj) w_t w_t w_t w_t w_t w_t (w_r 0) (w_s ?_);intros)
       rename_i svn;intro hrel;have h1:=own_one (d:=58) (k:=kn) (sv:=svn) (gC) hrel;unfold Value.oneCell' at h1;refine⟨_,Frz.slotV (d:=58) (k:=kn) (gC),?_⟩
       (refine wkax (w_17 h1 e3 w3 e13 e14 e15 e7 w7 e11 e5 top hlE n12 n12' n3 n7 htj) w_t w_t w_t w_t w_t w_t (w_r 0) (w_s ?_);intros)
       refine⟨_,Frz.elOwn (K:=12) (k:=kn) (j:=tn) (gW n12) (gW n12') (by rw [ZHm zo]),?_⟩;refine Zzu ?_
       (refine wkax (w_13 e3 w3 e13 e14 e15 e7 w7 e11 e5 n12 n12' n3 n7) w_t w_t w_t w_t w_t w_t (w_r 0) (w_s ?_);intros)
       refine⟨i+1,⟨zo,⟨gW e3,gW (And.intro w3 n3)⟩,⟨gW e13,gW e14,gS⟩,_,(λk=>if k=tn then svn else S k),gW e5,⟨?_,λk hk=>?_⟩⟩,zo⟩
       ·dsimp only;rw [Zjv,List.set_set,hset,hm2,←hjm];congr 2;refine List.map_congr_left λk hk=>?_;by_cases h:k=tn
        ·rw [ZBv h,ZBv h,hkn,h]
        ·rw [ZBu h,ZBu h]
       ·dsimp only;by_cases h:k=tn
        ·subst h;rw [←hkn,ZBv rfl,hWn,ZBv rfl,hLT];simp (disch:=omega) only [Zfw,Zjv,marks]
        ·rw [ZBu h,hWn,ZBu (λh2=>h h2.symm)];simp (disch:=omega) only [Zfw,marks];exact el k zo
     ·exact⟨⟨ZBw _,zo⟩,⟨gW e3,gW m3⟩,⟨gW e13,gW e14,gW e15⟩,⟨gW e7,gW m7⟩,⟨gW e8,gW m8⟩,gC,_,_,gW e5,by(repeat' first|exact hM|refine PtM.upd ?_ zd zd)⟩
   ·exact⟨ZB5 _,⟨gW e3,gW m3⟩,⟨gW e13,gW e14,gW e15,gW e5⟩,⟨gC,gC⟩,⟨gC,gW hum,gC⟩,⟨_,gC,gC⟩,by(repeat' first|exact hM|refine PtM.upd ?_ zd zd)⟩
  ·have hia:i=a.length:=zo;subst hia;rw [hfull] at hM;have hM2:=hM.top
   (refine wkad (w_8 e3 m3 e13 e14 e15 e5 hM2 hpm) w_t w_t (w_s ?_);intros)
   refine Exists.elim (Frz.elsPub (K:=12) (d:=5) (mm:=4) (λj=>2000+j) S _ hM2 (λj hj=>⟨hM.el j hj,zo⟩) (λi j _ _ h=>zo) (gW e5)) λm' hF=>⟨_,hF,?_⟩
   (refine wkad (w_8 e3 m3 e13 e14 e15 e5 hM2 hpm) w_t w_t (w_s ?_);intros)
   all_goals exact gL
 ·refine⟨ZB5 _,⟨gC,gC⟩,⟨gC,gW hpm,gC⟩,s12,(λ_=>.slice none 0 0),gC,⟨?_,λj hj=>?_⟩⟩
  ·rw [Zjv];rfl
  ·have hj0:j=0:=by
    have:moQ q (a.take 0)=0:=rfl;omega
   subst hj0;rw [Zfw zd,Zjv];rfl
theorem XB.scl {p:QTs} {k n:Nat} (h:XB p k n) {s:Int} (hs:s=-1∨s=1):XB (sclT (s:Rat) p) k n:=by
 rcases hs with rfl | rfl
 ·exact h.neg
 ·show XB (sclT 1 p) k n;rw [Zk2];exact h
theorem ratOfm1:Pure prog 27 [iv (-1)] (ratQ (-1:Rat)):=Zmn (z:=-1) (.inl rfl)
theorem ZAh:Pure prog 55 [ratQ (-1:Rat)] (.sl 4 ([((-1:Rat),[])].map qtA)):=by
 have c:=Zsq (-1) sz_m1 zo
 rwa [cst_ok,ZBu (by decide +kernel)] at c
theorem ratOf1':Pure prog 27 [iv 1] (.agg [.v (.bool false),lim [1],lim [1]]):=by rw [←Znp];exact Zmn (z:=1) (.inr (.inr rfl))
theorem ZAd (a num den:QTs) (q:Qt) {ka kb na nb L LA M:Nat} (ha:XB a ka na) (hu:XB num kb nb) (hd:XB den kb nb) (la:a.length≤LA) (hLA:1≤LA∧LA≤100000) (hMM:M≤1000) (hmo:moQ q.norm.1 a≤M) (lu:num.length≤L) (ld:den.length≤L) (h1:1≤L)
 (hq:na+(M+1)*nb≤maxQ) (hL:(M+1)*LA*L ^ (M+1)≤100000000) (hk:ka+(M+1)*(2*kb)+10≤100000) :
 Pure prog 342 [qpA a,q.av,.agg [qpA num,qpA den]] (if q.norm.2=0 then .agg [qpA a,qpA [((1:Rat),[])]] else .agg [qpA (rpN q.norm.1 a (sclT (q.norm.2:Rat) num) den),qpA (rpD q.norm.1 a den)]):=by
 have cn0:=Zyh q.k q.a q.b q.c;have cn:Pure prog 162 [q.av] (.tup [q.norm.1.av,iv q.norm.2]):=cn0;clear cn0;have hs:=Zib q;have c1:=ratOf1';have cc:=awConst1
 have o1:qpA [((1:Rat),[])]=.sl 4 [.agg [.v (.bool false),lim [1],lim [1],.sl 4 []]]:=by
  show AV.sl 4 [qtA ((1:Rat),[])]=_;rw [Zld];rfl
 obtain⟨q1,q2,q3,q4⟩:=q;generalize hN:Qt.norm ⟨q1,q2,q3,q4⟩=nn at *;obtain⟨n,s⟩:=nn;simp only at hs cn ⊢;by_cases hs0:s=0
 ·subst hs0;rw [ZBv rfl,o1];show Pure _ _ [.sl 4 (a.map qtA),.agg [iv q1,iv q2,iv q3,iv q4],.agg [.sl 4 (num.map qtA),.sl 4 (den.map qtA)]] (.agg [.sl 4 (a.map qtA),.sl 4 [.agg [.v (.bool false),lim [1],lim [1],.sl 4 []]]]);obtain⟨n1,n2,n3,n4⟩:=n;generalize a.map qtA=A at *;generalize num.map qtA=U at *;generalize den.map qtA=D at *;refine pI func342 rfl ntmps342 results342 call342 ?_
  (refine wkad w_t (w_3 cn c1 cc) w_t (w_s ?_);intros)
  all_goals exact gL
 ·rw [ZBu hs0];have hs':s=-1∨s=1:=by rcases hs with h | h | h;exact .inl h;exact absurd h hs0;exact .inr h
  have hv:=hu.scl hs';have lv:(sclT (s:Rat) num).length≤L:=by rw [Zc1];exact lu
  obtain⟨mm,hmm⟩:∃mm,mm=moQ n a:=⟨_,rfl⟩;have hm:mm≤M:=by rw [hmm];exact hmo
  have e0:L ^ (M+1)=L ^ M*L:=ZC5 ..;have p1:∀i,i≤M+1→L ^ i≤L ^ (M+1):=λi hi=>ZDk h1 hi;have p0:∀i,i≤M→L ^ i≤L ^ M:=λi hi=>ZDk h1 hi;have p2:∀i,i≤M+1→i*nb≤(M+1)*nb:=λi hi=>ZCf _ hi;have p3:∀i,i≤M+1→i*kb≤(M+1)*(2*kb):=λi hi=>ZC7 hi zo;have r3:∀i,i≤M+1→i*(2*kb)≤(M+1)*(2*kb):=λi hi=>ZCf _ hi;have hM:=Zjf;have b0:(M+1)*LA*L ^ (M+1)≤100000000:=hL;have b1:(M+1)*LA*L ^ (M+1)=M*LA*L ^ (M+1)+LA*L ^ (M+1):=by rw [ZDt,ZCo]
  have b2:L ^ M≤L ^ (M+1):=ZDk h1 zo;have b3:L≤L ^ (M+1):=by have h:=p1 1 zo;rwa [Nat.pow_one] at h
  have b4:M*LA*L ^ M≤M*LA*L ^ (M+1):=ZD0 _ b2;have b6':L ^ (M+1)≤LA*L ^ (M+1):=ZHo _ zo;have b7':LA*L ^ M≤LA*L ^ (M+1):=ZD0 _ b2;have b8:1*(2*kb)≤(M+1)*(2*kb):=ZCf _ zo;have b5:nb≤(M+1)*nb:=ZHo _ zo;have hpa:∀k,XB (paQ n a k) ka na:=λk=>ha.part n k;have hpl:∀k,(paQ n a k).length≤LA:=λk=>ZB1 (pa_len n a k) la;have hpn:=Zxz n (num:=sclT (s:Rat) num) ha.1 hv.1 hd.1;rw [←hpn];show Pure _ _ _ (.agg [.sl 4 ((hnX (paQ n a) (sclT (s:Rat) num) den (moQ n a) (moQ n a+1)).map qtA),.sl 4 ((pwX den (moQ n a)).map qtA)])
  rw [←hmm];have hlen:∀i,i≤mm→(hnX (paQ n a) (sclT (s:Rat) num) den mm i).length≤M*LA*L ^ M:=λi hi=>hn_len2 hpl lv ld h1 mm i M zo;have hlp:∀i,i≤mm→(pwX den i).length≤L ^ M:=λi hi=>ZB1 (Zpi ld i) (p0 i zo);have hx:∀i,i≤mm→XB (hnX (paQ n a) (sclT (s:Rat) num) den mm i) (ka+1+i*(2*kb)) (na+i*nb):=λi hi=>hn_xb ha hv hd n mm i zo;have cX:∀i,i≤mm→Pure prog 66 [.sl 4 ((hnX (paQ n a) (sclT (s:Rat) num) den mm i).map qtA),.sl 4 ((sclT (s:Rat) num).map qtA)] (.sl 4 ((mulX (hnX (paQ n a) (sclT (s:Rat) num) den mm i) (sclT (s:Rat) num)).map qtA)):=λi hi=>by
   have l1:=hlen i hi;have l2:(hnX (paQ n a) (sclT (s:Rat) num) den mm i).length*(sclT (s:Rat) num).length≤M*LA*L ^ M*L:=ZC7 l1 lv;rw [ZC6 (M*LA),←e0] at l2;have l3:=p2 i zo;have l6:=r3 i zo;have l4:i*nb≤M*nb:=ZCf _ zo;have l5:(M+1)*nb=M*nb+nb:=ZDt ..;exact ZAf _ _ (hx i hi) hv zo zo zo zo zo zo
  have cN:∀k,Pure prog 100 [.sl 4 ((woL n a k).map qtA)] (.sl 4 ((paQ n a k).map qtA)):=λk=>by
   obtain⟨a1,a2,D,C,a3,a4,a5,a6⟩:=ha;exact exNrmG (woL n a k) (D:=D) (C:=C) ⟨λt ht=>by obtain⟨u,hu,rfl⟩:=Zj0 ht;exact a6.1 u hu,ZB1 (n1_wo n k a) a6.2⟩ a3 a4 a5 (Zs8 a1.dom n k) (by have:=Zwv n a k;omega) (Zqx a2 n k) zo zo
  have cY:∀i,i≤mm→Pure prog 66 [.sl 4 ((paQ n a (mm - i)).map qtA),.sl 4 ((pwX den i).map qtA)] (.sl 4 ((mulX (paQ n a (mm - i)) (pwX den i)).map qtA)):=λi hi=>by
   have l1:=hlp i hi;have l0:=hpl (mm - i);have l2:(paQ n a (mm - i)).length*(pwX den i).length≤LA*L ^ M:=ZC7 l0 l1;have l3:=p2 i zo;have l4:=p3 i zo;exact ZAf _ _ (hpa _) (hd.pw i) zo zo zo zo zo zo
  have cA:∀i,i≤mm→Pure prog 69 [.sl 4 ((mulX (hnX (paQ n a) (sclT (s:Rat) num) den mm i) (sclT (s:Rat) num)).map qtA),.sl 4 ((mulX (paQ n a (mm - i)) (pwX den i)).map qtA)] (.sl 4 ((hnX (paQ n a) (sclT (s:Rat) num) den mm (i+1)).map qtA)):=λi hi=>by
   have x1:=(hx i hi).mul hv;have x2:=(hpa (mm - i)).mul (hd.pw i);have l1:=ZB1 (Zd3 (hnX (paQ n a) (sclT (s:Rat) num) den mm i) (sclT (s:Rat) num)) (ZC7 (hlen i hi) lv);rw [ZC6 (M*LA),←e0] at l1;have l7:=r3 (i+1) zo;rw [ZDt] at l7;have l2:=ZB1 (Zd3 (paQ n a (mm - i)) (pwX den i)) (ZC7 (hpl (mm - i)) (hlp i hi));have l3:=p2 i zo;have l4:=p3 i zo;have l5:i*nb≤M*nb:=ZCf _ zo;have l6:(M+1)*nb=M*nb+nb:=ZDt ..;exact exPlus _ _ (x1.mono (k:=_) (ZBw _) (show _≤na+(M+1)*nb by omega)).qk (x2.mono (k:=_) (ZBw _) (show _≤na+(M+1)*nb by omega)).qk x1.nz x2.nz zo zo zo zo zo
  have cD:∀i,i < mm→Pure prog 66 [.sl 4 ((pwX den i).map qtA),.sl 4 (den.map qtA)] (.sl 4 ((pwX den (i+1)).map qtA)):=λi hi=>by
   have l1:=hlp i zo;have l2:(pwX den i).length*den.length≤L ^ M*L:=ZC7 l1 ld;rw [←e0] at l2;have l3:=p2 (i+1) zo;have l4:=p3 (i+1) zo;have l5:(i+1)*nb=i*nb+nb:=ZDt ..;have l6:(i+1)*kb=i*kb+kb:=ZDt ..;exact ZAf _ _ (hd.pw i) hd zo zo zo zo zo zo
  have cS0:=exSplit a n zo ha.2.1 zo;rw [←hmm] at cS0
  have cM:Pure prog 66 [.sl 4 ([((-1:Rat),[])].map qtA),.sl 4 (num.map qtA)] (.sl 4 ((mulX [((-1:Rat),[])] num).map qtA)):=by
   have hx1:XB [((-1:Rat),[])] 1 0:=xbC _ _ (by decide +kernel);have l1:([((-1:Rat),[])]:QTs).length*num.length≤1*L:=ZC7 zs lu;have l2:([((-1:Rat),[])]:QTs).length≤1:=by simp
   exact ZAf _ _ hx1 hu zo zo zo zo zo zo
  have hVW:s=-1→(sclT (s:Rat) num).map qtA=(mulX [((-1:Rat),[])] num).map qtA:=λh=>by rw [h,mul_neg hu.1];rfl
  have hVU:s=1→(sclT (s:Rat) num).map qtA=num.map qtA:=λh=>by rw [h];show(sclT 1 num).map qtA=_;rw [Zk2]
  have cM1:=ratOfm1;have cM2:=ZAh;have hpl2:((List.range (mm+1)).map λk=>qpA (woL n a k)).length=mm+1:=by rw [ZB2,List.length_range]
  have hpg:∀k,k≤mm→((List.range (mm+1)).map λk=>qpA (woL n a k)).getD k .u=.sl 4 ((woL n a k).map qtA):=λk hk=>by
   rw [ZCb,ZC4,ZEo zo];rfl
  have d00:(pwX den 0).map qtA=[.agg [.v (.bool false),lim [1],lim [1],.sl 4 []]]:=by
   show [qtA ((1:Rat),[])]=_;rw [Zld];rfl
  clear hx hlen hlp hpa hpl b0 b1 b2 b3 b4 b5 b6' b7' b8 p1 p0 p2 p3 r3 e0 hq hL hk;have cS1:Pure prog 350 [.sl 4 (a.map qtA),n.av] (.sl 1 ((List.range (mm+1)).map λk=>qpA (woL n a k))):=cS0;clear cS0;show Pure _ _ [.sl 4 (a.map qtA),.agg [iv q1,iv q2,iv q3,iv q4],.agg [.sl 4 (num.map qtA),.sl 4 (den.map qtA)]] _;have h00:(hnX (paQ n a) (sclT (s:Rat) num) den mm 0).map qtA=[]:=rfl;generalize hHN:(λi=>(hnX (paQ n a) (sclT (s:Rat) num) den mm i).map qtA)=HN at *;have hHN:∀i,(hnX (paQ n a) (sclT (s:Rat) num) den mm i).map qtA=HN i:=λi=>by rw [←hHN]
  generalize hXX:(λi=>(mulX (hnX (paQ n a) (sclT (s:Rat) num) den mm i) (sclT (s:Rat) num)).map qtA)=XX at *;have hXX:∀i,(mulX (hnX (paQ n a) (sclT (s:Rat) num) den mm i) (sclT (s:Rat) num)).map qtA=XX i:=λi=>by rw [←hXX]
  generalize hYY:(λi=>(mulX (paQ n a (mm - i)) (pwX den i)).map qtA)=YY at *;have hYY:∀i,(mulX (paQ n a (mm - i)) (pwX den i)).map qtA=YY i:=λi=>by rw [←hYY]
  generalize hDN:(λi=>(pwX den i).map qtA)=DN at *;have hDN:∀i,(pwX den i).map qtA=DN i:=λi=>by rw [←hDN]
  generalize hPN:(λi=>(paQ n a i).map qtA)=PN at *;have hPN:∀i,(paQ n a i).map qtA=PN i:=λi=>by rw [←hPN]
  simp only [hHN,hXX,hYY,hDN,hPN] at cX cN cY cA cD h00 d00 ⊢;clear hHN hXX hYY hDN hPN;generalize (List.range (mm+1)).map (λk=>qpA (woL n a k))=PT at *;obtain⟨n1,n2,n3,n4⟩:=n;generalize a.map qtA=A at *;have cUV:s=1→num.map qtA=(sclT (s:Rat) num).map qtA:=λh=>by rw [h];show _=(sclT 1 num).map qtA;rw [Zk2]
  generalize (sclT (s:Rat) num).map qtA=V at *;generalize (mulX [((-1:Rat),[])] num).map qtA=W at *;generalize num.map qtA=U at *;generalize den.map qtA=D at *;generalize [((-1:Rat),[])].map qtA=NG at *;have cS:Pure prog 350 [.sl 4 A,.agg [iv n1,iv n2,iv n3,iv n4]] (.sl 1 PT):=cS1;clear cS1;have hmm1:((mm+1:Nat):Int) - 1=(mm:Int):=zo;clear hN hs hs0 hpn hv lv hu hd ha hmm;rcases hs' with rfl | rfl
  rotate_left
  have hV:=hVU rfl
  rotate_left
  have hV:=hVW rfl;all_goals (
   subst hV;clear hVU hVW;refine pI func342 rfl ntmps342 results342 call342 ?_
   (refine wkad (w_2 hmm1 hpl2) (w_7 cn cM1 cM2 cM cS c1 cc) w_t (w_s ?_);intros)
   refine Zfb (Frz.nil (d:=11) 4 (gC)) ?_;refine Zad (ι:=Nat) (λi e m=>i≤mm+1∧(∃g x,e 5=.pbox 5 g 0∧m 5=some (.box g 47 [x,.sl 4 D] false))∧(∃g,e 6=.pbox 6 g 0∧m 6=some (.box g 47 [.v (.slice none 0 0),.v (.slice none 0 0)] false))∧(e 9=.sl 4 V∧e 10=.sl 1 PT)∧e 11=.sl 4 (HN i)∧e 12=.sl 4 (DN (min i mm))∧e 13=.v (.int .i64 ((mm:Int) - (i:Int)))) (λi=>mm+1 - i) 0 zr ?_ ?_
   ·rintro i e m ⟨hi,⟨g5,x5,e5,m5⟩,⟨g6,e6,m6⟩,⟨e9,e10⟩,e11,e12,e13⟩
    by_cases hlt:i≤mm
    ·obtain⟨k,hk⟩:∃k,mm=i+k:=⟨mm - i,zo⟩;have h13:(mm:Int) - (i:Int)=(k:Int):=zo;have hmin:min i mm=i:=zo;have x1:=cX i hlt;have y1:=cY i hlt;have a1:=cA i hlt;have k1:=cN k;have hg:=hpg k zo;have hk3:k < PT.length:=zo;have h13':(k:Int) - 1=(mm:Int) - ((i+1:Nat):Int):=zo;rw [h13] at e13;rw [hmin] at e12;rw [show mm - i=k by omega] at y1;have cDi:=cD i;clear cX cY cA cN cD hpg cn cS c1 cc cM cM1 cM2 h00 d00;generalize (woL _ a k).map qtA=WK at *;by_cases hk0:k=0
     ·have hmin':min (i+1) mm=i:=zo;have hk0':¬(k:Int) > 0:=zo
      (refine wkad (w_12 e5 m5 e6 m6 e9 e10 e11 e12 e13 hpl2 hg hk0') (w_4 k1 x1 y1 a1) (w_1 (w_d 13 [(2,.sl 4 (XX i)),(7,.sl 4 (PN k)),(9,.sl 4 (YY i)),(10,.sl 4 (HN (i+1)))] [] [])) (w_s ?_);intros)
      exact⟨i+1,⟨zo,⟨g5,x5,gW e5,gW m5⟩,⟨g6,gW e6,gW m6⟩,⟨gW e9,gW e10⟩,gC,by rw [hmin'];exact gW e12,by rw [←h13'];exact gC⟩,zo⟩
     ·have hmin':min (i+1) mm=i+1:=zo;have hk0':(k:Int) > 0:=zo;have d1:=cDi zo
      (refine wkad (w_12 e5 m5 e6 m6 e9 e10 e11 e12 e13 hpl2 hg hk0') (w_5 k1 x1 y1 a1 d1) (w_1 (w_d 13 [(2,.sl 4 (XX i)),(7,.sl 4 (PN k)),(9,.sl 4 (YY i)),(10,.sl 4 (HN (i+1)))] [] [])) (w_s ?_);intros)
      exact⟨i+1,⟨zo,⟨g5,x5,gW e5,gW m5⟩,⟨g6,gW e6,gW m6⟩,⟨gW e9,gW e10⟩,gC,by rw [hmin'];exact gC,by rw [←h13'];exact gC⟩,zo⟩
    ·have him:i=mm+1:=zo;have h13:(mm:Int) - (i:Int)=-1:=zo;have hmin:min i mm=mm:=zo;rw [h13] at e13;rw [hmin] at e12;subst him;clear cX cY cA cN cD hpg cn cS c1 cc cM cM1 cM2 h00 d00 h13 hmin;generalize HN (mm+1)=H at *;generalize DN mm=E at *
     (refine wkad (w_9 e5 m5 e6 m6 e9 e10 e11 e12 e13) w_t w_t (w_s ?_);intros)
     all_goals exact gM (w_2 e6 m6)
   ·exact⟨ZB5 _,⟨_,_,gC,gC⟩,⟨_,gC,gC⟩,⟨gC,gC⟩,by rw [h00];exact gC,by rw [Nat.zero_min,d00];exact gC,by rw [show(mm:Int) - ((0:Nat):Int)=(mm:Int) by omega];exact gC⟩)
theorem Zer:szOf prog 353=some 3:=by kernel_rfl
theorem Zey:Zem prog 353=some 72:=by kernel_rfl
theorem zCmb:Zao prog 353=some (.agg #[.slice none 0 0,.slice none 0 0,.slice none 0 0]):=by kernel_rfl
theorem Zep:szOf prog 363=some 1:=by kernel_rfl
theorem szFn:szOf prog 361=some 1:=by kernel_rfl
theorem zFn:Zao prog 361=some .nilFunc:=by kernel_rfl
theorem zSch:Zao prog 363=some (.agg #[.nilFunc]):=by kernel_rfl
theorem Zeq:szOf prog 350=some 4:=by kernel_rfl
theorem zPlc:Zao prog 350=some (.agg #[.int .i64 0,.int .i64 0,.int .i64 0,.bool false]):=by kernel_rfl
section
attribute [local go_sem] underlying3 underlying4 underlying161 underlying24 underlying26 underlying28 underlying91 underlying76 underlying78 underlying33 underlying34 sz3 by3 z3 szB zB Zas zRat Zaw zInt Zav zNat Zah Zaq Zai Bool.and_self Zal Zba zSlQ szQT byQT zQT Za9 zSlT szQP zQP underlying346 underlying47 szFr byFr zFr Zca Zcb zSQP
end
end Go.Proofs.YtkefeinbjbeidaaGreatDoor
namespace Go.Proofs.YtkefeinbjbeidaaGreatDoor
open Go Go.RowKit Go.Pg Go.Pol Go.Proofs.Tryz
section
variable {ps:List PQ} {rs:List Rat}
def vlQ (ps:List PQ) (rs:List Rat):List Qt→Rat
 | []=>1
 | q :: l=>Qt.val q ps rs*vlQ ps rs l
def pwr (x:Rat):Nat→Rat
 | 0=>1
 | n+1=>pwr x n*x
def swX (W:Nat→Rat) (x:Rat):Nat→Rat
 | 0=>0
 | i+1=>swX W x i+W i*pwr x i
end
def alQ (C:Qt→Prop) (l:QTs):Prop:=∀t∈l,∀q∈t.2,C q
section
variable {C:Qt→Prop}
theorem alQ.join {p q:QTs} (hp:alQ C p) (hq:alQ C q):alQ C (Zbf p q):=λt ht=>by
 obtain⟨s,hs,e⟩:=Ziv ht;rw [e];rcases List.mem_append.1 hs with h | h
 ·exact hp s h
 ·exact hq s h
theorem alQ.gat {l:QTs} (h:alQ C l):alQ C (gatM l):=by
 rw [←Zr8];intro t ht;exact Zjp (P:=λx=>∀q∈x,C q) l [] (λt ht=>by cases ht) h t (List.mem_filter.1 ((Za2 _).mem_iff.1 ht)).1
theorem alQ.mul {p q:QTs} (hp:alQ C p) (hq:alQ C q):alQ C (mulX p q):=alQ.gat λu hu=>by
 obtain⟨s,hs,t,ht,rfl⟩:=Zfz hu;intro x hx;rcases List.mem_append.1 ((Za2 _).mem_iff.1 hx) with h | h
 ·exact hp s hs x h
 ·exact hq t ht x h
theorem alQ.pw {d:QTs} (h:alQ C d):∀i,alQ C (pwX d i)
 | 0=>λt ht x hx=>by
   rw [List.mem_singleton.1 ht] at hx;cases hx
 | i+1=>(h.pw i).mul h
theorem alQ.part {a:QTs} (h:alQ C a) (q:Qt) (k:Nat):alQ C (paQ q a k):=alQ.gat λu hu x hx=>by
 obtain⟨t,ht,rfl⟩:=Zj0 hu;exact h t ht x (List.mem_filter.1 hx).1
theorem alQ.scl {p:QTs} (h:alQ C p) (s:Rat):alQ C (sclT s p):=λu hu=>by
 obtain⟨t,ht,rfl⟩:=List.mem_map.1 hu;exact h t ht
theorem alQ.rf {P:Nat→QTs} {a d:QTs} (hP:∀k,alQ C (P k)) (ha:alQ C a) (hd:alQ C d) (m:Nat):∀i,alQ C (rfX P a d m i)
 | 0=>λt ht=>by cases ht
 | i+1=>(alQ.rf hP ha hd m i).join (((hP i).mul (ha.pw i)).mul (hd.pw (m - i)))
end
def cstT (u:Rat):QTs:=if u=0 then [] else [(u,[])]
theorem cstT_xb {u:Rat} {k:Nat} (h:Sz u k):XB (cstT u) (k+1) 0:=by
 have hd:=Zae.1 h.2;have hn:=Zae.1 h.1;have hk:65536 ^ k < 65536 ^ (k+1):=Nat.pow_lt_pow_right zo zo;unfold cstT;split
 ·exact Zow.mono zo (ZBw _)
 ·rename_i h0;refine⟨⟨λt ht=>by rw [List.mem_singleton.1 ht];exact⟨h0,rgQ.de⟩,ZGn _ _⟩,λt ht=>by rw [List.mem_singleton.1 ht];exact ZBw _,u.den,u.num.natAbs,u.den_nz,zo,zo,λt ht=>by rw [List.mem_singleton.1 ht];exact ZD6 _,?_⟩;rw [Zbh];exact cl_le.2 (ZE2 _ (ZDl u.den_nz))
theorem Zi5 (u:Rat):(cstT u).length≤1:=by unfold cstT;split<;>simp
theorem ZA0 {C:Qt→Prop} (u:Rat):alQ C (cstT u):=by
 unfold cstT;split
 ·exact λt ht=>by cases ht
 ·exact λt ht x hx=>by rw [List.mem_singleton.1 ht] at hx;cases hx
theorem Zy5 {q:Qt} (h:q.ok=true) (hs:q.norm.2≠0):q.norm.1.norm=(q.norm.1,1):=by
 obtain⟨k,a,b,c⟩:=q
 have hk:(k=3∧0≤a∧a < 64∧b=0∧c=0)∨((k=1∨k=2)∧(0≤a∧a < 40)∧(0≤b∧b < 40)∧(0≤c∧c < 40)):=by
  unfold Qt.ok at h;simpa using h
 have hc:Qt.chk ⟨k,a,b,c⟩ (List.replicate 40 ((0:Rat),(0:Rat))).length (List.replicate 64 (0:Rat)).length=0:=by
  rw [ZFy,ZFy];unfold Qt.chk;rw [ZBv h];simp only;rcases hk with⟨rfl,h1,h2,_⟩ | ⟨h0,h1,h2,h3⟩
  ·rw [ZBv rfl,ZBu zo]
  ·rw [ZBu zo,ZBu zo]
 rcases Zv5 (ps:=List.replicate 40 ((0:Rat),(0:Rat))) (rs:=List.replicate 64 (0:Rat)) hc (by rw [ZFy];exact ZBw _) with⟨hn,_⟩ | ⟨k1,a1,b1,e1,s,hn,_,hn2,_,_⟩
 ·rw [hn] at hs;exact absurd rfl hs
 ·rw [hn];exact hn2
structure XL (p:QTs) (k n l:Nat):Prop where
 x:XB p k n
 l:p.length≤l
theorem XL.mono {p:QTs} {k n l j m i:Nat} (h:XL p k n l) (hk:k≤j) (hn:n≤m) (hl:l≤i):XL p j m i:=⟨h.x.mono hk hn,ZB1 h.l hl⟩
theorem XL.mul {p q:QTs} {k n l j m i:Nat} (h:XL p k n l) (g:XL q j m i):XL (mulX p q) (k+j) (n+m) (l*i):=⟨h.x.mul g.x,ZB1 (Zd3 p q) (ZC7 h.l g.l)⟩
theorem XL.add {p q:QTs} {k n l j m i:Nat} (h:XL p k n l) (g:XL q j m i):XL (Zbf p q) (k+j+1) (max n m) (l+i):=⟨h.x.add g.x,ZB1 (Ze0 p q) (ZC8 h.l g.l)⟩
abbrev subX (p q:QTs):QTs:=Zbf p (sclT (-1) q)
theorem XL.neg {q:QTs} {j m i:Nat} (g:XL q j m i):XL (sclT (-1) q) j m i:=⟨g.x.neg,by rw [Zc1];exact g.l⟩
theorem XL.sub {p q:QTs} {k n l j m i:Nat} (h:XL p k n l) (g:XL q j m i):XL (subX p q) (k+j+1) (max n m) (l+i):=h.add g.neg
theorem XL.nil:XL [] 1 0 0:=⟨Zow,ZBw _⟩
def ofX (q:Qt):QTs:=if q.norm.2=0 then [] else [((q.norm.2:Rat),[q.norm.1])]
theorem of_ok {q:Qt} (h:q.ok=true):nrmR (ofE q)=qpA (ofX q):=by
 rw [Zy3 (by show(RE.ok ⟨rawQ 1,[q]⟩ && true)=true;rw [ZGj];show((rawQ 1).ok && [q].all Qt.ok)=true;rw [Zrl,ZDn,ZFl,h];rfl)];congr 2;show gatM [RE.t ⟨rawQ 1,[q]⟩]=ofX q;have hs:sgP [q]=q.norm.2:=by show 1*q.norm.2=_;rw [Int.one_mul]
 have ht:RE.t ⟨rawQ 1,[q]⟩=((q.norm.2:Rat),putP [q]):=by
  show((rawQ 1).q*(sgP [q]:Rat),putP [q])=_;rw [Zx9,hs,ZFw]
 rw [ht,Zn8];unfold ofX;by_cases h0:q.norm.2=0
 ·rw [ZBv h0,ZBv (by show(q.norm.2:Rat)=0;rw [h0];rfl)]
 ·have h1:¬(q.norm.2:Rat)=0:=by
   rcases Zib q with h2 | h2 | h2
   ·rw [h2];decide +kernel
   ·exact absurd h2 h0
   ·rw [h2];decide +kernel
  rw [ZBu h0,ZBu h1];have hp:=putP_y [] (q:=q) h0;rw [ZGg] at hp;rw [hp];rfl
theorem Zeb {q:Qt} (h:q.ok=true):XL (ofX q) 1 1 1:=by
 unfold ofX;split
 ·exact XL.nil.mono (ZBw _) zo zo
 ·rename_i h0;have hn:=Zy5 h h0
  have hs:(q.norm.2:Rat)≠0∧(q.norm.2:Rat).den ∣ 1∧cl (q.norm.2:Rat)≤65535:=by
   rcases Zib q with h2 | h2 | h2
   ·rw [h2];decide +kernel
   ·exact absurd h2 h0
   ·rw [h2];decide +kernel
  refine⟨⟨⟨λt ht=>?_,ZGn _ _⟩,λt ht=>by rw [List.mem_singleton.1 ht];exact ZBw _,1,65535,by decide,by decide,by decide,λt ht=>by rw [List.mem_singleton.1 ht];exact hs.2.1,?_⟩,ZBw _⟩
  ·rw [List.mem_singleton.1 ht];exact⟨hs.1,ZGn _ _,λx hx=>by rw [List.mem_singleton.1 hx];exact hn⟩
  ·rw [Zbh];exact hs.2.2
theorem Zf7 {u:Rat} {k:Nat} (h:Sz u k):XL (cstT u) (k+1) 0 1:=⟨cstT_xb h,Zi5 u⟩
theorem cstX_mul {c:Rat} {p:QTs} (h:EX p):mulX (cstT c) p=if c=0 then [] else sclT c p:=by
 unfold cstT;split
 ·exact Zze p
 ·rename_i h0;refine Zig (D:=okQ) Zbo (Zbi rgQ ⟨λt ht=>by rw [List.mem_singleton.1 ht];exact⟨h0,rgQ.de⟩,ZGn _ _⟩ h) ⟨λt ht=>?_,List.pairwise_map.2 h.2⟩ λφ=>?_
  ·obtain⟨u,hu,rfl⟩:=List.mem_map.1 ht;exact⟨λh1=>(Rat.mul_eq_zero.1 h1).elim h0 (h.1 u hu).1,(h.1 u hu).2⟩
  ·rw [Zfs Zbo,Zss];show c*evl (λk=>φ (muQ [] k)) p+0=_;rw [ZD5];congr 1
   have key:∀p:QTs,(∀t∈p,okQ t.2)→evl (λk=>φ (muQ [] k)) p=evl φ p:=by
    intro p
    induction p with
    | nil=>intro _;rfl
    | cons t p ih =>
      intro h;show t.1*φ (muQ [] t.2)+_=t.1*φ t.2+_;rw [ih λu hu=>h u (.tail _ hu),rgQ.comm,rgQ.one _ (h t (.head _))]
   exact key p h.dom
structure Cb where
 ps:List Int
 ab:List QTs
 be:QTs
abbrev aX (a b c:Int):QTs:=ofX ⟨1,a,b,c⟩
abbrev pX (a b c:Int):QTs:=ofX ⟨2,a,b,c⟩
abbrev nX (n:Rat):QTs:=cstT n
abbrev twX (p:QTs):QTs:=mulX (nX 2) p
def prC (a b:Int) (part below:QTs):Cb:=⟨[a,b],[subX below part,part],below⟩
def ctW (p q r:Int):QTs:=mulX (pX q r q) (pX q p r)
def cbOf (k:Int) (a:List Int) (r:Rat) (t:Int):Option Cb :=
 if k=2 then some (prC (gI a 0) (gI a 1) (nX r) (nX 1))
 else if k=3 then some ⟨a,[nX 1,nX (-1),nX 1],nX 1⟩
 else if k=5 then some (prC (gI a 0) (gI a 1) (ofX ⟨3,t,0,0⟩) (nX 1))
 else if k=9 then some (prC (gI a 0) (gI a 1) (aX (gI a 0) (gI a 2) (gI a 3)) (subX (aX (gI a 0) (gI a 2) (gI a 3)) (aX (gI a 1) (gI a 2) (gI a 3))))
 else if k=7 then some (prC (gI a 1) (gI a 2) (pX (gI a 0) (gI a 1) (gI a 2)) (pX (gI a 2) (gI a 1) (gI a 2)))
 else if k=8 then some ⟨[gI a 1,gI a 2,gI a 0],[twX (subX (pX (gI a 2) (gI a 1) (gI a 2)) (pX (gI a 0) (gI a 1) (gI a 2))),twX (pX (gI a 0) (gI a 1) (gI a 2)),subX [] (pX (gI a 2) (gI a 1) (gI a 2))],pX (gI a 2) (gI a 1) (gI a 2)⟩
 else if k=10 then some (prC (gI a 0) (gI a 1) (twX (pX (gI a 2) (gI a 0) (gI a 1))) (pX (gI a 1) (gI a 0) (gI a 1)))
 else if k=11 then some ⟨a,[ctW (gI a 0) (gI a 1) (gI a 2),ctW (gI a 1) (gI a 2) (gI a 0),ctW (gI a 2) (gI a 0) (gI a 1)],Zbf (Zbf (ctW (gI a 0) (gI a 1) (gI a 2)) (ctW (gI a 1) (gI a 2) (gI a 0))) (ctW (gI a 2) (gI a 0) (gI a 1))⟩
 else none
structure CbOk (c:Cb) (n:Int):Prop where
 len:c.ab.length=c.ps.length
 few:c.ps.length≤3
 ab:∀w∈c.ab,XL w 10 2 4
 be:XL c.be 10 2 4
 ps:∀x∈c.ps,0≤x∧x < n
theorem Zdk {k a b c:Int} (hk:k=1∨k=2) (ha:0≤a∧a < 40) (hb:0≤b∧b < 40) (hc:0≤c∧c < 40):Qt.ok ⟨k,a,b,c⟩=true:=by
 unfold Qt.ok;rw [ZCs];exact .inr ⟨hk,ha,hb,hc⟩
theorem cb_ok {k t:Int} {a:List Int} {r:Rat} {n:Int} {c:Cb} (h:cbOf k a r t=some c) (hr:Sz r 2) (ha:∀i,i < a.length→0≤gI a i∧gI a i < n) (hn:n≤40) (ht:0≤t∧t < 64)
 (hl:(k=3→a.length=3)∧(k=11→a.length=3)∧(k=2∨k=5→2≤a.length)∧(k=7∨k=8∨k=10→3≤a.length)∧(k=9→4≤a.length)):CbOk c n:=by
 obtain⟨l3,l11,l2,l7,l9⟩:=hl;have g:∀i,i < a.length→0≤gI a i∧gI a i < 40:=λi hi=>by have:=ha i hi;omega
 have pA:∀i j m,i < a.length→j < a.length→m < a.length→XL (aX (gI a i) (gI a j) (gI a m)) 1 1 1:=λi j m h1 h2 h3=>Zeb (Zdk (.inl rfl) (g i h1) (g j h2) (g m h3));have pP:∀i j m,i < a.length→j < a.length→m < a.length→XL (pX (gI a i) (gI a j) (gI a m)) 1 1 1:=λi j m h1 h2 h3=>Zeb (Zdk (.inr rfl) (g i h1) (g j h2) (g m h3));have c1:XL (nX 1) 2 0 1:=Zf7 Zjw;have c2:XL (nX 2) 2 0 1:=Zf7 Zo4;have cm:XL (nX (-1)) 2 0 1:=Zf7 sz_m1;have cr:XL (nX r) 3 0 1:=Zf7 hr
 have pr:∀{x y:Int} {p b:QTs} {j m i j' m' i':Nat},XL p j m i→XL b j' m' i'→j+j'+1≤10→m≤2→m'≤2→i+i'≤4→(0≤x∧x < n)→(0≤y∧y < n)→CbOk (prC x y p b) n:=by
  intro x y p b j m i j' m' i' hp hb h1 h2 h3 h4 hx hy;refine⟨rfl,by show 2≤3;decide,λw hw=>?_,hb.mono zo h3 zo,λz hz=>?_⟩
  ·rcases List.mem_cons.1 hw with rfl | hw
   ·exact(hb.sub hp).mono zo zo zo
   ·rw [List.mem_singleton.1 hw];exact hp.mono zo h2 zo
  ·rcases List.mem_cons.1 hz with rfl | hz
   ·exact hx
   ·rw [List.mem_singleton.1 hz];exact hy
 have hmem:∀x∈a,0≤x∧x < n:=λx hx=>by
  obtain⟨i,hi,rfl⟩:=List.getElem_of_mem hx;have:=ha i hi
  rwa [Zew hi] at this
 have tri:∀{x y z:QTs} {w:QTs},XL x 10 2 4→XL y 10 2 4→XL z 10 2 4→w∈[x,y,z]→XL w 10 2 4:=by
  intro x y z w hx hy hz hw;rcases List.mem_cons.1 hw with rfl | hw
  ·exact hx
  ·rcases List.mem_cons.1 hw with rfl | hw
   ·exact hy
   ·rw [List.mem_singleton.1 hw];exact hz
 unfold cbOf at h;split at h
 ·rename_i hk;cases h;have:=l2 (.inl hk);exact pr cr c1 zd zd zd zd (ha 0 zo) (ha 1 zo)
 split at h
 ·rename_i hk;cases h;have:=l3 hk;exact⟨this.symm,by show a.length≤3;omega,λw hw=>tri (c1.mono zd zd zd) (cm.mono zd zd zd) (c1.mono zd zd zd) hw,c1.mono zd zd zd,hmem⟩
 split at h
 ·rename_i hk;cases h;have:=l2 (.inr hk);have ho:XL (ofX ⟨3,t,0,0⟩) 1 1 1:=Zeb (by unfold Qt.ok;rw [ZCs];exact .inl ⟨rfl,ht.1,ht.2,rfl,rfl⟩);exact pr ho c1 zd zd zd zd (ha 0 zo) (ha 1 zo)
 split at h
 ·rename_i hk;cases h;have:=l9 hk;have p1:=pA 0 2 3 zo zo zo;have p2:=pA 1 2 3 zo zo zo;exact pr p1 (p1.sub p2) zd zd zd zd (ha 0 zo) (ha 1 zo)
 split at h
 ·rename_i hk;cases h;have:=l7 (.inl hk);exact pr (pP 0 1 2 zo zo zo) (pP 2 1 2 zo zo zo) zd zd zd zd (ha 1 zo) (ha 2 zo)
 split at h
 ·rename_i hk;cases h;have:=l7 (.inr (.inl hk));have p1:=pP 0 1 2 zo zo zo;have p2:=pP 2 1 2 zo zo zo;refine⟨rfl,by show 3≤3;decide,λw hw=>tri ((c2.mul (p2.sub p1)).mono zd zd zd) ((c2.mul p1).mono zd zd zd) ((XL.nil.sub p2).mono zd zd zd) hw,p2.mono zd zd zd,λx hx=>?_⟩;rcases List.mem_cons.1 hx with rfl | hx
  ·exact ha 1 zo
  ·rcases List.mem_cons.1 hx with rfl | hx
   ·exact ha 2 zo
   ·rw [List.mem_singleton.1 hx];exact ha 0 zo
 split at h
 ·rename_i hk;cases h;have:=l7 (.inr (.inr hk));exact pr (c2.mul (pP 2 0 1 zo zo zo)) (pP 1 0 1 zo zo zo) zd zd zd zd (ha 0 zo) (ha 1 zo)
 split at h
 ·rename_i hk;cases h;have:=l11 hk;have w1:=(pP 1 2 1 zo zo zo).mul (pP 1 0 2 zo zo zo);have w2:=(pP 2 0 2 zo zo zo).mul (pP 2 1 0 zo zo zo);have w3:=(pP 0 1 0 zo zo zo).mul (pP 0 2 1 zo zo zo);exact⟨this.symm,by show a.length≤3;omega,λw hw=>tri (w1.mono zd zd zd) (w2.mono zd zd zd) (w3.mono zd zd zd) hw,((w1.add w2).add w3).mono zd zd zd,hmem⟩
 ·cases h
structure Pl where
 k:Int
 q:Int
 r:Int
 mid:Bool
def plOf (n:Qt) (x:Int):Pl :=
 if n.k=1 then (if n.a=x then ⟨n.k,n.b,n.c,false⟩ else if n.b=x then ⟨n.k,n.c,n.a,false⟩ else ⟨n.k,n.a,n.b,false⟩)
 else if n.a=x∧n.c=x then ⟨n.k,n.b,n.b,true⟩
 else if n.b=x then ⟨n.k,n.a,n.c,true⟩
 else if n.a=x then ⟨n.k,n.b,n.c,false⟩
 else ⟨n.k,n.b,n.a,false⟩
def Pl.at (p:Pl) (x:Int):QTs:=if p.k=1 then aX x p.q p.r else if p.mid=true then pX p.q x p.r else pX x p.q p.r
def afS (c:Cb) (p:Pl):Nat→QTs
 | 0=>[]
 | i+1=>Zbf (afS c p i) (mulX (c.ab.getD i []) (p.at (gI c.ps i)))
def prT (c:Cb) (i j:Nat):QTs:=mulX (mulX (c.ab.getD i []) (c.ab.getD j [])) (pX (gI c.ps i) (gI c.ps j) (gI c.ps i))
def in2 (c:Cb) (i:Nat) (acc:QTs):Nat→QTs
 | 0=>acc
 | d+1=>subX (in2 c i acc d) (prT c i (i+1+d))
def out2 (c:Cb) (n:Nat) (acc:QTs):Nat→QTs
 | 0=>acc
 | i+1=>in2 c i (out2 c n acc i) (n - (i+1))
def afN (c:Cb) (p:Pl):QTs:=if p.mid=true then out2 c c.ps.length (mulX c.be (afS c p c.ps.length)) c.ps.length else afS c p c.ps.length
def afD (c:Cb) (p:Pl):QTs:=if p.mid=true then mulX c.be c.be else c.be
structure PlOk (p:Pl) (n:Int):Prop where
 q:0≤p.q∧p.q < n
 r:0≤p.r∧p.r < n
theorem pl_ok {q:Qt} {x n:Int} (ha:0≤q.a∧q.a < n) (hb:0≤q.b∧q.b < n) (hc:0≤q.c∧q.c < n):PlOk (plOf q x) n:=by
 unfold plOf;split
 ·split
  ·exact⟨hb,hc⟩
  ·split
   ·exact⟨hc,ha⟩
   ·exact⟨ha,hb⟩
 ·split
  ·exact⟨hb,hb⟩
  ·split
   ·exact⟨ha,hc⟩
   ·split
    ·exact⟨hb,hc⟩
    ·exact⟨hb,ha⟩
theorem Zmd {c:Cb} {n:Int} (h:CbOk c n) {i:Nat} (hi:i < c.ps.length):XL (c.ab.getD i []) 10 2 4:=by
 rw [Zcj (show i < c.ab.length by rw [h.len];exact hi)];exact h.ab _ (ZB7 _)
theorem Zia {c:Cb} {n:Int} (h:CbOk c n) {i:Nat} (hi:i < c.ps.length):0≤gI c.ps i∧gI c.ps i < n:=by
 rw [Zew hi];exact h.ps _ (ZB7 _)
theorem at_xl {p:Pl} {x n:Int} (h:PlOk p n) (hx:0≤x∧x < n) (hn:n≤40):XL (p.at x) 1 1 1:=by
 have:=h.q;have:=h.r;unfold Pl.at;split
 ·exact Zeb (Zdk (.inl rfl) zo zo zo)
 ·split
  ·exact Zeb (Zdk (.inr rfl) zo zo zo)
  ·exact Zeb (Zdk (.inr rfl) zo zo zo)
theorem Zqu {c:Cb} {p:Pl} {n:Int} (hc:CbOk c n) (hp:PlOk p n) (hn:n≤40):∀i,i≤c.ps.length→XL (afS c p i) (1+12*i) 3 (4*i)
 | 0,_=>XL.nil.mono zo zo zo
 | i+1,hi=>((Zqu hc hp hn i zo).add ((Zmd hc (show i < _ by omega)).mul (at_xl hp (Zia hc zo) hn))).mono zo zo zo
theorem prT_xl {c:Cb} {n:Int} (hc:CbOk c n) (hn:n≤40) {i j:Nat} (hi:i < c.ps.length) (hj:j < c.ps.length):XL (prT c i j) 21 5 16:=by
 have h1:=Zia hc hi;have h2:=Zia hc hj;exact(((Zmd hc hi).mul (Zmd hc hj)).mul (Zeb (Zdk (.inr rfl) zo zo zo))).mono zo zo zo
theorem Zz1 {c:Cb} {n:Int} (hc:CbOk c n) (hn:n≤40) {i:Nat} {acc:QTs} {k l:Nat} (ha:XL acc k 5 l):∀d,i+d < c.ps.length→XL (in2 c i acc d) (k+22*d) 5 (l+16*d)
 | 0,_=>ha.mono zo zo zo
 | d+1,h=>((Zz1 hc hn ha d zo).sub (prT_xl hc hn (show i < _ by omega) (show i+1+d < _ by omega))).mono zo zo zo
theorem Zrx {c:Cb} {n:Int} (hc:CbOk c n) (hn:n≤40) {acc:QTs} {k l:Nat} (ha:XL acc k 5 l):∀i,i≤c.ps.length→XL (out2 c c.ps.length acc i) (k+66*i) 5 (l+48*i)
 | 0,_=>ha.mono zo zo zo
 | i+1,h=>by
   have h3:=hc.few;have h1:=Zz1 hc hn (Zrx hc hn ha i zo) (c.ps.length - (i+1)) (i:=i) zo;exact h1.mono zo (ZBw _) zo
theorem afM_xl {c:Cb} {p:Pl} {n:Int} (hc:CbOk c n) (hp:PlOk p n) (hn:n≤40):XL (mulX c.be (afS c p c.ps.length)) 47 5 48:=by
 have h3:=hc.few;have h1:=hc.be.mul (Zqu hc hp hn c.ps.length (ZBw _));exact h1.mono zo zo zo
theorem afN_xl {c:Cb} {p:Pl} {n:Int} (hc:CbOk c n) (hp:PlOk p n) (hn:n≤40):XL (afN c p) 245 5 192:=by
 have h3:=hc.few;unfold afN;split
 ·exact(Zrx hc hn (afM_xl hc hp hn) c.ps.length (ZBw _)).mono zo (ZBw _) zo
 ·exact(Zqu hc hp hn c.ps.length (ZBw _)).mono zo zo zo
theorem afD_xl {c:Cb} {p:Pl} {n:Int} (hc:CbOk c n):XL (afD c p) 20 4 16:=by
 unfold afD;split
 ·exact(hc.be.mul hc.be).mono zo zo zo
 ·exact hc.be.mono zo zo zo
abbrev hfX (p:QTs):QTs:=mulX (nX (1/2)) p
def tuX (s a b:Int) (p:Pl):QTs :=
 if p.k=1 then Zbf (aX s p.q p.r) (hfX (subX (pX p.r p.q b) (pX p.r p.q a)))
 else if p.mid=true then Zbf (pX p.q s p.r) (subX (pX a b a) (twX (subX (Zbf (aX a b p.q) (aX a b p.r)) (twX (aX a b s)))))
 else Zbf (pX s p.q p.r) (twX (subX (aX a b p.r) (aX a b p.q)))
def tuR (s a b:Int) (p:Pl):QTs :=
 if p.k=1 then Zbf (aX s p.q p.r) (sclT (1/2) (subX (pX p.r p.q b) (pX p.r p.q a)))
 else if p.mid=true then Zbf (subX (pX p.q s p.r) (sclT 2 (subX (Zbf (aX a b p.q) (aX a b p.r)) (sclT 2 (aX a b s))))) (pX a b a)
 else Zbf (pX s p.q p.r) (sclT 2 (subX (aX a b p.r) (aX a b p.q)))
theorem EX.sub {p q:QTs} (hp:EX p) (hq:EX q):EX (subX p q):=Zgl Zbo hp hq.neg
theorem EX.add {p q:QTs} (hp:EX p) (hq:EX q):EX (Zbf p q):=Zgl Zbo hp hq
theorem EX.scl {p:QTs} (hp:EX p) {c:Rat} (h0:c≠0):EX (sclT c p):=by
 refine⟨λt ht=>?_,List.pairwise_map.2 hp.2⟩;obtain⟨u,hu,rfl⟩:=List.mem_map.1 ht;exact⟨λh1=>(Rat.mul_eq_zero.1 h1).elim h0 (hp.1 u hu).1,(hp.1 u hu).2⟩
theorem sz_half:Sz (1/2:Rat) 1:=⟨by decide +kernel,by decide +kernel⟩
theorem tu_xl {s a b n:Int} {p:Pl} (hp:PlOk p n) (hn:n≤40) (hs:0≤s∧s < n) (ha:0≤a∧a < n) (hb:0≤b∧b < n):XL (tuX s a b p) 16 1 8:=by
 have hq:=hp.q;have hr:=hp.r;have eA:∀x y z:Int,(0≤x∧x < n)→(0≤y∧y < n)→(0≤z∧z < n)→XL (aX x y z) 1 1 1:=λx y z h1 h2 h3=>Zeb (Zdk (.inl rfl) zo zo zo);have eP:∀x y z:Int,(0≤x∧x < n)→(0≤y∧y < n)→(0≤z∧z < n)→XL (pX x y z) 1 1 1:=λx y z h1 h2 h3=>Zeb (Zdk (.inr rfl) zo zo zo);have c2:XL (nX 2) 2 0 1:=Zf7 Zo4;have ch:XL (nX (1/2)) 2 0 1:=Zf7 sz_half;unfold tuX;split
 ·exact((eA _ _ _ hs hq hr).add (ch.mul ((eP _ _ _ hr hq hb).sub (eP _ _ _ hr hq ha)))).mono zd zd zd
 ·split
  ·exact((eP _ _ _ hq hs hr).add ((eP _ _ _ ha hb ha).sub (c2.mul (((eA _ _ _ ha hb hq).add (eA _ _ _ ha hb hr)).sub (c2.mul (eA _ _ _ ha hb hs)))))).mono zd zd zd
  ·exact((eP _ _ _ hs hq hr).add (c2.mul ((eA _ _ _ ha hb hr).sub (eA _ _ _ ha hb hq)))).mono zd zd zd
section
variable {α:Type} {cmp:α→α→Int}
theorem Zzl (o:CO cmp) (x:α):∀{l m:List α},Asc cmp l→Asc cmp m→l.length=m.length→lexL cmp l m < 0→lexL cmp (putQ cmp l x) (putQ cmp m x) < 0
 | [],[],_,_,_,h=>by exact absurd h (by simp [lexL])
 | [],_ :: _,_,_,h,_=>by simp at h
 | _ :: _,[],_,_,h,_=>by simp at h
 | a :: l,b :: m,hl,hm,hlen,h=>by
   rw [Zb8] at h;have fl:∀y z,¬cmp y z≤0→cmp z y < 0:=λy z h=>(o.flip z y).2 zo;by_cases hab:cmp a b=0
   ·rw [ZBv hab] at h;obtain rfl:=o.eqz _ _ hab;have ih:=Zzl o x (List.pairwise_cons.1 hl).2 (List.pairwise_cons.1 hm).2 (by simpa using hlen) h;unfold putQ;by_cases hx:cmp a x≤0
    ·rw [ZBv hx,ZBv hx,Zb8,ZBv (o.refl a)];exact ih
    ·rw [ZBu hx,ZBu hx,Zb8,ZBv (o.refl x),Zb8,ZBv (o.refl a)];exact h
   ·rw [ZBu hab] at h;have hal:∀c∈l,cmp a c≤0:=(List.pairwise_cons.1 hl).1;unfold putQ;by_cases hx:cmp a x≤0
    ·rw [ZBv hx];by_cases hy:cmp b x≤0
     ·rw [ZBv hy,Zb8,ZBu hab];exact h
     ·rw [ZBu hy,Zb8];have hxb:=fl _ _ hy;by_cases hax:cmp a x=0
      ·rw [ZBv hax];obtain rfl:=o.eqz _ _ hax
       cases l with
       | nil =>
         show lexL cmp [a] (b :: m) < 0;rw [Zb8,ZBu hab];exact h
       | cons c l =>
         unfold putQ;by_cases hc:cmp c a≤0
         ·rw [ZBv hc,Zb8];have h1:=hal c (.head _)
          have h2:cmp a c=0:=by
           rcases Int.lt_or_eq_of_le h1 with h3 | h3
           ·have:=(o.flip a c).1 h3;omega
           ·exact h3
          obtain rfl:=o.eqz _ _ h2;rw [ZBu hab];exact h
         ·rw [ZBu hc,Zb8,ZBu hab];exact h
      ·rw [ZBu hax];omega
    ·rw [ZBu hx];have hxa:=fl _ _ hx;have hxb:=o.tr _ _ _ hxa h;have hb:¬cmp b x≤0:=by have:=(o.flip x b).1 hxb;omega
     rw [ZBu hb,Zb8,ZBv (o.refl x),Zb8,ZBu hab];exact h
theorem Ztx (x:α) (l:List α):(putQ cmp l x).length=l.length+1:=(Zfy x l).length_eq
theorem ord_put (o:CO cmp) (x:α) {l m:List α} (hl:Asc cmp l) (hm:Asc cmp m) (h:ordL cmp l m < 0):ordL cmp (putQ cmp l x) (putQ cmp m x) < 0:=by
 unfold ordL at *;rw [Ztx,Ztx];by_cases h1:l.length < m.length
 ·rw [ZBv zo];decide
 ·rw [ZBu h1] at h;by_cases h2:m.length < l.length
  ·rw [ZBv h2] at h;exact absurd h zd
  ·rw [ZBu h2] at h;rw [ZBu zo,ZBu zo];exact Zzl o x hl hm zo h
end
theorem mu_put (a c:List Qt) (x:Qt):muQ a (x :: c)=putQ Qt.cmp (muQ a c) x :=
 Zft qtO (Zb6 qtO.cp _) (Zkg qtO.cp x (Zb6 qtO.cp _)) ((Za2 _).trans ((List.perm_middle).trans (((Za2 (a++c)).symm.cons x).trans (Zfy x _).symm)))
theorem mu_nil {a:List Qt} (h:Asc Qt.cmp a):muQ a []=a:=Zft qtO (Zb6 qtO.cp _) h (by show(srtQ Qt.cmp (a++[])).Perm a;rw [ZDf];exact Za2 _)
theorem mu_lt {a b:List Qt} (ha:Asc Qt.cmp a) (hb:Asc Qt.cmp b) (h:ordQ a b < 0):∀c,ordQ (muQ a c) (muQ b c) < 0
 | []=>by rw [mu_nil ha,mu_nil hb];exact h
 | x :: c=>by
   rw [mu_put,mu_put];exact ord_put qtO x (Zb6 qtO.cp _) (Zb6 qtO.cp _) (mu_lt ha hb h c)
theorem Zkm {κ:Type} {f:κ→Rat}:∀{l:List (Rat × κ)},(∀t∈l,f t.2=0)→evl f l=0
 | [],_=>rfl
 | t :: l,h=>by
   show t.1*f t.2+evl f l=0;rw [h t (.head _),Zkm λu hu=>h u (.tail _ hu),ZGd,ZD5]
theorem mul_ne {p q:QTs} (hp:EX p) (hq:EX q) (h1:p≠[]) (h2:q≠[]):mulX p q≠[]:=by
 cases p with
 | nil=>exact absurd rfl h1
 | cons s p =>
   cases q with
   | nil=>exact absurd rfl h2
   | cons t q =>
     have dp:=hp.dom;have dq:=hq.dom;have op:∀u∈p,ordQ s.2 u.2 < 0:=(List.pairwise_cons.1 hp.2).1;have oq:∀u∈q,ordQ t.2 u.2 < 0:=(List.pairwise_cons.1 hq.2).1;intro h0;have ne:∀{a b:List Qt},ordQ a b < 0→b≠a:=λh e=>by rw [e,Zbo.refl] at h;omega
     have k1:∀u∈q,muQ s.2 u.2≠muQ s.2 t.2:=λu hu=>by
      rw [rgQ.comm s.2,rgQ.comm s.2];exact ne (mu_lt (dq t (.head _)).1 (dq u (.tail _ hu)).1 (oq u hu) s.2)
     have k2:∀u∈p,∀v∈t :: q,muQ u.2 v.2≠muQ s.2 t.2:=λu hu v hv=>by
      have a1:=mu_lt (dp s (.head _)).1 (dp u (.tail _ hu)).1 (op u hu) v.2;rcases List.mem_cons.1 hv with rfl | hv
      ·exact ne a1
      ·have a2:=mu_lt (dq t (.head _)).1 (dq v (.tail _ hv)).1 (oq v hv) s.2;rw [rgQ.comm t.2,rgQ.comm v.2] at a2;exact ne (Zbo.tr _ _ _ a2 a1)
     have e:=Zfs Zbo (λk:List Qt=>if k=muQ s.2 t.2 then (1:Rat) else 0) (s :: p) (t :: q) (mu:=muQ);have e0:mlG ordQ muQ (s :: p) (t :: q)=[]:=h0;rw [e0] at e
     have e1:evl (λk'=>if muQ s.2 k'=muQ s.2 t.2 then (1:Rat) else 0) (t :: q)=t.1:=by
      show t.1*(if muQ s.2 t.2=muQ s.2 t.2 then (1:Rat) else 0)+_=_;rw [ZBv rfl,Zkm λu hu=>ZBu (k1 u hu),ZGc,ZD5]
     have e2:evl (λk=>evl (λk'=>if muQ k k'=muQ s.2 t.2 then (1:Rat) else 0) (t :: q)) p=0:=Zkm λu hu=>Zkm λv hv=>ZBu (k2 u hu v hv);have e3:(0:Rat)=s.1*evl (λk'=>if muQ s.2 k'=muQ s.2 t.2 then (1:Rat) else 0) (t :: q)+evl (λk=>evl (λk'=>if muQ k k'=muQ s.2 t.2 then (1:Rat) else 0) (t :: q)) p:=e;rw [e1,e2,ZD5] at e3;rcases Rat.mul_eq_zero.1 e3.symm with h | h
     ·exact(hp.1 s (.head _)).1 h
     ·exact(hq.1 t (.head _)).1 h
abbrev noP (x:Int) (q:Qt):Prop:=hasQ x q=false
theorem Zqb {q:Qt} {x:Int} (h:hasQ x q=true):q.ok=true∧q.k≠3∧(x=q.a∨x=q.b∨x=q.c):=by
 unfold hasQ Qt.pts at h;split at h
 ·rename_i hk;obtain⟨y,hy,hxy⟩:=List.any_eq_true.1 h;obtain⟨n,hn,rfl⟩:=List.mem_map.1 hy;have hp:=(List.mem_filter.1 hn).2;have hxy:x=(n:Int):=by simpa using hxy
  unfold isP at hp;simp at hp;exact⟨hk.1,hk.2,zo⟩
 ·simp at h
theorem Zuq {q:Qt} {x:Int} (hok:q.ok=true) (hk:q.k≠3) (h:x=q.a∨x=q.b∨x=q.c):hasQ x q=true:=by
 have hr:0≤x∧x < 40:=by
  unfold Qt.ok at hok;simp at hok;omega
 unfold hasQ Qt.pts;rw [ZBv ⟨hok,hk⟩];refine List.any_eq_true.2 ⟨x,List.mem_map.2 ⟨x.toNat,List.mem_filter.2 ⟨List.mem_range.2 zo,?_⟩,zo⟩,by simp⟩;unfold isP;simp;omega
theorem Zkh {q:Qt} {x:Int} (hs:q.norm.2≠0) (h:hasQ x q.norm.1=true):x=q.a∨x=q.b∨x=q.c:=by
 obtain⟨_,_,h⟩:=Zqb h;obtain⟨k,a,b,c⟩:=q;unfold Qt.norm at h hs;simp only at h hs ⊢;split at h
 ·rename_i hk;rw [ZBv hk] at hs;split at h
  ·rename_i h1;rw [ZBv h1] at hs;unfold Zek at h hs;split at h
   ·rename_i h2;rw [ZBv h2] at hs;exact absurd rfl hs
   ·(repeat' split at h)<;>simp only at h<;>omega
  ·rename_i h1;rw [ZBu h1] at hs;split at h
   ·rename_i h3;rw [ZBv h3] at hs;unfold Zfp at h hs;split at h
    ·rename_i h2;rw [ZBv h2] at hs;exact absurd rfl hs
    ·(repeat' split at h)<;>simp only at h<;>omega
   ·exact h
 ·rename_i hk;rw [ZBu hk] at hs;exact absurd rfl hs
theorem of_no {q:Qt} {x:Int} (h:q.k=3∨(x≠q.a∧x≠q.b∧x≠q.c)):alQ (noP x) (ofX q):=by
 unfold ofX;split
 ·exact λt ht=>by cases ht
 ·rename_i hs;intro t ht r hr;rw [List.mem_singleton.1 ht] at hr;rw [List.mem_singleton.1 hr]
  cases hh:hasQ x q.norm.1 with
  | false=>exact hh
  | true =>
    exfalso;rcases h with h3 | ⟨h1,h2,h3⟩
    ·obtain⟨h4,h5,_⟩:=Zqb hh;obtain⟨k,a,b,c⟩:=q;simp only at h3;subst h3;unfold Qt.norm at h5 hs;split at h5
     ·exact h5 rfl
     ·rename_i hk;rw [ZBu hk] at hs;exact hs rfl
    ·rcases Zkh hs hh with h4 | h4 | h4
     ·exact h1 h4
     ·exact h2 h4
     ·exact h3 h4
theorem a_no {x a b c:Int} (h1:x≠a) (h2:x≠b) (h3:x≠c):alQ (noP x) (aX a b c):=of_no (.inr ⟨h1,h2,h3⟩)
theorem p_no {x a b c:Int} (h1:x≠a) (h2:x≠b) (h3:x≠c):alQ (noP x) (pX a b c):=of_no (.inr ⟨h1,h2,h3⟩)
theorem alQ.sub {C:Qt→Prop} {p q:QTs} (hp:alQ C p) (hq:alQ C q):alQ C (subX p q):=hp.join (hq.scl _)
theorem alQ.emp {C:Qt→Prop}:alQ C []:=λt ht=>by cases ht
theorem cb_no {k t:Int} {a:List Int} {r:Rat} {x:Int} {c:Cb} (h:cbOf k a r t=some c) (ha:∀i,i < a.length→x≠gI a i) (h0:x≠0∨4≤a.length)
 (hl:(k=3→a.length=3)∧(k=11→a.length=3)∧(k=2∨k=5→2≤a.length)∧(k=7∨k=8∨k=10→3≤a.length)∧(k=9→4≤a.length)) :
 (∀w∈c.ab,alQ (noP x) w)∧alQ (noP x) c.be∧∀y∈c.ps,x≠y:=by
 obtain⟨l3,l11,l2,l7,l9⟩:=hl;have hmem:∀y∈a,x≠y:=λy hy=>by
  obtain⟨i,hi,rfl⟩:=List.getElem_of_mem hy;have:=ha i hi
  rwa [Zew hi] at this
 have nn:∀u:Rat,alQ (noP x) (nX u):=λu=>ZA0 u
 have pr:∀{y z:Int} {p b:QTs},alQ (noP x) p→alQ (noP x) b→x≠y→x≠z→(∀w∈(prC y z p b).ab,alQ (noP x) w)∧alQ (noP x) (prC y z p b).be∧∀y'∈(prC y z p b).ps,x≠y':=by
  intro y z p b hp hb hy hz;refine⟨λw hw=>?_,hb,λv hv=>?_⟩
  ·rcases List.mem_cons.1 hw with rfl | hw
   ·exact hb.sub hp
   ·rw [List.mem_singleton.1 hw];exact hp
  ·rcases List.mem_cons.1 hv with rfl | hv
   ·exact hy
   ·rw [List.mem_singleton.1 hv];exact hz
 have tri:∀{u v z:QTs} {w:QTs},alQ (noP x) u→alQ (noP x) v→alQ (noP x) z→w∈[u,v,z]→alQ (noP x) w:=by
  intro u v z w hx hy hz hw;rcases List.mem_cons.1 hw with rfl | hw
  ·exact hx
  ·rcases List.mem_cons.1 hw with rfl | hw
   ·exact hy
   ·rw [List.mem_singleton.1 hw];exact hz
 unfold cbOf at h;split at h
 ·rename_i hk;cases h;have:=l2 (.inl hk);exact pr (nn _) (nn _) (ha 0 zo) (ha 1 zo)
 split at h
 ·rename_i hk;cases h;exact⟨λw hw=>tri (nn 1) (nn (-1)) (nn 1) hw,nn 1,hmem⟩
 split at h
 ·rename_i hk;cases h;have:=l2 (.inr hk);exact pr (of_no (.inl rfl)) (nn _) (ha 0 zo) (ha 1 zo)
 split at h
 ·rename_i hk;cases h;have:=l9 hk;have p1:=a_no (ha 0 zo) (ha 2 zo) (ha 3 zo);have p2:=a_no (ha 1 zo) (ha 2 zo) (ha 3 zo);exact pr p1 (p1.sub p2) (ha 0 zo) (ha 1 zo)
 split at h
 ·rename_i hk;cases h;have:=l7 (.inl hk);exact pr (p_no (ha 0 zo) (ha 1 zo) (ha 2 zo)) (p_no (ha 2 zo) (ha 1 zo) (ha 2 zo)) (ha 1 zo) (ha 2 zo)
 split at h
 ·rename_i hk;cases h;have:=l7 (.inr (.inl hk));have p1:=p_no (ha 0 zo) (ha 1 zo) (ha 2 zo);have p2:=p_no (ha 2 zo) (ha 1 zo) (ha 2 zo);refine⟨λw hw=>tri ((nn _).mul (p2.sub p1)) ((nn _).mul p1) (alQ.emp.sub p2) hw,p2,λy hy=>?_⟩;rcases List.mem_cons.1 hy with rfl | hy
  ·exact ha 1 zo
  ·rcases List.mem_cons.1 hy with rfl | hy
   ·exact ha 2 zo
   ·rw [List.mem_singleton.1 hy];exact ha 0 zo
 split at h
 ·rename_i hk;cases h;have:=l7 (.inr (.inr hk));exact pr ((nn _).mul (p_no (ha 2 zo) (ha 0 zo) (ha 1 zo))) (p_no (ha 1 zo) (ha 0 zo) (ha 1 zo)) (ha 0 zo) (ha 1 zo)
 split at h
 ·rename_i hk;cases h;have:=l11 hk;have g0:=ha 0 zo;have g1:=ha 1 zo;have g2:=ha 2 zo;have w1:=(p_no g1 g2 g1).mul (p_no g1 g0 g2);have w2:=(p_no g2 g0 g2).mul (p_no g2 g1 g0);have w3:=(p_no g0 g1 g0).mul (p_no g0 g2 g1);exact⟨λw hw=>tri w1 w2 w3 hw,(w1.join w2).join w3,hmem⟩
 ·cases h
theorem pl_no {n:Qt} {x:Int} (hn:n.norm=(n,1)) (hx:hasQ x n=true):x≠(plOf n x).q∧x≠(plOf n x).r∧(plOf n x).k=n.k:=by
 obtain⟨_,hk,hx⟩:=Zqb hx;have hok:=Zr2 hn;obtain⟨k,a,b,c⟩:=n;simp only at hk hx
 have h1:k=1∨k=2:=by
  unfold Qt.ok at hok;simp at hok;omega
 unfold Qt.norm at hn;rw [ZBv hok] at hn;simp only at hn;unfold plOf;simp only;rcases h1 with rfl | rfl
 ·rw [ZBv rfl] at hn
  have h3:a≠b∧b≠c∧a≠c:=by
   unfold Zek at hn;split at hn
   ·simp [Qt.zero] at hn
   ·omega
  rw [ZBv rfl];split
  ·exact⟨by show x≠b;omega,by show x≠c;omega,rfl⟩
  ·split
   ·exact⟨by show x≠c;omega,by show x≠a;omega,rfl⟩
   ·exact⟨by show x≠a;omega,by show x≠b;omega,rfl⟩
 ·rw [ZBu zd,ZBv rfl] at hn
  have h3:a≠b∧b≠c:=by
   unfold Zfp at hn;split at hn
   ·simp [Qt.zero] at hn
   ·omega
  rw [ZBu zd];split
  ·exact⟨by show x≠b;omega,by show x≠b;omega,rfl⟩
  ·split
   ·exact⟨by show x≠a;omega,by show x≠c;omega,rfl⟩
   ·split
    ·exact⟨by show x≠b;omega,by show x≠c;omega,rfl⟩
    ·exact⟨by show x≠b;omega,by show x≠a;omega,rfl⟩
theorem at_no {p:Pl} {x y:Int} (h1:x≠p.q) (h2:x≠p.r) (h3:x≠y):alQ (noP x) (p.at y):=by
 unfold Pl.at;split
 ·exact a_no h3 h1 h2
 ·split
  ·exact p_no h1 h3 h2
  ·exact p_no h3 h1 h2
section
variable {c:Cb} {p:Pl} {x:Int}
theorem ab_no (ha:∀w∈c.ab,alQ (noP x) w) (i:Nat):alQ (noP x) (c.ab.getD i []):=by
 by_cases h:i < c.ab.length
 ·rw [Zcj h];exact ha _ (ZB7 h)
 ·rw [ZCb,ZDh zo];exact alQ.emp
theorem ZBi (ha:∀w∈c.ab,alQ (noP x) w) (hp:∀y∈c.ps,x≠y) (h1:x≠p.q) (h2:x≠p.r):∀i,i≤c.ps.length→alQ (noP x) (afS c p i)
 | 0,_=>alQ.emp
 | i+1,hi=>(ZBi ha hp h1 h2 i zo).join ((ab_no ha i).mul (at_no h1 h2 (by rw [Zew (show i < c.ps.length by omega)];exact hp _ (ZB7 _))))
theorem prT_no (ha:∀w∈c.ab,alQ (noP x) w) (hp:∀y∈c.ps,x≠y) {i j:Nat} (hi:i < c.ps.length) (hj:j < c.ps.length):alQ (noP x) (prT c i j):=by
 have g:∀{i:Nat},i < c.ps.length→x≠gI c.ps i:=λh=>by rw [Zew h];exact hp _ (ZB7 _)
 exact((ab_no ha i).mul (ab_no ha j)).mul (p_no (g hi) (g hj) (g hi))
theorem in2_no (ha:∀w∈c.ab,alQ (noP x) w) (hp:∀y∈c.ps,x≠y) {i:Nat} {acc:QTs} (hc:alQ (noP x) acc):∀d,i+d < c.ps.length→alQ (noP x) (in2 c i acc d)
 | 0,_=>hc
 | d+1,h=>(in2_no ha hp hc d zo).sub (prT_no ha hp zo zo)
theorem Zys (ha:∀w∈c.ab,alQ (noP x) w) (hp:∀y∈c.ps,x≠y) {acc:QTs} (hc:alQ (noP x) acc):∀i,i≤c.ps.length→alQ (noP x) (out2 c c.ps.length acc i)
 | 0,_=>hc
 | i+1,h=>in2_no ha hp (Zys ha hp hc i zo) _ zo
theorem afN_no (ha:∀w∈c.ab,alQ (noP x) w) (hb:alQ (noP x) c.be) (hp:∀y∈c.ps,x≠y) (h1:x≠p.q) (h2:x≠p.r):alQ (noP x) (afN c p):=by
 unfold afN;split
 ·exact Zys ha hp (hb.mul (ZBi ha hp h1 h2 _ (ZBw _))) _ (ZBw _)
 ·exact ZBi ha hp h1 h2 _ (ZBw _)
theorem afD_no (hb:alQ (noP x) c.be):alQ (noP x) (afD c p):=by
 unfold afD;split
 ·exact hb.mul hb
 ·exact hb
theorem afD_ne (he:EX c.be) (h0:c.be≠[]):afD c p≠[]:=by
 unfold afD;split
 ·exact mul_ne he he h0 h0
 ·exact h0
theorem tu_no {s a b:Int} (h1:x≠p.q) (h2:x≠p.r) (hs:x≠s) (ha:x≠a) (hb:x≠b):alQ (noP x) (tuX s a b p):=by
 have nn:∀u:Rat,alQ (noP x) (nX u):=λu=>ZA0 u;unfold tuX;split
 ·exact(a_no hs h1 h2).join ((nn _).mul ((p_no h2 h1 hb).sub (p_no h2 h1 ha)))
 ·split
  ·exact(p_no h1 hs h2).join ((p_no ha hb ha).sub ((nn _).mul (((a_no ha hb h1).join (a_no ha hb h2)).sub ((nn _).mul (a_no ha hb hs)))))
  ·exact(p_no hs h1 h2).join ((nn _).mul ((a_no ha hb h2).sub (a_no ha hb h1)))
end
theorem Zgb {α:Type} {P:List α→Prop} (h0:P []) (h1:∀l a,P l→P (l++[a])):∀l,P l:=λl=>by
 have h:∀l:List α,P l.reverse:=λl=>by
  induction l with
  | nil=>exact h0
  | cons a l ih=>rw [List.reverse_cons];exact h1 _ _ ih
 have g:=h l.reverse
 rwa [List.reverse_reverse] at g
theorem Zq1 {q:Qt} {l:List Qt}:tmQ q l=0↔q ∉ l:=by
 unfold tmQ;rw [List.length_eq_zero_iff,List.filter_eq_nil_iff];constructor
 ·intro h hq;exact h q hq zs
 ·intro h x hx hd;have:x=q:=by simpa using hd
  exact h (this ▸ hx)
def hvS (x:Int) (s:List Qt × List Qt) (q:Qt):List Qt × List Qt:=(s.1++[q],if tmQ q s.1=0∧hasQ x q=true then s.2++[q] else s.2)
def hvP (x:Int) (l:List Qt):List Qt:=(l.foldl (hvS x) ([],[])).2
def hvR (x:Int) (o:List Qt) (q:Qt):List Qt:=if hasQ x q=true∧tmQ q o=0 then putQ Qt.cmp o q else o
def hvL (x:Int) (l:List Qt):List Qt:=l.foldl (hvR x) []
theorem Zz3 (x:Int):∀(l:List Qt) (s:List Qt × List Qt),(l.foldl (hvS x) s).1=s.1++l
 | [],s=>(ZDf _).symm
 | q :: l,s=>by rw [ZGt,Zz3 x l];show(s.1++[q])++l=_;rw [ZDd];rfl
theorem Zi2 (x:Int) (l:List Qt) (q:Qt):hvP x (l++[q])=if tmQ q l=0∧hasQ x q=true then hvP x l++[q] else hvP x l:=by
 unfold hvP;rw [ZGe];show(hvS x (l.foldl (hvS x) ([],[])) q).2=_;unfold hvS;simp only;have h:=Zz3 x l ([],[]);rw [ZGg] at h;unfold hvS at h;rw [h]
theorem Zup (x:Int) (l:List Qt) (q:Qt):hvL x (l++[q])=hvR x (hvL x l) q:=by
 unfold hvL;rw [ZGe];rfl
theorem Zzg {x:Int} {q:Qt}:∀l,q∈hvP x l↔q∈l∧hasQ x q=true:=by
 refine Zgb ?_ λl a ih=>?_
 ·show q∈([]:List Qt)↔_;simp
 ·rw [Zi2,ZE7,ZFh];split
  ·rename_i h;rw [ZE7,ZFh,ih];constructor
   ·rintro (⟨h1,h2⟩ | h1)
    ·exact⟨.inl h1,h2⟩
    ·exact⟨.inr h1,h1 ▸ h.2⟩
   ·rintro ⟨h1 | h1,h2⟩
    ·exact .inl ⟨h1,h2⟩
    ·exact .inr h1
  ·rename_i h;rw [ih];constructor
   ·rintro ⟨h1,h2⟩;exact⟨.inl h1,h2⟩
   ·rintro ⟨h1 | h1,h2⟩
    ·exact⟨h1,h2⟩
    ·subst h1;refine⟨Classical.byContradiction λh3=>h ⟨Zq1.2 h3,h2⟩,h2⟩
theorem Zsk {x:Int}:∀l,(hvP x l).Perm (hvL x l):=by
 refine Zgb (List.Perm.refl _) λl a ih=>?_;rw [Zi2,Zup];unfold hvR
 have e:tmQ a l=0∧hasQ x a=true↔hasQ x a=true∧tmQ a (hvL x l)=0:=by
  rw [Zq1,Zq1,←ih.mem_iff,Zzg];constructor
  ·rintro ⟨h1,h2⟩;exact⟨h2,λh=>h1 h.1⟩
  ·rintro ⟨h1,h2⟩;exact⟨λh=>h2 ⟨h,h1⟩,h1⟩
 by_cases h:tmQ a l=0∧hasQ x a=true
 ·rw [ZBv h,ZBv (e.1 h)];exact((ih.append_right _).trans List.perm_append_comm).trans (Zfy a _).symm
 ·rw [ZBu h,ZBu λg=>h (e.2 g)];exact ih
theorem hvL_asc {x:Int}:∀l,Asc Qt.cmp (hvL x l):=by
 refine Zgb List.Pairwise.nil λl a ih=>?_;rw [Zup];unfold hvR;split
 ·exact Zkg qtO.cp a ih
 ·exact ih
theorem hv_eq (x:Int) (l:List Qt):srtQ Qt.cmp (hvP x l)=hvL x l:=Zft qtO (Zb6 qtO.cp _) (hvL_asc l) ((Za2 _).trans (Zsk l))
theorem Zsd {x:Int} {q:Qt} {l:List Qt}:q∈hvL x l↔q∈l∧hasQ x q=true:=by rw [←(Zsk l).mem_iff,Zzg]
theorem Zsl (x:Int):∀l,(hvP x l).length≤l.length:=by
 refine Zgb (ZBw _) λl a ih=>?_;rw [Zi2,ZCr];split
 ·rw [ZCr];exact Nat.add_le_add_right ih _
 ·omega
theorem Zz4 (x:Int) (l:List Qt):(hvL x l).length≤l.length:=by rw [←(Zsk l).length_eq];exact Zsl x l
def flQ (p:QTs):List Qt:=p.flatMap λt=>t.2
theorem Zn0 {p:QTs} {q:Qt}:q∈flQ p↔∃t∈p,q∈t.2:=List.mem_flatMap
def rsX (p q:QTs):Nat→QTs
 | 0=>p
 | n+1=>mulX (rsX p q n) q
theorem rs_pw {p q:QTs} (hp:EX p) (hq:EX q):∀n,rsX p q n=mulX p (pwX q n)
 | 0=>(Zzd rgQ hp).symm
 | n+1=>by
   show mulX (rsX p q n) q=mulX p (mulX (pwX q n) q);rw [rs_pw hp hq n];exact Ziu rgQ hp (Zh9 rgQ hq n) hq
abbrev XX:=QTs × QTs
def elS (q:Qt) (b x:XX):XX:=(mulX (rpN q x.1 b.1 b.2) (pwX b.2 (moQ q x.2 - moQ q x.1)),mulX (rpN q x.2 b.1 b.2) (pwX b.2 (moQ q x.1 - moQ q x.2)))
def elF (lem:Qt→Int × XX):List Qt→XX→Int × XX
 | [],x=>(0,x)
 | q :: l,x =>
   if (lem q).1≠0 then ((lem q).1,([],[]))
   else if 4000 < (elS q (lem q).2 x).1.length∨4000 < (elS q (lem q).2 x).2.length then (4,([],[]))
   else elF lem l (elS q (lem q).2 x)
def elT (r:Int × XX):Int × XX :=
 if r.1≠0 then (r.1,([],[]))
 else if r.2.2=[] then (3,([],[]))
 else if r.2.1=[] then (0,([],[((1:Rat),[])]))
 else (0,r.2)
def cntX (x:Int) (c:Nat) (p:QTs):Prop:=∀t∈p,(t.2.filter λq=>hasQ x q).length≤c
section
variable {x:Int} {c d:Nat} {p q:QTs}
theorem cntX.mono (h:cntX x c p) (hc:c≤d):cntX x d p:=λt ht=>ZB1 (h t ht) hc
theorem cntX.join (hp:cntX x c p) (hq:cntX x c q):cntX x c (Zbf p q):=λt ht=>by
 obtain⟨s,hs,e⟩:=Ziv ht;rw [e];rcases List.mem_append.1 hs with h | h
 ·exact hp s h
 ·exact hq s h
theorem cntX.gat {l:QTs} (h:cntX x c l):cntX x c (gatM l):=by
 rw [←Zr8];intro t ht;exact Zjp (P:=λy=>(y.filter λq=>hasQ x q).length≤c) l [] (λt ht=>by cases ht) h t (List.mem_filter.1 ((Za2 _).mem_iff.1 ht)).1
theorem cntX.mul (hp:cntX x c p) (hq:cntX x d q):cntX x (c+d) (mulX p q):=cntX.gat λu hu=>by
 obtain⟨s,hs,t,ht,rfl⟩:=Zfz hu;show((muQ s.2 t.2).filter _).length≤_;rw [((Za2 (cmp:=Qt.cmp) (s.2++t.2)).filter _).length_eq,ZEz,ZCr];exact ZC8 (hp s hs) (hq t ht)
theorem cntX.part {a:QTs} (h:cntX x c a) (q:Qt) (k:Nat):cntX x c (paQ q a k):=cntX.gat λu hu=>by
 obtain⟨t,ht,rfl⟩:=Zj0 hu;refine ZB1 ?_ (h t ht);show((woQ q t.2).filter _).length≤_;exact((List.filter_sublist (p:=λx=>decide (x≠q)) (l:=t.2)).filter _).length_le
theorem Zu2 (h:alQ (noP x) p):cntX x 0 p:=λt ht=>by
 rw [List.filter_eq_nil_iff.2 λq hq=>by rw [h t ht q hq];decide];exact ZBw _
theorem cntX.rf {P:Nat→QTs} {a d:QTs} (hP:∀k,cntX x c (P k)) (ha:alQ (noP x) a) (hd:alQ (noP x) d) (m:Nat):∀i,cntX x c (rfX P a d m i)
 | 0=>λt ht=>by cases ht
 | i+1=>(cntX.rf hP ha hd m i).join (((hP i).mul (Zu2 (ha.pw i))).mul (Zu2 (hd.pw (m - i))))
theorem tm_cnt {q:Qt} (hq:hasQ x q=true) (l:List Qt):tmQ q l≤(l.filter λq=>hasQ x q).length:=by
 unfold tmQ
 induction l with
 | nil=>exact ZBw _
 | cons a l ih =>
   by_cases h:a=q
   ·subst h;rw [ZFe zs,ZFe (by simpa using hq),ZCd,ZCd];omega
   ·rw [ZFd (by simpa using h),ZFc];split
    ·rw [ZCd];omega
    ·exact ih
theorem mo_cnt {q:Qt} (hq:hasQ x q=true) {a:QTs} (h:cntX x c a):moQ q a≤c:=by
 have key:∀(a:QTs) (n:Nat),n≤c→(∀t∈a,tmQ q t.2≤c)→a.foldl (λn t=>max n (tmQ q t.2)) n≤c:=by
  intro a
  induction a with
  | nil=>intro n hn _;exact hn
  | cons t a ih=>intro n hn h;exact ih _ (Nat.max_le.2 ⟨hn,h t (.head _)⟩) λu hu=>h u (.tail _ hu)
 exact key a 0 (ZB5 _) λt ht=>ZB1 (tm_cnt hq t.2) (h t ht)
end
theorem Zyp {C:Qt→Prop} {a:QTs} (h:alQ C a) (q:Qt) (k:Nat):alQ (λu=>C u∧u≠q) (paQ q a k):=alQ.gat λu hu x hx=>by
 obtain⟨t,ht,rfl⟩:=Zj0 hu;have g:=List.mem_filter.1 hx;exact⟨h t ht x g.1,by simpa using g.2⟩
theorem alQ.imp {C D:Qt→Prop} {p:QTs} (h:alQ C p) (g:∀q,C q→D q):alQ D p:=λt ht q hq=>g q (h t ht q hq)
theorem el_al {C:Qt→Prop} {x:Int} {q:Qt} {b y:XX} (h1:alQ C y.1) (h2:alQ C y.2) (hb:alQ (noP x) b.1) (hd:alQ (noP x) b.2) :
 alQ (λu=>C u∧u≠q∨noP x u) (elS q b y).1∧alQ (λu=>C u∧u≠q∨noP x u) (elS q b y).2:=by
 have g1:=hb.imp (D:=λu=>C u∧u≠q∨noP x u) λu h=>.inr h;have g2:=hd.imp (D:=λu=>C u∧u≠q∨noP x u) λu h=>.inr h;exact⟨(alQ.rf (λk=>(Zyp h1 q k).imp λu h=>.inl h) g1 g2 _ _).mul (g2.pw _),(alQ.rf (λk=>(Zyp h2 q k).imp λu h=>.inl h) g1 g2 _ _).mul (g2.pw _)⟩
theorem el_cnt {c:Nat} {x:Int} {q:Qt} {b y:XX} (h1:cntX x c y.1) (h2:cntX x c y.2) (hb:alQ (noP x) b.1) (hd:alQ (noP x) b.2):cntX x c (elS q b y).1∧cntX x c (elS q b y).2 :=
 ⟨(cntX.rf (λk=>h1.part q k) hb hd _ _).mul (Zu2 (hd.pw _)),(cntX.rf (λk=>h2.part q k) hb hd _ _).mul (Zu2 (hd.pw _))⟩
theorem el_xb {x:Int} {q:Qt} {b y:XX} {k n kb nb:Nat} (h1:XB y.1 k n) (h2:XB y.2 k n) (hb:XB b.1 kb nb) (hd:XB b.2 kb nb) (m1:moQ q y.1≤2) (m2:moQ q y.2≤2) :
 XB (elS q b y).1 (k+2+6*kb) (n+4*nb)∧XB (elS q b y).2 (k+2+6*kb) (n+4*nb):=by
 have key:∀{p:QTs} {i:Nat},XB p k n→moQ q p≤2→i≤2→XB (mulX (rpN q p b.1 b.2) (pwX b.2 i)) (k+2+6*kb) (n+4*nb):=by
  intro p i hp hm hi;have g:=(rf_xb hp hb hd q (moQ q p) (moQ q p+1) zo (ZBw _)).mul (hd.pw i);have e1:moQ q p*(2*kb)≤2*(2*kb):=ZCf _ hm;have e2:moQ q p*nb≤2*nb:=ZCf _ hm;have e3:i*kb≤2*kb:=ZCf _ hi;have e4:i*nb≤2*nb:=ZCf _ hi;exact g.mono zo zo
 exact⟨key h1 m1 zo,key h2 m2 zo⟩
theorem Zje (q:Qt):(ofX q).length≤1:=by unfold ofX;split<;>simp
theorem Zej (p q:QTs):(subX p q).length≤p.length+q.length:=ZB1 (Ze0 _ _) (by rw [Zc1];exact ZBw _)
theorem Zmt {p q:QTs} {i j:Nat} (hp:p.length≤i) (hq:q.length≤j):(mulX p q).length≤i*j:=ZB1 (Zd3 p q) (ZC7 hp hq)
theorem Ztf {p:QTs} {i:Nat} (h:p.length≤i):(twX p).length≤i:=by have:=Zmt (Zi5 2) h;rwa [ZD1] at this
theorem at_len (p:Pl) (x:Int):(p.at x).length≤1:=by
 unfold Pl.at;split
 ·exact Zje _
 ·split<;>exact Zje _
def CbL (c:Cb):Prop :=
 c.be.length≤3∧((∃u v,c.ab=[u,v]∧c.ps.length=2∧u.length+v.length≤4∧c.be.length*(u.length+v.length)+u.length*v.length≤12) ∨
  (∃u v w,c.ab=[u,v,w]∧c.ps.length=3∧u.length+v.length+w.length≤4∧c.be.length*(u.length+v.length+w.length)+u.length*v.length+u.length*w.length+v.length*w.length≤12))
theorem cl2 {ps:List Int} {u v b:QTs} {i j m:Nat} (hp:ps.length=2) (hu:u.length≤i) (hv:v.length≤j) (hb:b.length≤m) (h1:m≤3) (h2:i+j≤4) (h3:m*(i+j)+i*j≤12):CbL ⟨ps,[u,v],b⟩:=by
 refine⟨ZB1 hb h1,.inl ⟨u,v,rfl,hp,zo,?_⟩⟩;exact ZB1 (ZC8 (ZC7 hb (ZC8 hu hv)) (ZC7 hu hv)) h3
theorem cl3 {ps:List Int} {u v w b:QTs} {i j k m:Nat} (hp:ps.length=3) (hu:u.length≤i) (hv:v.length≤j) (hw:w.length≤k) (hb:b.length≤m) (h1:m≤3) (h2:i+j+k≤4) (h3:m*(i+j+k)+i*j+i*k+j*k≤12):CbL ⟨ps,[u,v,w],b⟩:=by
 refine⟨ZB1 hb h1,.inr ⟨u,v,w,rfl,hp,zo,?_⟩⟩;exact ZB1 (ZC8 (ZC8 (ZC8 (ZC7 hb (ZC8 (ZC8 hu hv) hw)) (ZC7 hu hv)) (ZC7 hu hw)) (ZC7 hv hw)) h3
theorem cb_len {k t:Int} {a:List Int} {r:Rat} {c:Cb} (h:cbOf k a r t=some c) (h3:k=3∨k=11→a.length=3):CbL c:=by
 have o:=Zje;have n1:∀u,(nX u).length≤1:=λu=>Zi5 u;have ct:∀p q r,(ctW p q r).length≤1:=λp q r=>Zmt (o _) (o _);unfold cbOf at h;split at h
 ·cases h;exact cl2 (i:=2) (j:=1) (m:=1) rfl (ZB1 (Zej _ _) (ZC8 (n1 _) (n1 _))) (n1 _) (n1 _) zd zd zd
 split at h
 ·rename_i hk;cases h;exact cl3 (i:=1) (j:=1) (k:=1) (m:=1) (h3 (.inl hk)) (n1 _) (n1 _) (n1 _) (n1 _) zd zd zd
 split at h
 ·cases h;exact cl2 (i:=2) (j:=1) (m:=1) rfl (ZB1 (Zej _ _) (ZC8 (n1 _) (o _))) (o _) (n1 _) zd zd zd
 split at h
 ·cases h;have hs:=ZB1 (Zej (aX (gI a 0) (gI a 2) (gI a 3)) (aX (gI a 1) (gI a 2) (gI a 3))) (ZC8 (o _) (o _));exact cl2 (i:=3) (j:=1) (m:=2) rfl (ZB1 (Zej _ _) (ZC8 hs (o _))) (o _) hs zd zd zd
 split at h
 ·cases h;exact cl2 (i:=2) (j:=1) (m:=1) rfl (ZB1 (Zej _ _) (ZC8 (o _) (o _))) (o _) (o _) zd zd zd
 split at h
 ·cases h;exact cl3 (i:=2) (j:=1) (k:=1) (m:=1) rfl (Ztf (ZB1 (Zej _ _) (ZC8 (o _) (o _)))) (Ztf (o _)) (ZB1 (Zej _ _) (ZC8 (ZBw 0) (o _))) (o _) zd zd zd
 split at h
 ·cases h;exact cl2 (i:=2) (j:=1) (m:=1) rfl (ZB1 (Zej _ _) (ZC8 (o _) (Ztf (o _)))) (Ztf (o _)) (o _) zd zd zd
 split at h
 ·rename_i hk;cases h;exact cl3 (i:=1) (j:=1) (k:=1) (m:=3) (h3 (.inr hk)) (ct _ _ _) (ct _ _ _) (ct _ _ _) (ZB1 (Ze0 _ _) (ZC8 (ZB1 (Ze0 _ _) (ZC8 (ct _ _ _) (ct _ _ _))) (ct _ _ _))) zd zd zd
 ·cases h
theorem Zfu (c:Cb) (p:Pl) (i:Nat):(afS c p (i+1)).length≤(afS c p i).length+(c.ab.getD i []).length :=
 ZB1 (Ze0 _ _) (Nat.add_le_add_left (by have:=Zmt (ZBw (c.ab.getD i []).length) (at_len p (gI c.ps i));rwa [ZEl] at this) _)
theorem Znt (c:Cb) (i j:Nat):(prT c i j).length≤(c.ab.getD i []).length*(c.ab.getD j []).length:=by
 have:=Zmt (Zd3 (c.ab.getD i []) (c.ab.getD j [])) (Zje ⟨2,gI c.ps i,gI c.ps j,gI c.ps i⟩)
 rwa [ZEl] at this
theorem af_len {c:Cb} (p:Pl) (h:CbL c):(afN c p).length≤12∧(afD c p).length≤9:=by
 obtain⟨hb,h⟩:=h;refine⟨?_,?_⟩
 ·rcases h with⟨u,v,e,hp,h1,h2⟩ | ⟨u,v,w,e,hp,h1,h2⟩
  ·have s1:=Zfu c p 0;have s2:=Zfu c p 1;rw [e] at s1 s2;have s0:(afS c p 0).length=0:=rfl;have s1:(afS c p 1).length≤(afS c p 0).length+u.length:=s1;have s2:(afS c p 2).length≤(afS c p 1).length+v.length:=s2;unfold afN;rw [hp];split
   ·have t1:=Znt c 0 1;rw [e] at t1;have t1:(prT c 0 1).length≤u.length*v.length:=t1;have m1:(mulX c.be (afS c p 2)).length≤c.be.length*(u.length+v.length):=ZB1 (Zd3 _ _) (ZD0 _ zo);have g:=Zej (mulX c.be (afS c p 2)) (prT c 0 1);show(subX (mulX c.be (afS c p 2)) (prT c 0 1)).length≤12;omega
   ·omega
  ·have s1:=Zfu c p 0;have s2:=Zfu c p 1;have s3:=Zfu c p 2;rw [e] at s1 s2 s3;have s0:(afS c p 0).length=0:=rfl;have s1:(afS c p 1).length≤(afS c p 0).length+u.length:=s1;have s2:(afS c p 2).length≤(afS c p 1).length+v.length:=s2;have s3:(afS c p 3).length≤(afS c p 2).length+w.length:=s3;unfold afN;rw [hp];split
   ·have t1:=Znt c 0 1;have t2:=Znt c 0 2;have t3:=Znt c 1 2;rw [e] at t1 t2 t3;have t1:(prT c 0 1).length≤u.length*v.length:=t1;have t2:(prT c 0 2).length≤u.length*w.length:=t2;have t3:(prT c 1 2).length≤v.length*w.length:=t3;have m1:(mulX c.be (afS c p 3)).length≤c.be.length*(u.length+v.length+w.length):=ZB1 (Zd3 _ _) (ZD0 _ zo);have g1:=Zej (mulX c.be (afS c p 3)) (prT c 0 1);have g2:=Zej (subX (mulX c.be (afS c p 3)) (prT c 0 1)) (prT c 0 2);have g3:=Zej (subX (subX (mulX c.be (afS c p 3)) (prT c 0 1)) (prT c 0 2)) (prT c 1 2);show(subX (subX (subX (mulX c.be (afS c p 3)) (prT c 0 1)) (prT c 0 2)) (prT c 1 2)).length≤12
    omega
   ·omega
 ·unfold afD;split
  ·exact ZB1 (Zmt hb hb) zd
  ·omega
def lmX (k:Int) (a:List Int) (r:Rat) (t x:Int) (q:Qt):Int × XX :=
 if q.norm.2=0∨hasQ x q.norm.1=false then (0,(ofX q,[((1:Rat),[])]))
 else if k=4 then (0,(sclT (q.norm.2:Rat) (tuX (gI a 0) (gI a 1) (gI a 2) (plOf q.norm.1 x)),[((1:Rat),[])]))
 else match cbOf k a r t with
  | none=>(8,([],[]))
  | some c=>if c.be=[] then (3,([],[])) else (0,(sclT (q.norm.2:Rat) (afN c (plOf q.norm.1 x)),afD c (plOf q.norm.1 x)))
structure LmOk (x:Int) (b:XX):Prop where
 xn:XB b.1 245 5
 xd:XB b.2 245 5
 ln:b.1.length≤12
 ld:b.2.length≤12
 nn:alQ (noP x) b.1
 nd:alQ (noP x) b.2
 ne:b.2≠[]
structure StA (k t x n:Int) (a:List Int) (r:Rat):Prop where
 n40:n≤40
 sz:Sz r 2
 rg:∀i,i < a.length→0≤gI a i∧gI a i < n
 lt:∀i,i < a.length→gI a i < x
 tr:0≤t∧t < 64
 l:(k=3→a.length=3)∧(k=11→a.length=3)∧(k=2∨k=5→2≤a.length)∧(k=7∨k=8∨k=10→3≤a.length)∧(k=9→4≤a.length)
 l4:k=4→a.length=3
theorem Zt6 {q:Qt} {n:Int} (hs:q.norm.2≠0) (h:0≤q.norm.1.a∧q.norm.1.a < n∧0≤q.norm.1.b∧q.norm.1.b < n∧0≤q.norm.1.c∧q.norm.1.c < n) (x:Int):PlOk (plOf q.norm.1 x) n:=pl_ok ⟨h.1,h.2.1⟩ ⟨h.2.2.1,h.2.2.2.1⟩ ⟨h.2.2.2.2.1,h.2.2.2.2.2⟩
theorem alQ.sg {C:Qt→Prop} {p:QTs} (h:alQ C p) (s:Int):alQ C (sclT (s:Rat) p):=h.scl _
theorem xb_sg {p:QTs} {k n:Nat} (h:XB p k n) {s:Int} (hs:s=-1∨s=1):XB (sclT (s:Rat) p) k n:=by
 rcases hs with rfl | rfl
 ·exact h.neg
 ·show XB (sclT 1 p) k n;rw [Zk2];exact h
theorem one_no (x:Int):alQ (noP x) [((1:Rat),[])]:=λt ht q hq=>by rw [List.mem_singleton.1 ht] at hq;cases hq
theorem lm_ok {k t x n:Int} {a:List Int} {r:Rat} {q:Qt} (hs:StA k t x n a r) (hq:q.ok=true)
 (hp:q.norm.2≠0→hasQ x q.norm.1=true→0≤q.norm.1.a∧q.norm.1.a < n∧0≤q.norm.1.b∧q.norm.1.b < n∧0≤q.norm.1.c∧q.norm.1.c < n) (h0:(lmX k a r t x q).1=0):LmOk x (lmX k a r t x q).2:=by
 have one:XB [((1:Rat),[])] 245 5:=Zov.mono zd zd;unfold lmX at *;split
 ·rename_i h;have ho:=Zeb hq;refine⟨ho.x.mono zd zd,one,ZB1 (Zje q) zd,by show 1≤12;decide,?_,one_no x,by simp⟩;unfold ofX;split
  ·exact alQ.emp
  ·rename_i h1;rcases h with h | h
   ·exact absurd h h1
   ·intro u hu v hv;rw [List.mem_singleton.1 hu] at hv;rw [List.mem_singleton.1 hv];exact h
 ·rename_i h;rw [ZBu h] at h0;have h1:q.norm.2≠0:=λg=>h (.inl g)
  have h2:hasQ x q.norm.1=true:=by
   cases g:hasQ x q.norm.1 with
   | true=>rfl
   | false=>exact absurd (.inr g) h
  have hsg:q.norm.2=-1∨q.norm.2=1:=by
   rcases Zib q with g | g | g
   ·exact .inl g
   ·exact absurd g h1
   ·exact .inr g
  have hpl:=Zt6 h1 (hp h1 h2) x;obtain⟨n1,n2,_⟩:=pl_no (Zy5 hq h1) h2;have hxa:∀i,i < a.length→x≠gI a i:=λi hi=>by have:=hs.lt i hi;omega
  split
  ·rename_i hk;have l4:=hs.l4 hk;have g:=tu_xl hpl hs.n40 (hs.rg 0 zo) (hs.rg 1 zo) (hs.rg 2 zo);refine⟨xb_sg (g.x.mono zd zd) hsg,one,by show(sclT _ _).length≤_;rw [Zc1];exact ZB1 g.l zd,by show 1≤12;decide,(tu_no n1 n2 (hxa 0 zo) (hxa 1 zo) (hxa 2 zo)).sg _,one_no x,by simp⟩
  ·rename_i hk;rw [ZBu hk] at h0
   cases hc:cbOf k a r t with
   | none=>rw [hc] at h0;exact absurd (show(8:Int)=0 from h0) zd
   | some c =>
     rw [hc] at h0;simp only at h0 ⊢;by_cases hb:c.be=[]
     ·rw [ZBv hb] at h0;exact absurd h0 zd
     ·rw [ZBu hb];have ok:=cb_ok hc hs.sz hs.rg hs.n40 hs.tr hs.l
      have hx0:x≠0∨4≤a.length:=by
       have hl:0 < a.length:=by
        rcases ZC3 a.length with g | g
        ·obtain⟨l3,l11,l2,l7,l9⟩:=hs.l;exfalso;unfold cbOf at hc;split at hc
         ·have:=l2 (.inl ‹_›);omega
         split at hc
         ·have:=l3 ‹_›;omega
         split at hc
         ·have:=l2 (.inr ‹_›);omega
         split at hc
         ·have:=l9 ‹_›;omega
         split at hc
         ·have:=l7 (.inl ‹_›);omega
         split at hc
         ·have:=l7 (.inr (.inl ‹_›));omega
         split at hc
         ·have:=l7 (.inr (.inr ‹_›));omega
         split at hc
         ·have:=l11 ‹_›;omega
         ·cases hc
        ·exact g
       have:=hs.lt 0 hl;have:=hs.rg 0 hl;exact .inl zo
      obtain⟨c1,c2,c3⟩:=cb_no hc hxa hx0 hs.l;have hl:=af_len (plOf q.norm.1 x) (cb_len hc (λg=>by rcases g with g | g;exact hs.l.1 g;exact hs.l.2.1 g));have an:=afN_xl ok hpl hs.n40;have ad:=afD_xl (p:=plOf q.norm.1 x) ok;exact⟨xb_sg (an.x.mono zd zd) hsg,ad.x.mono zd zd,by show(sclT _ _).length≤_;rw [Zc1];exact hl.1,ZB1 hl.2 zd,(afN_no c1 c2 c3 n1 n2).sg _,afD_no c2,afD_ne ok.be.x.1 hb⟩
structure EI (x:Int) (l:List Qt) (K N:Nat) (y:XX):Prop where
 x1:XB y.1 K N
 x2:XB y.2 K N
 l1:y.1.length≤4000
 l2:y.2.length≤4000
 c1:cntX x 2 y.1
 c2:cntX x 2 y.2
 a1:alQ (λu=>hasQ x u=true→u∈l) y.1
 a2:alQ (λu=>hasQ x u=true→u∈l) y.2
theorem EI.mo {x:Int} {l:List Qt} {K N:Nat} {y:XX} (h:EI x l K N y) {q:Qt} (hq:hasQ x q=true):moQ q y.1≤2∧moQ q y.2≤2:=⟨mo_cnt hq h.c1,mo_cnt hq h.c2⟩
theorem EI.step {x:Int} {l:List Qt} {K N:Nat} {y b:XX} {q:Qt} (h:EI x (q :: l) K N y) (hq:hasQ x q=true) (hb:LmOk x b) (l1:(elS q b y).1.length≤4000) (l2:(elS q b y).2.length≤4000) :
 EI x l (K+1472) (N+20) (elS q b y):=by
 obtain⟨m1,m2⟩:=h.mo hq;obtain⟨e1,e2⟩:=el_xb (x:=x) h.x1 h.x2 hb.xn hb.xd m1 m2;obtain⟨c1,c2⟩:=el_cnt (q:=q) h.c1 h.c2 hb.nn hb.nd;obtain⟨a1,a2⟩:=el_al (q:=q) h.a1 h.a2 hb.nn hb.nd
 have key:∀u,((hasQ x u=true→u∈q :: l)∧u≠q∨noP x u)→hasQ x u=true→u∈l:=by
  intro u hu hx;rcases hu with⟨h1,h2⟩ | h1
  ·rcases List.mem_cons.1 (h1 hx) with h3 | h3
   ·exact absurd h3 h2
   ·exact h3
  ·rw [h1] at hx;exact absurd hx zd
 exact⟨e1.mono zo zo,e2.mono zo zo,l1,l2,c1,c2,a1.imp key,a2.imp key⟩
theorem EI.fin {x:Int} {K N:Nat} {y:XX} (h:EI x [] K N y):alQ (noP x) y.1∧alQ (noP x) y.2:=by
 have key:∀u,(hasQ x u=true→u∈([]:List Qt))→noP x u:=λu hu=>by
  cases g:hasQ x u with
  | false=>exact g
  | true=>cases hu g
 exact⟨h.a1.imp key,h.a2.imp key⟩
theorem EI.beg {x:Int} {K N:Nat} {n d:QTs} (h1:XB n K N) (h2:XB d K N) (l1:n.length≤4000) (l2:d.length≤4000) (c1:∀t∈n,t.2.length≤2) (c2:∀t∈d,t.2.length≤2):EI x (hvL x (flQ n++flQ d)) K N (n,d) :=
 ⟨h1,h2,l1,l2,λt ht=>ZB1 (ZGm _ _) (c1 t ht),λt ht=>ZB1 (ZGm _ _) (c2 t ht),
  λt ht q hq hx=>Zsd.2 ⟨List.mem_append.2 (.inl (Zn0.2 ⟨t,ht,hq⟩)),hx⟩,λt ht q hq hx=>Zsd.2 ⟨List.mem_append.2 (.inr (Zn0.2 ⟨t,ht,hq⟩)),hx⟩⟩
theorem rs_len {d:QTs} {L:Nat} (hd:d.length≤L) (p:QTs):∀i,(rsX p d i).length≤p.length*L ^ i
 | 0=>by rw [ZFq,ZEl];exact ZBw _
 | i+1=>ZB1 (Zmt (rs_len hd p i) hd) (by rw [ZC5,ZC6];exact ZBw _)
theorem Zxy {q:Qt} {p:QTs} {b:XX} (lp:p.length≤4000) (l1:b.1.length≤12) (l2:b.2.length≤12) {i:Nat} (hm:moQ q p+i≤2):(rsX (rpN q p b.1 b.2) b.2 i).length≤1728000:=by
 refine ZB1 (rs_len l2 _ i) ?_;have g:=rf_len (P:=paQ q p) (LP:=4000) (λk=>ZB1 (pa_len q p k) lp) l1 l2 (moQ q p) (moQ q p+1) (ZBw _);refine ZB1 (ZCf _ g) ?_;generalize moQ q p=m at hm;have hh:(m=0∧i=0)∨(m=0∧i=1)∨(m=0∧i=2)∨(m=1∧i=0)∨(m=1∧i=1)∨(m=2∧i=0):=zo;rcases hh with⟨rfl,rfl⟩ | ⟨rfl,rfl⟩ | ⟨rfl,rfl⟩ | ⟨rfl,rfl⟩ | ⟨rfl,rfl⟩ | ⟨rfl,rfl⟩<;>decide
theorem rs_xb {q:Qt} {p:QTs} {b:XX} {k n kb nb i:Nat} (hp:XB p k n) (hb:XB b.1 kb nb) (hd:XB b.2 kb nb) (hm:moQ q p≤2) (hi:i≤2):XB (rsX (rpN q p b.1 b.2) b.2 i) (k+2+6*kb) (n+4*nb):=by
 have g0:=rf_xb hp hb hd q (moQ q p) (moQ q p+1) zo (ZBw _);rw [rs_pw g0.1 hd.1];have g:=g0.mul (hd.pw i);have e1:moQ q p*(2*kb)≤2*(2*kb):=ZCf _ hm;have e2:moQ q p*nb≤2*nb:=ZCf _ hm;have e3:i*kb≤2*kb:=ZCf _ hi;have e4:i*nb≤2*nb:=ZCf _ hi;exact g.mono zo zo
def vwX (n:Qt) (x:Int):Int × Int × Bool :=
 if n.k=2∧n.a=n.c then (n.a+n.b - x,n.a+n.b - x,true)
 else if x=n.b then (if n.k=1 then (n.c,n.a,false) else (n.a,n.c,true))
 else if x=n.a then (n.b,n.c,false)
 else if n.k=1 then (n.a,n.b,false) else (n.b,n.a,false)
def prS (s:Int × Int) (k:Int):Int × Int:=if k=1 then (s.1+min s.2 2,s.2+1) else if k=5∨k=6 then (s.1+1,s.2) else s
def prN (ks:List Int):Int × Int:=ks.foldl prS (0,0)
theorem Zt2 (ks:List Int) (k:Int):prN (ks++[k])=prS (prN ks) k:=by unfold prN;rw [ZGe];rfl
theorem prN_bd:∀ks:List Int,0≤(prN ks).1∧(prN ks).1≤2*ks.length∧0≤(prN ks).2∧(prN ks).2≤ks.length:=by
 refine Zgb ⟨by decide,by decide,by decide,by decide⟩ λl a ih=>?_;rw [Zt2,ZCr];have h1:([a]:List Int).length=1:=rfl;unfold prS;obtain⟨i1,i2,i3,i4⟩:=ih;split
 ·refine⟨?_,?_,?_,?_⟩<;>simp only<;>omega
 ·split
  ·refine⟨?_,?_,?_,?_⟩<;>simp only<;>omega
  ·refine⟨?_,?_,?_,?_⟩<;>omega
def wtX (k:Int) (a:List Int) (r:Rat) (t:Int):Int × List Int × List XX :=
 match cbOf k a r t with
 | none=>(8,[],[])
 | some c=>if c.be=[] then (3,[],[]) else (0,c.ps,c.ab.map λw=>(w,c.be))
theorem exC {p:QTs} (h:(∀t∈p,t.1≠0∧(t.2.Pairwise λa b=>Qt.cmp a b≤0)∧∀q∈t.2,q.norm=(q,1))∧p.Pairwise λs t=>ordQ s.2 t.2 < 0):EX p :=
 ⟨λt ht=>⟨(h.1 t ht).1,(h.1 t ht).2.1,(h.1 t ht).2.2⟩,h.2⟩
abbrev hlX:QTs:=[((1/2:Rat),[])]
abbrev onX:QTs:=[((1:Rat),[])]
abbrev pM (a b:Int):List Qt:=[⟨2,a,b,a⟩]
abbrev arX (a b c:Int):QTs:=ofX ⟨1,a,b,c⟩
abbrev pyX (a b c:Int):QTs:=ofX ⟨2,a,b,c⟩
def crX (a b c d:Int):QTs:=subX (arX a b d) (arX a b c)
def doX (a b c d:Int):QTs:=subX (pyX b a d) (pyX b a c)
def leX (a b c d:Int) (r:Rat):QTs:=subX (pyX a b a) (mulX (cstT r) (pyX c d c))
def mdX (m a b:Int):QTs:=Zbf (Zbf (pyX m a m) (pyX m b m)) (mulX (cstT 2) (pyX a m b))
def xsX (a b c d:QTs):QTs:=subX (mulX a b) (mulX c d)
def goX (k:Int) (l:List Int) (r:Rat):QTs :=
 if k=1 then arX (gI l 0) (gI l 1) (gI l 2)
 else if k=2 then crX (gI l 0) (gI l 1) (gI l 2) (gI l 3)
 else if k=3 then doX (gI l 0) (gI l 1) (gI l 2) (gI l 3)
 else if k=4 then leX (gI l 0) (gI l 1) (gI l 2) (gI l 3) 1
 else if k=5 then mdX (gI l 0) (gI l 1) (gI l 2)
 else if k=6 then xsX (arX (gI l 1) (gI l 0) (gI l 2)) (pyX (gI l 0) (gI l 3) (gI l 2)) (arX (gI l 3) (gI l 0) (gI l 2)) (pyX (gI l 0) (gI l 1) (gI l 2))
 else if k=7 then xsX (crX (gI l 0) (gI l 1) (gI l 2) (gI l 3)) (doX (gI l 4) (gI l 5) (gI l 6) (gI l 7)) (crX (gI l 4) (gI l 5) (gI l 6) (gI l 7)) (doX (gI l 0) (gI l 1) (gI l 2) (gI l 3))
 else if k=8 then pyX (gI l 0) (gI l 1) (gI l 0)
 else leX (gI l 0) (gI l 1) (gI l 2) (gI l 3) r
section
variable {ps:List PQ} {rs:List Rat}
abbrev ptI (ps:List PQ) (i:Int):PQ:=ps.getD i.toNat (0,0)
abbrev vX (ps:List PQ) (rs:List Rat) (p:QTs):Rat:=evl (vlQ ps rs) p
abbrev inP (ps:List PQ) (i:Int):Prop:=0≤i∧i < (ps.length:Int)
end
def lnP (a b c d e f g h:PQ):Rat:=Zdy a b c d*dotP e f g h - Zdy e f g h*dotP a b c d
def prV (k:Int) (r:Rat) (p:Nat→PQ):List Rat :=
 if k=1 then [Zdy (p 0) (p 1) (p 0) (p 2)]
 else if k=2 then [Zdy (p 0) (p 1) (p 2) (p 3)]
 else if k=3 then [dotP (p 0) (p 1) (p 2) (p 3)]
 else if k=4 then [dotP (p 0) (p 1) (p 0) (p 1) - dotP (p 2) (p 3) (p 2) (p 3)]
 else if k=5 then [(p 1).1+(p 2).1 - 2*(p 0).1,(p 1).2+(p 2).2 - 2*(p 0).2]
 else if k=6 then [lnP (p 1) (p 0) (p 1) (p 2) (p 3) (p 0) (p 3) (p 2)]
 else if k=7 then [lnP (p 0) (p 1) (p 2) (p 3) (p 4) (p 5) (p 6) (p 7)]
 else if k=8 then [(p 0).1 - (p 1).1,(p 0).2 - (p 1).2]
 else [dotP (p 0) (p 1) (p 0) (p 1) - r*dotP (p 2) (p 3) (p 2) (p 3)]
def arN (k:Int):Nat:=if k=8 then 2 else if k=1∨k=5 then 3 else if k=7 then 8 else 4
section
variable {ps:List PQ} {rs:List Rat}
end
end Go.Proofs.YtkefeinbjbeidaaGreatDoor
namespace Go.Proofs.YtkefeinbjbeidaaGreatDoor
open Go Go.RowKit Go.Pg Go.Pol Go.Proofs.Tryz
attribute [-bool_to_prop] Bool.and_eq_decide Bool.or_eq_decide Bool.decide_beq_decide decide_eq_decide
attribute [go_sem] underlying353 underlying363 underlying350 underlying361 zCmb zSch szFn zFn zPlc
attribute [local go_sem] Zas Zaw Zav Zah Zaq Zai Bool.and_self Zal Zba Za9 Zca Zcb Zbu Za8 Zbx Zbe Zbg Zce Zch Zcg Zcf Zbs Zbt Zcy Zcz Zer Zey Zep Zeq
theorem prN_take {ss:List RS} {k:Nat} (h:k < ss.length):prN ((ss.take (k+1)).map RS.k)=prS (prN ((ss.take k).map RS.k)) ss[k].k:=by
 rw [ZEe h,ZCp];exact Zt2 _ _
theorem prN_in (ss:List RS) {k n:Nat} (hk:ss.length≤n):0≤(prN ((ss.take k).map RS.k)).1∧(prN ((ss.take k).map RS.k)).1≤2*n∧0≤(prN ((ss.take k).map RS.k)).2∧(prN ((ss.take k).map RS.k)).2≤n:=by
 have h:=prN_bd ((ss.take k).map RS.k);rw [ZB2,ZCh] at h;omega
theorem prS_1 {s:Int × Int} {k:Int} (h:k=1):prS s k=(s.1+min s.2 2,s.2+1):=by unfold prS;rw [ZBv h]
theorem prS_5 {s:Int × Int} {k:Int} (h1:¬k=1) (h:k=5∨k=6):prS s k=(s.1+1,s.2):=by unfold prS;rw [ZBu h1,ZBv h]
theorem prS_0 {s:Int × Int} {k:Int} (h1:¬k=1) (h:¬(k=5∨k=6)):prS s k=s:=by unfold prS;rw [ZBu h1,ZBu h]
theorem elParam (ss:List RS) (gs:List RG) (i:Nat) (hi:i≤ss.length) (hl:ss.length≤100):Pure prog 362 [figA ss gs,iv i] (iv (prN ((ss.take i).map RS.k)).1):=by
 have hg:∀k (h:k < ss.length),k < i→((ss.map RS.av).take i).getD k .u=.agg [iv ss[k].k,strA ss[k].nm,ivs ss[k].ar,.v (.bool ss[k].r.s),lim ss[k].r.l,lim ss[k].r.d]:=λk h hk=>by
  rw [ZCb,List.getElem?_take_of_lt hk,←ZCb];exact Zam RS.av h
 have hlm:((ss.map RS.av).take i).length=i:=by rw [ZCh,ZB2];omega
 have hll:(ss.map RS.av).length=ss.length:=ZB2 ..;have hb:∀k,0≤(prN ((ss.take k).map RS.k)).1∧(prN ((ss.take k).map RS.k)).1≤200∧0≤(prN ((ss.take k).map RS.k)).2∧(prN ((ss.take k).map RS.k)).2≤100:=λk=>prN_in ss hl;have hs:∀k (h:k < ss.length),prN ((ss.take (k+1)).map RS.k)=prS (prN ((ss.take k).map RS.k)) ss[k].k:=λk h=>prN_take h;show Pure _ _ [.agg [.sl 6 (ss.map RS.av),.sl 5 (gs.map RG.av)],iv i] _;generalize hMT:(ss.map RS.av).take i=MT at *;generalize ss.map RS.av=M at *;generalize gs.map RG.av=G at *;refine pI func362 rfl ntmps362 results362 call362 ?_
 (refine wkap (w_4 hll hi hMT hlm) w_t (w_r 0) (w_s ?_);intros)
 refine Zad (ι:=Nat) (λk e m=>k≤i∧(e 5=iv (prN ((ss.take k).map RS.k)).1∧e 6=iv (prN ((ss.take k).map RS.k)).2)∧e 12=.sl 6 MT∧e 13=iv i∧e 14=iv k) (λk=>i - k) 0 zr ?_ ?_
 ·rintro k e m ⟨hk,⟨e5,e6⟩,e12,e13,e14⟩
  by_cases hlt:k < i
  ·have hgk:=hg k zo hlt;have ps:=hs k zo;have hbk:=hb k;have hlk:k < ss.length:=zo;clear hg hs hb;generalize ss[k]=s at *;obtain⟨kk,nm,ar,⟨rb,rl,rd⟩⟩:=s;simp only at hgk ps;generalize prN ((ss.take k).map RS.k)=pr at *;obtain⟨p1,p2⟩:=pr;simp only at *;have hgk:MT.getD k .u=.agg [iv kk,strA nm,.sl 1 (ar.map iv),.v (.bool rb),lim rl,lim rd]:=hgk;generalize ar.map iv=AR at *;have hmi:(if (2:Int) < p2 then (2:Int) else p2)=min p2 2:=zo;have hmj:p2+1 - 1=p2:=zo;by_cases h1:kk=1
   ·rw [prS_1 h1] at ps
    (refine wkap (w_10 e5 e6 e12 e13 e14 hlm hgk h1 hmj hmi) w_t (w_r 0) (w_s ?_);intros)
    exact⟨k+1,⟨zo,⟨by rw [ps];exact gW hmi,by rw [ps];exact gC⟩,gW e12,gW e13,gS⟩,zo⟩
   ·by_cases h5:kk=5∨kk=6
    ·rw [prS_5 h1 h5] at ps;rcases h5 with h5 | h5
     ·(refine wkap (w_9 e5 e6 e12 e13 e14 hlm hgk h1 h5) w_t (w_r 0) (w_s ?_);intros)
      exact⟨k+1,⟨zo,⟨by rw [ps];exact gW e5,by rw [ps];exact gW e6⟩,gW e12,gW e13,gS⟩,zo⟩
     ·(refine wkap (w_9 e5 e6 e12 e13 e14 hlm hgk h1 h5) w_t (w_r 0) (w_s ?_);intros)
      exact⟨k+1,⟨zo,⟨by rw [ps];exact gW e5,by rw [ps];exact gW e6⟩,gW e12,gW e13,gS⟩,zo⟩
    ·rw [prS_0 h1 h5] at ps;have h6:¬kk=6:=λh=>h5 (.inr h);have h5:¬kk=5:=λh=>h5 (.inl h)
     (refine wkap (w_10 e5 e6 e12 e13 e14 hlm hgk h1 h5 h6) w_t (w_r 0) (w_s ?_);intros)
     exact⟨k+1,⟨zo,⟨by rw [ps];exact gW e5,by rw [ps];exact gW e6⟩,gW e12,gW e13,gS⟩,zo⟩
  ·have:k=i:=zo;subst this;generalize (prN ((ss.take k).map RS.k)).1=z at *
   (refine wkap (w_6 e5 e6 e12 e13 e14 hlm) w_t (w_r 0) (w_s ?_);intros)
   all_goals exact gL
 ·exact⟨ZB5 _,⟨gC,gC⟩,by(simp (disch:=omega) only [go_sem,hMT]<;>repeat' first|rfl|refine⟨?_,?_⟩),gW hlm,gC⟩
abbrev XS (p:QTs):Prop:=XL p 400 6 400
theorem Zj4 {p q:QTs} (hp:XS p) (hq:XS q) (h12:p.length*q.length≤12):Pure prog 66 [qpA p,qpA q] (qpA (mulX p q)):=by
 have:=Zzs;have:=Zzr;have:=hp.l;have:=hq.l;exact exMulT p q hp.x hq.x zo zo zo zo zo zo
theorem ZAi {p q:QTs} (hp:XS p) (hq:XS q):Pure prog 69 [qpA p,qpA q] (qpA (Zbf p q)):=by
 have:=hp.l;have:=hq.l;exact exPlus p q hp.x.qk hq.x.qk hp.x.nz hq.x.nz zo zo zo zo zo
theorem Zm0 {p q:QTs} (hp:XS p) (hq:XS q):Pure prog 65 [qpA p,qpA q] (qpA (subX p q)):=by
 have:=hp.l;have:=hq.l;exact exMinus p q hp.x.qk hq.x.qk hp.x.nz hq.x.nz zo zo zo zo zo
theorem ZAe {q:Qt} (h:q.ok=true):Pure prog 64 [q.av] (qpA (ofX q)):=by
 have c:=exOf q
 rwa [of_ok h] at c
theorem cst_qp (u:Rat):nrmR (cstE u)=qpA (cstT u):=cst_ok u
theorem Zm1 {u:Rat} (h:Sz u 2):Pure prog 55 [ratQ u] (qpA (cstT u)):=by
 have c:=Zsq u h zo
 rwa [cst_qp] at c
theorem xs_of {q:Qt} (h:q.ok=true):XS (ofX q):=(Zeb h).mono zd zd zd
theorem xs_cst {u:Rat} (h:Sz u 2):XS (nX u):=(Zf7 h).mono zd zd zd
theorem XL.xs {p:QTs} {k n l:Nat} (h:XL p k n l) (hk:k≤400) (hn:n≤6) (hl:l≤400):XS p:=h.mono hk hn hl
abbrev Cb.av (c:Cb):AV:=.agg [ivs c.ps,.sl 1 (c.ab.map qpA),qpA c.be]
theorem Zgk {P:Program} {σs:Mem} {all:List Oper} {op:Op} {ty:TypeId} {pos:String} {af:Array Edge} {r:Res} {K:St→Prop} {e:Nat→AV} {m:Mem} (h:Zaj P ⟨e,m⟩ op=r) (hkp:Za0 σs r) (hk:aRes P 0 none r K ⟨e,m⟩):Zfe P 0 σs all true false ⟨none,op,ty,pos,af,none⟩ K ⟨e,m⟩:=by
 refine⟨?_,λ_=>⟨rfl,by rw [h];exact hkp,λh=>by cases h⟩⟩;unfold Zf6;rw [Zdj,h,Option.getD_none];exact hk
abbrev Pl.av (p:Pl):AV:=.agg [iv p.k,iv p.q,iv p.r,.v (.bool p.mid)]
theorem elPlaced (k a b c x:Int):Pure prog 337 [.agg [iv k,iv a,iv b,iv c],iv x] (Pl.av (plOf ⟨k,a,b,c⟩ x)):=by
 unfold plOf;simp only
 repeat' split
 ·refine pI func337 rfl ntmps337 results337 call337 ?_
  (refine wkad w_t w_t (w_1 (w_d 4 [] [5,7,1005,1007] [5])) (w_s ?_);intros)
  refine Zgk (by simp (disch:=omega) only [go_sem];rfl) (by simp (disch:=omega) [Za0,cutM,go_sem]) ?_
  (refine wkad w_t w_t w_t (w_s ?_);intros)
  refine Zgk (by simp (disch:=omega) only [go_sem];rfl) (by simp (disch:=omega) [Za0,cutM,go_sem]) ?_
  (refine wkad w_t w_t w_t (w_s ?_);intros)
  all_goals exact gL
 ·refine pI func337 rfl ntmps337 results337 call337 ?_
  (refine wkad w_t w_t (w_1 (w_d 6 [] [5,7,1005,1007] [5])) (w_s ?_);intros)
  refine Zgk (by simp (disch:=omega) only [go_sem];rfl) (by simp (disch:=omega) [Za0,cutM,go_sem]) ?_
  (refine wkad w_t w_t w_t (w_s ?_);intros)
  refine Zgk (by simp (disch:=omega) only [go_sem];rfl) (by simp (disch:=omega) [Za0,cutM,go_sem]) ?_
  (refine wkad w_t w_t w_t (w_s ?_);intros)
  all_goals exact gL
 ·refine pI func337 rfl ntmps337 results337 call337 ?_
  (refine wkad w_t w_t (w_1 (w_d 8 [] [5,7,1005,1007] [5])) (w_s ?_);intros)
  refine Zgk (by simp (disch:=omega) only [go_sem];rfl) (by simp (disch:=omega) [Za0,cutM,go_sem]) ?_
  (refine wkad w_t w_t w_t (w_s ?_);intros)
  refine Zgk (by simp (disch:=omega) only [go_sem];rfl) (by simp (disch:=omega) [Za0,cutM,go_sem]) ?_
  (refine wkad w_t w_t w_t (w_s ?_);intros)
  all_goals exact gL
 ·refine pI func337 rfl ntmps337 results337 call337 ?_
  (refine wkad w_t w_t (w_1 (w_d 10 [] [5,7,9,1005,1007,1009] [5])) (w_s ?_);intros)
  refine Zgk (by simp (disch:=omega) only [go_sem];rfl) (by simp (disch:=omega) [Za0,cutM,go_sem]) ?_
  (refine wkad w_t w_t w_t (w_s ?_);intros)
  refine Zgk (by simp (disch:=omega) only [go_sem];rfl) (by simp (disch:=omega) [Za0,cutM,go_sem]) ?_
  (refine wkad w_t w_t w_t (w_s ?_);intros)
  refine Zgk (by simp (disch:=omega) only [go_sem];rfl) (by simp (disch:=omega) [Za0,cutM,go_sem]) ?_
  (refine wkad w_t w_t w_t (w_s ?_);intros)
  all_goals exact gL
 ·rename_i h1 h2 h3;by_cases ha:a=x
  ·subst ha;have hc:¬c=a:=λh=>h2 ⟨rfl,h⟩;refine pI func337 rfl ntmps337 results337 call337 ?_
   (refine wkad (w_3 h1 h3 hc) w_t (w_1 (w_d 12 [] [5,7,9,1005,1007,1009] [5])) (w_s ?_);intros)
   refine Zgk (by simp (disch:=omega) only [go_sem];rfl) (by simp (disch:=omega) [Za0,cutM,go_sem]) ?_
   (refine wkad w_t w_t w_t (w_s ?_);intros)
   refine Zgk (by simp (disch:=omega) only [go_sem];rfl) (by simp (disch:=omega) [Za0,cutM,go_sem]) ?_
   (refine wkad w_t w_t w_t (w_s ?_);intros)
   refine Zgk (by simp (disch:=omega) only [go_sem];rfl) (by simp (disch:=omega) [Za0,cutM,go_sem]) ?_
   (refine wkad w_t w_t w_t (w_s ?_);intros)
   all_goals exact gL
  ·refine pI func337 rfl ntmps337 results337 call337 ?_
   (refine wkad (w_3 h1 h3 ha) w_t (w_1 (w_d 12 [] [5,7,9,1005,1007,1009] [5])) (w_s ?_);intros)
   refine Zgk (by simp (disch:=omega) only [go_sem];rfl) (by simp (disch:=omega) [Za0,cutM,go_sem]) ?_
   (refine wkad w_t w_t w_t (w_s ?_);intros)
   refine Zgk (by simp (disch:=omega) only [go_sem];rfl) (by simp (disch:=omega) [Za0,cutM,go_sem]) ?_
   (refine wkad w_t w_t w_t (w_s ?_);intros)
   refine Zgk (by simp (disch:=omega) only [go_sem];rfl) (by simp (disch:=omega) [Za0,cutM,go_sem]) ?_
   (refine wkad w_t w_t w_t (w_s ?_);intros)
   all_goals exact gL
 ·refine pI func337 rfl ntmps337 results337 call337 ?_
  (refine wkad w_t w_t (w_1 (w_d 14 [] [5,7,1005,1007] [5])) (w_s ?_);intros)
  refine Zgk (by simp (disch:=omega) only [go_sem];rfl) (by simp (disch:=omega) [Za0,cutM,go_sem]) ?_
  (refine wkad w_t w_t w_t (w_s ?_);intros)
  refine Zgk (by simp (disch:=omega) only [go_sem];rfl) (by simp (disch:=omega) [Za0,cutM,go_sem]) ?_
  (refine wkad w_t w_t w_t (w_s ?_);intros)
  all_goals exact gL
 ·refine pI func337 rfl ntmps337 results337 call337 ?_
  (refine wkad w_t w_t (w_1 (w_d 2 [] [5,7,1005,1007] [5])) (w_s ?_);intros)
  refine Zgk (by simp (disch:=omega) only [go_sem];rfl) (by simp (disch:=omega) [Za0,cutM,go_sem]) ?_
  (refine wkad w_t w_t w_t (w_s ?_);intros)
  refine Zgk (by simp (disch:=omega) only [go_sem];rfl) (by simp (disch:=omega) [Za0,cutM,go_sem]) ?_
  (refine wkad w_t w_t w_t (w_s ?_);intros)
  all_goals exact gL
theorem XL.s {p:QTs} {k n l:Nat} (h:XL p k n l) (hk:k≤400:=by decide) (hn:n≤6:=by decide) (hl:l≤400:=by decide):XS p:=h.mono hk hn hl
theorem elArea (a b c:Int) (h:Qt.ok ⟨1,a,b,c⟩=true):Pure prog 345 [iv a,iv b,iv c] (.sl 4 ((ofX ⟨1,a,b,c⟩).map qtA)):=by
 have c1:Pure prog 64 [.agg [iv 1,iv a,iv b,iv c]] (.sl 4 ((ofX ⟨1,a,b,c⟩).map qtA)):=ZAe h;show Pure _ _ [iv a,iv b,iv c] (.sl 4 ((ofX ⟨1,a,b,c⟩).map qtA));generalize (ofX ⟨1,a,b,c⟩).map qtA=G at *;refine pI func345 rfl ntmps345 results345 call345 ?_
 (refine wkap w_t (w_1 c1) (w_r 0) (w_s ?_);intros)
 all_goals exact gL
theorem ZAo (a b c:Int) (h:Qt.ok ⟨2,a,b,c⟩=true):Pure prog 344 [iv a,iv b,iv c] (.sl 4 ((ofX ⟨2,a,b,c⟩).map qtA)):=by
 have c1:Pure prog 64 [.agg [iv 2,iv a,iv b,iv c]] (.sl 4 ((ofX ⟨2,a,b,c⟩).map qtA)):=ZAe h;show Pure _ _ [iv a,iv b,iv c] (.sl 4 ((ofX ⟨2,a,b,c⟩).map qtA));generalize (ofX ⟨2,a,b,c⟩).map qtA=G at *;refine pI func344 rfl ntmps344 results344 call344 ?_
 (refine wkap w_t (w_1 c1) (w_r 0) (w_s ?_);intros)
 all_goals exact gL
theorem elNumV (z:Int) (b:Bool) (n d:List Nat) (G:List AV) (c1:Pure prog 27 [iv z] (.agg [.v (.bool b),lim n,lim d])) (c2:Pure prog 55 [.agg [.v (.bool b),lim n,lim d]] (.sl 4 G)):Pure prog 335 [iv z] (.sl 4 G):=by
 refine pI func335 rfl ntmps335 results335 call335 ?_
 (refine wkap w_t (w_2 c1 c2) (w_r 0) (w_s ?_);intros)
 all_goals exact gL
theorem Zqk:Pure prog 335 [iv 1] (qpA (nX 1)):=elNumV 1 _ _ _ _ (Zmn (z:=1) (.inr (.inr rfl))) (Zm1 (Zjw.mono zd))
theorem elNumM:Pure prog 335 [iv (-1)] (qpA (nX (-1))):=elNumV (-1) _ _ _ _ (Zmn (z:=-1) (.inl rfl)) (Zm1 (sz_m1.mono zd))
theorem Zuw {p q:QTs} {k n l j m i:Nat} (x:XL p k n l) (y:XL q j m i) (h:l*i≤12:=by decide) (hk:k≤400:=by decide) (hn:n≤6:=by decide) (hl:l≤400:=by decide) (hj:j≤400:=by decide) (hm:m≤6:=by decide) (hi:i≤400:=by decide):Pure prog 66 [qpA p,qpA q] (qpA (mulX p q)):=Zj4 (x.mono hk hn hl) (y.mono hj hm hi) (ZB1 (ZC7 x.l y.l) h)
theorem elParts (a b:Int) (p q:QTs) (hp:XS p) (hq:XS q):Pure prog 361 [iv a,iv b,.sl 4 (p.map qtA),.sl 4 (q.map qtA)] (.agg [.sl 1 [iv a,iv b],.sl 1 [.sl 4 ((subX q p).map qtA),.sl 4 (p.map qtA)],.sl 4 (q.map qtA)]):=by
 have c1:Pure prog 65 [.sl 4 (q.map qtA),.sl 4 (p.map qtA)] (.sl 4 ((subX q p).map qtA)):=Zm0 hq hp;generalize (subX q p).map qtA=G at *;generalize p.map qtA=A at *;generalize q.map qtA=B at *;refine pI func361 rfl ntmps361 results361 call361 ?_
 (refine wkap w_t (w_1 c1) (w_r 0) (w_s ?_);intros)
 all_goals exact gL
theorem elAt (k q r x:Int) (m:Bool) (h:(k=1→Qt.ok ⟨1,x,q,r⟩=true)∧(k≠1→m=true→Qt.ok ⟨2,q,x,r⟩=true)∧(k≠1→m=false→Qt.ok ⟨2,x,q,r⟩=true)) :
 Pure prog 347 [.agg [iv k,iv q,iv r,.v (.bool m)],iv x] (.sl 4 ((Pl.at ⟨k,q,r,m⟩ x).map qtA)):=by
 unfold Pl.at;simp only;split
 ·rename_i hk;have c1:=elArea x q r (h.1 hk);generalize (ofX ⟨1,x,q,r⟩).map qtA=G at *;refine pI func347 rfl ntmps347 results347 call347 ?_
  (refine wkap w_t (w_1 c1) (w_r 0) (w_s ?_);intros)
  all_goals exact gL
 ·split
  ·rename_i hk hm;subst hm;have c1:=ZAo q x r (h.2.1 hk rfl);generalize (ofX ⟨2,q,x,r⟩).map qtA=G at *;refine pI func347 rfl ntmps347 results347 call347 ?_
   (refine wkap w_t (w_1 c1) (w_r 0) (w_s ?_);intros)
   all_goals exact gL
  ·rename_i hk hm;obtain rfl:m=false:=by simpa using hm
   have c1:=ZAo x q r (h.2.2 hk rfl);generalize (ofX ⟨2,x,q,r⟩).map qtA=G at *;refine pI func347 rfl ntmps347 results347 call347 ?_
   (refine wkap w_t (w_1 c1) (w_r 0) (w_s ?_);intros)
   all_goals exact gL
theorem Zwi (M GG:List AV) (i:Nat) (a0 a1:Int) (V0 V1 V2:List AV) (k:Int) (nm A0:AV) (rb:Bool) (rn rd:List Nat) (hl:i < M.length) (hs:M.getD i .u=.agg [iv k,nm,A0,.v (.bool rb),lim rn,lim rd]) (c1:Pure prog 55 [.agg [.v (.bool rb),lim rn,lim rd]] (.sl 4 V0)) (c2:Pure prog 335 [iv 1] (.sl 4 V1)) (c3:Pure prog 361 [iv a0,iv a1,.sl 4 V0,.sl 4 V1] (.agg [.sl 1 [iv a0,iv a1],.sl 1 [.sl 4 V2,.sl 4 V0],.sl 4 V1])):Pure prog 352 [.agg [.sl 6 M,.sl 5 GG],iv i,.sl 1 [iv a0,iv a1]] (.agg [.sl 1 [iv a0,iv a1],.sl 1 [.sl 4 V2,.sl 4 V0],.sl 4 V1]):=by
 refine pI func352 rfl ntmps352 results352 call352 ?_
 (refine wkad (w_2 hl hs) (w_3 c1 c2 c3) (w_1 (w_d 1 [(12,.sl 4 V0),(13,.sl 4 V1),(14,.agg [.sl 1 [iv a0,iv a1],.sl 1 [.sl 4 V2,.sl 4 V0],.sl 4 V1])] [] [6])) (w_s ?_);intros)
 all_goals exact gL
theorem ZAr (M GG:List AV) (i:Nat) (a0 a1:Int) (k:Int) (nm A0:AV) (r:Rat) (hl:i < M.length) (hs:M.getD i .u=.agg [iv k,nm,A0,.v (.bool (decide (r.num < 0))),lim (toL r.num.natAbs),lim (toL r.den)]) (hr:Sz r 2) (h0:0≤a0∧a0 < 40) (h1:0≤a1∧a1 < 40):Pure prog 352 [.agg [.sl 6 M,.sl 5 GG],iv i,.sl 1 [iv a0,iv a1]] (.agg [.sl 1 [iv a0,iv a1],.sl 1 [qpA (subX (nX 1) (nX r)),qpA (nX r)],qpA (nX 1)]):=by
 have x0:=Zf7 hr;have x1:=Zf7 Zjw;exact Zwi M GG i a0 a1 _ _ _ k nm A0 _ _ _ hl hs (Zm1 hr) (Zqk) (elParts _ _ _ _ (x0.s) (x1.s))
theorem elSch2:Pure prog 348 [iv 2] (.tup [.agg [.fn 352 []],.v (.bool true)]):=by
 refine pI func348 rfl ntmps348 results348 call348 ?_
 (refine wkap w_t w_t (w_r 0) (w_s ?_);intros)
 all_goals exact gL
theorem slClone (a b:Int) (l:List Int) (hl:l.length≤1000000):Pure prog 349 [.sl 1 (iv a :: iv b :: l.map iv)] (.sl 1 (iv a :: iv b :: l.map iv)):=by
 have hl:(l.map iv).length≤1000000:=by rw [ZB2];exact hl
 generalize l.map iv=L at *;refine pI func349 rfl ntmps349 results349 call349 ?_
 (refine wkap (w_1 hl) w_t (w_r 0) (w_s ?_);intros)
 all_goals exact gL
theorem elComb1 (M G:List AV) (i:Nat) (k:Int) (nm:AV) (A0:List AV) (rb rn rd:AV) (f:Nat) (ps ab be:List AV) (hi:i < M.length) (hs:M.getD i .u=.agg [iv k,nm,.sl 1 A0,rb,rn,rd]) (c0:Pure prog 348 [iv k] (.tup [.agg [.fn f []],.v (.bool true)]))
 (c1:Pure prog 349 [.sl 1 A0] (.sl 1 A0)) (c2:Pure prog f [.agg [.sl 6 M,.sl 5 G],iv i,.sl 1 A0] (.agg [.sl 1 ps,.sl 1 ab,.sl 4 be])) (hb:be.length≤100) :
 Pure prog 338 [.agg [.sl 6 M,.sl 5 G],iv i] (if be.length=0 then .tup [.agg [.v (.slice none 0 0),.v (.slice none 0 0),.v (.slice none 0 0)],iv 3] else .tup [.agg [.sl 1 ps,.sl 1 ab,.sl 4 be],iv 0]):=by
 by_cases h0:be.length=0
 ·rw [ZBv h0];refine pI func338 rfl ntmps338 results338 call338 ?_
  (refine wkad (w_3 hi hs h0) (w_3 c0 c1 c2) (w_1 (w_d 4 [(10,.sl 1 A0),(11,.agg [.sl 1 ps,.sl 1 ab,.sl 4 be])] [] [])) (w_s ?_);intros)
  all_goals exact gL
 ·rw [ZBu h0];refine pI func338 rfl ntmps338 results338 call338 ?_
  (refine wkad (w_3 hi hs h0) (w_3 c0 c1 c2) (w_1 (w_d 4 [(10,.sl 1 A0),(11,.agg [.sl 1 ps,.sl 1 ab,.sl 4 be])] [] [])) (w_s ?_);intros)
  all_goals exact gL
section
attribute [local go_sem] underlying3 underlying4 underlying161 underlying24 underlying26 underlying28 underlying91 underlying76 underlying78 underlying33 underlying34 sz3 by3 z3 szB zB Zas zRat Zaw zInt Zav zNat Zah Zaq Zai Bool.and_self Zal Zba zSlQ szQT byQT zQT Za9 zSlT szQP zQP underlying346 underlying47 szFr byFr zFr Zca Zcb zSQP underlying9 underlying22 underlying35 underlying81 underlying39 underlying42 underlying30 underlying40 Zbu zErr Za8 Zbx zStr szL byL zL Zbe Zbg Zce Zch zFig Zcg zSlI Zcf zSlS Zbs Zbt Zcy Zcz zSlF underlying353 underlying363 underlying350 underlying361 Zer Zey zCmb Zep zSch szFn zFn Zeq zPlc
end
section
attribute [local go_sem] underlying3 underlying4 underlying161 underlying24 underlying26 underlying28 underlying91 underlying76 underlying78 underlying33 underlying34 sz3 by3 z3 szB zB Zas zRat Zaw zInt Zav zNat Zah Zaq Zai Bool.and_self Zal Zba zSlQ szQT byQT zQT Za9 zSlT szQP zQP underlying346 underlying47 szFr byFr zFr Zca Zcb zSQP underlying9 underlying22 underlying35 underlying81 underlying39 underlying42 underlying30 underlying40 Zbu zErr Za8 Zbx zStr szL byL zL Zbe Zbg Zce Zch zFig Zcg zSlI Zcf zSlS Zbs Zbt Zcy Zcz zSlF underlying353 underlying363 underlying350 underlying361 Zer Zey zCmb Zep zSch szFn zFn Zeq zPlc
end
section
attribute [local go_sem] underlying3 underlying4 underlying161 underlying24 underlying26 underlying28 underlying91 underlying76 underlying78 underlying33 underlying34 sz3 by3 z3 szB zB Zas zRat Zaw zInt Zav zNat Zah Zaq Zai Bool.and_self Zal Zba zSlQ szQT byQT zQT Za9 zSlT szQP zQP underlying346 underlying47 szFr byFr zFr Zca Zcb zSQP underlying9 underlying22 underlying35 underlying81 underlying39 underlying42 underlying30 underlying40 Zbu zErr Za8 Zbx zStr szL byL zL Zbe Zbg Zce Zch zFig Zcg zSlI Zcf zSlS Zbs Zbt Zcy Zcz zSlF underlying353 underlying363 underlying350 underlying361 Zer Zey zCmb Zep zSch szFn zFn Zeq zPlc
end
theorem l2 {l:List Int} (h:l.length=2):∃a b,l=[a,b]:=by
 match l,h with
 | [a,b],_=>exact⟨a,b,rfl⟩
theorem l3 {l:List Int} (h:l.length=3):∃a b c,l=[a,b,c]:=by
 match l,h with
 | [a,b,c],_=>exact⟨a,b,c,rfl⟩
theorem l4 {l:List Int} (h:l.length=4):∃a b c d,l=[a,b,c,d]:=by
 match l,h with
 | [a,b,c,d],_=>exact⟨a,b,c,d,rfl⟩
abbrev tOf (ss:List RS) (i:Nat):Int:=(prN ((ss.take i).map RS.k)).1
theorem none_q {r:RQ} (h:r.none=true):Sz r.q 2:=by
 unfold RQ.none at h;simp only [ZCm,ZEd,ZCs] at h;obtain⟨s,l,d⟩:=r;simp only at h;obtain⟨rfl,hl,hd⟩:=h;obtain rfl:=List.length_eq_zero_iff.1 hl;obtain rfl:=List.length_eq_zero_iff.1 hd;exact⟨by decide +kernel,by decide +kernel⟩
theorem errS_r {ss:List RS} {i:Nat} (hi:i < ss.length) (h:errS ss i=0):(ss[i].k=2∧ss[i].r.ok=true)∨(ss[i].k≠2∧ss[i].r.none=true):=by
 unfold errS at h;rw [show ss.getD i RS.zero=ss[i] from by rw [ZCb,ZB6 hi];rfl] at h;generalize ss[i]=s at *;simp only at h;split at h
 ·omega
 ·split at h
  ·omega
  ·split at h
   ·omega
   ·split at h
    ·omega
    ·rename_i hn;by_cases hk:s.k=2
     ·left;refine⟨hk,?_⟩
      cases hr:s.r.ok with
      | true=>rfl
      | false=>exact absurd (.inl ⟨hk,hr⟩) hn
     ·right;refine⟨hk,?_⟩
      cases hr:s.r.none with
      | true=>rfl
      | false=>exact absurd (.inr ⟨hk,hr⟩) hn
theorem st_a {ss:List RS} {i:Nat} (hi:i < ss.length) (hl:ss.length≤8) (he:errS ss i=0) (hr:ss[i].r.lm 2):StA ss[i].k (tOf ss i) i ss.length ss[i].ar ss[i].r.q:=by
 obtain⟨h1,h2,h3,h4⟩:=Zjl hi he;have ht:0≤tOf ss i∧tOf ss i≤16:=by have h:=prN_in ss (k:=i) hl;exact⟨h.1,h.2.1⟩
 have hz:Sz ss[i].r.q 2:=by
  rcases errS_r hi he with⟨_,h⟩ | ⟨_,h⟩
  ·exact(RQ.ok_av hr h).2
  ·exact none_q h
 generalize ss[i]=s at *;unfold arS at h1 h2;refine⟨zo,hz,λk hk=>by have:=h3 k hk;omega,λk hk=>(h3 k hk).2,zo,⟨?_,?_,?_,?_,?_⟩,?_⟩<;>intro hk
 ·rw [hk] at h2;simp at h2;omega
 ·rw [hk] at h2;simp at h2;omega
 ·rcases hk with hk | hk<;>rw [hk] at h2<;>simp at h2<;>omega
 ·rcases hk with hk | hk | hk<;>rw [hk] at h2<;>simp at h2<;>omega
 ·rw [hk] at h2;simp at h2;omega
 ·rw [hk] at h2;simp at h2;omega
def cmR:Option Cb→AV
 | none=>.tup [.agg [.v (.slice none 0 0),.v (.slice none 0 0),.v (.slice none 0 0)],iv 8]
 | some c=>if c.be.length=0 then .tup [.agg [.v (.slice none 0 0),.v (.slice none 0 0),.v (.slice none 0 0)],iv 3] else .tup [c.av,iv 0]
def rpR:Option Cb→AV
 | none=>.tup [.v (.slice none 0 0),.v (.slice none 0 0),.v (.slice none 0 0),iv 8]
 | some c=>.tup [ivs c.ps,.sl 1 (c.ab.map qpA),qpA c.be,iv 0]
theorem elCombS {ss:List RS} {gs:List RG} {i f:Nat} {k:Int} {nm rb rn rd:AV} {A0 A1:List AV} {c:Cb} (hi:i < ss.length) (hs:(ss.map RS.av).getD i .u=.agg [iv k,nm,.sl 1 A0,rb,rn,rd]) (c0:Pure prog 348 [iv k] (.tup [.agg [.fn f []],.v (.bool true)]))
 (c1:Pure prog 349 [.sl 1 A1] (.sl 1 A1)) (h01:A0=A1) (c2:Pure prog f [figA ss gs,iv i,.sl 1 A1] c.av) (hb:c.be.length≤4):Pure prog 338 [figA ss gs,iv i] (cmR (some c)):=by
 subst h01;have h:=elComb1 (ss.map RS.av) (gs.map RG.av) i k nm A0 rb rn rd f _ _ _ (by rw [ZB2];exact hi) hs c0 c1 c2 (by rw [ZB2];omega);rw [ZB2] at h;exact h
theorem elComb2 (ss:List RS) (gs:List RG) (i:Nat) (hi:i < ss.length) (h8:ss.length≤8) (he:errS ss i=0) (hr:ss[i].r.lm 2) (k2:ss[i].k=2):Pure prog 338 [figA ss gs,iv i] (cmR (cbOf ss[i].k ss[i].ar ss[i].r.q (tOf ss i))):=by
 have hM:(ss.map RS.av).getD i .u=.agg [iv ss[i].k,strA ss[i].nm,ivs ss[i].ar,.v (.bool ss[i].r.s),lim ss[i].r.l,lim ss[i].r.d]:=Zam RS.av hi;have hl:i < (ss.map RS.av).length:=by rw [ZB2];exact hi
 have hA:=st_a hi h8 he hr;obtain⟨h1,h2,h3,h4⟩:=Zjl hi he;have hg:∀k,k < ss[i].ar.length→0≤gI ss[i].ar k∧gI ss[i].ar k < 40:=λk hk=>by have:=h3 k hk;omega
 have ht:=hA.tr;have cp:Pure prog 362 [.agg [.sl 6 (ss.map RS.av),.sl 5 (gs.map RG.av)],iv i] (iv (tOf ss i)):=elParam ss gs i zo zo;generalize tOf ss i=t at *;generalize ss[i]=s at *;obtain⟨k,nm,ar,r⟩:=s;simp only at hM hA h1 h2 h3 h4 hg hr k2 ⊢;subst k2;obtain⟨a0,a1,rfl⟩:=l2 (show ar.length=2 by simp [arS] at h2;omega);have g0:0≤a0∧a0 < 40:=hg 0 zs;have g1:0≤a1∧a1 < 40:=hg 1 zs;obtain⟨hv,hz⟩:=RQ.ok_av hr (h4 rfl);have hv:AV.agg [.v (.bool r.s),lim r.l,lim r.d]=.agg [.v (.bool (decide (r.q.num < 0))),lim (toL r.q.num.natAbs),lim (toL r.q.den)]:=hv;simp only [AV.agg.injEq,List.cons.injEq,and_true] at hv
 rw [hv.1,hv.2.1,hv.2.2] at hM;exact elCombS hi hM elSch2 (slClone _ _ [] zs) rfl (ZAr _ _ i a0 a1 2 _ _ r.q hl hM hz g0 g1) (cb_ok (show cbOf 2 [a0,a1] r.q t=some _ from rfl) hA.sz hA.rg hA.n40 hA.tr hA.l).be.l
section
attribute [local go_sem] underlying3 underlying4 underlying161 underlying24 underlying26 underlying28 underlying91 underlying76 underlying78 underlying33 underlying34 sz3 by3 z3 szB zB Zas zRat Zaw zInt Zav zNat Zah Zaq Zai Bool.and_self Zal Zba zSlQ szQT byQT zQT Za9 zSlT szQP zQP underlying346 underlying47 szFr byFr zFr Zca Zcb zSQP underlying9 underlying22 underlying35 underlying81 underlying39 underlying42 underlying30 underlying40 Zbu zErr Za8 Zbx zStr szL byL zL Zbe Zbg Zce Zch zFig Zcg zSlI Zcf zSlS Zbs Zbt Zcy Zcz zSlF underlying353 underlying363 underlying350 underlying361 Zer Zey zCmb Zep zSch szFn zFn Zeq zPlc
end
theorem ZAs (k q r:Int) (mid:Bool) (ps:List Int) (hn:ps.length≤100) (AB AT MU AS OT:Nat→List AV) (W PY PR IN:Nat→Nat→List AV) (BE DD AA:List AV) (hA:∀i,i < ps.length→AA.getD i .u=.sl 4 (AB i)) (hlA:AA.length=ps.length)
 (cAt:∀i,i < ps.length→Pure prog 347 [.agg [iv k,iv q,iv r,.v (.bool mid)],iv (gI ps i)] (.sl 4 (AT i)))
 (cMu:∀i,i < ps.length→Pure prog 66 [.sl 4 (AB i),.sl 4 (AT i)] (.sl 4 (MU i)))
 (cAd:∀i,i < ps.length→Pure prog 69 [.sl 4 (AS i),.sl 4 (MU i)] (.sl 4 (AS (i+1)))) (h0:AS 0=[])
 (cB:mid=true→Pure prog 66 [.sl 4 (BE),.sl 4 (AS ps.length)] (.sl 4 (OT 0))) (cW:∀i j,mid=true→i < j→j < ps.length→Pure prog 66 [.sl 4 (AB i),.sl 4 (AB j)] (.sl 4 (W i j)))
 (cP:∀i j,mid=true→i < j→j < ps.length→Pure prog 344 [iv (gI ps i),iv (gI ps j),iv (gI ps i)] (.sl 4 (PY i j)))
 (cT:∀i j,mid=true→i < j→j < ps.length→Pure prog 66 [.sl 4 (W i j),.sl 4 (PY i j)] (.sl 4 (PR i j)))
 (cS:∀i d,mid=true→i+1+d < ps.length→Pure prog 65 [.sl 4 (IN i d),.sl 4 (PR i (i+1+d))] (.sl 4 (IN i (d+1))))
 (hI:∀i,IN i 0=OT i) (hO:∀i,i < ps.length→IN i (ps.length - (i+1))=OT (i+1)) (cD:mid=true→Pure prog 66 [.sl 4 (BE),.sl 4 (BE)] (.sl 4 (DD))) :
 Pure prog 339 [.agg [.sl 1 (ps.map iv),.sl 1 AA,.sl 4 BE],.agg [iv k,iv q,iv r,.v (.bool mid)]] (if mid=true then .agg [.sl 4 (OT ps.length),.sl 4 DD] else .agg [.sl 4 (AS ps.length),.sl 4 BE]):=by
 have hlp:(ps.map iv).length=ps.length:=ZB2 ..;have hg:∀i,i < ps.length→(ps.map iv).getD i .u=iv (gI ps i):=λi h=>by rw [Zew h];exact Zam iv h
 generalize ps.map iv=PS at *;refine pI func339 rfl ntmps339 results339 call339 ?_
 (refine wkad (w_1 hlp) w_t w_t (w_s ?_);intros)
 rename_i g2 g3 g4;refine Zfb (Frz.nil (d:=5) 4 (gC)) ?_;refine Zad (ι:=Nat) (λi e m=>i≤ps.length∧((e 2=.pbox 2 g2 0∧m 2=some (.box g2 353 [.sl 1 PS,.sl 1 AA,.sl 4 BE] false))∧(e 3=.pbox 3 g3 0∧m 3=some (.box g3 350 [iv k,iv q,iv r,.v (.bool mid)] false))∧(e 4=.pbox 4 g4 0∧m 4=some (.box g4 47 [.v (.slice none 0 0),.v (.slice none 0 0)] false)))∧(e 12=.sl 1 PS∧e 13=iv ps.length∧e 14=iv i)∧e 5=.sl 4 (AS i)) (λi=>ps.length - i) 0 zr ?_ ?_
 ·rintro i e m ⟨hi,⟨⟨e2,m2⟩,⟨e3,m3⟩,⟨e4,m4⟩⟩,⟨e12,e13,e14⟩,e5⟩
  by_cases hlt:i < ps.length
  ·have hgi:=hg i hlt;have hai:=hA i hlt;have c1:=cAt i hlt;have c2:=cMu i hlt;have c3:=cAd i hlt;clear cAt cMu cAd cB cW cP cT cS hI hO cD hA hg h0
   (refine wkad (w_14 e2 m2 e3 m3 e4 m4 e12 e13 e14 e5 hlp hgi hai hlA) (w_3 c1 c2 c3) (w_1 (w_d 5 [(8,.sl 4 (AT i)),(9,.sl 4 (MU i)),(10,.sl 4 (AS (i+1)))] [] [])) (w_s ?_);intros)
   exact⟨i+1,⟨zo,⟨⟨gW e2,gW m2⟩,⟨gW e3,gW m3⟩,⟨gW e4,gW m4⟩⟩,⟨gW e12,gW e13,gS⟩,gC⟩,zo⟩
  ·have:i=ps.length:=zo;subst this
   cases mid with
   | false =>
     rw [ZBu zs];clear cAt cMu cAd cB cW cP cT cS hI hO cD hA hg h0
     (refine wkad (w_11 e2 m2 e3 m3 e4 m4 e12 e13 e14 e5 hlp) w_t w_t (w_s ?_);intros)
     all_goals exact gM (w_2 e4 m4)
   | true =>
     rw [ZBv rfl];have cb:=cB rfl;have cd:=cD rfl;clear cAt cMu cAd cB cD h0
     (refine wkad (w_11 e2 m2 e3 m3 e4 m4 e12 e13 e14 e5 hlp) (w_1 cb) w_t (w_s ?_);intros)
     refine Zad (ι:=Nat) (λi e m=>i≤ps.length∧((e 2=.pbox 2 g2 0∧m 2=some (.box g2 353 [.sl 1 PS,.sl 1 AA,.sl 4 BE] false))∧(e 3=.pbox 3 g3 0∧m 3=some (.box g3 350 [iv k,iv q,iv r,.v (.bool true)] false))∧(e 4=.pbox 4 g4 0∧m 4=some (.box g4 47 [.v (.slice none 0 0),.v (.slice none 0 0)] false)))∧(e 44=iv ps.length∧e 45=iv i)∧e 5=.sl 4 (OT i)) (λi=>ps.length - i) 0 zr ?_ ?_
     ·clear e2 m2 e3 m3 e4 m4 e12 e13 e14 e5 cb
      rintro i e m ⟨hi,⟨⟨e2,m2⟩,⟨e3,m3⟩,⟨e4,m4⟩⟩,⟨e44,e45⟩,e5⟩
      by_cases hlt:i < ps.length
      ·have hai:=hA i hlt;have hgi:=hg i hlt
       (refine wkax (w_10 e2 m2 e3 m3 e4 m4 e44 e45 e5 hlp) w_t w_t w_t w_t w_t w_t (w_r 0) (w_s ?_);intros)
       rw [←hI i] at e5;refine Zad (ι:=Nat) (λd e m=>i+1+d≤ps.length∧((e 2=.pbox 2 g2 0∧m 2=some (.box g2 353 [.sl 1 PS,.sl 1 AA,.sl 4 BE] false))∧(e 3=.pbox 3 g3 0∧m 3=some (.box g3 350 [iv k,iv q,iv r,.v (.bool true)] false))∧(e 4=.pbox 4 g4 0∧m 4=some (.box g4 47 [.v (.slice none 0 0),.v (.slice none 0 0)] false)))∧(e 44=iv ps.length∧e 45=iv i∧e 8=iv i∧e 9=iv ((i+1+d:Nat):Int))∧e 5=.sl 4 (IN i d)) (λd=>ps.length - (i+1+d)) 0 zr ?_ ?_
       ·clear e2 m2 e3 m3 e4 m4 e44 e45 e5
        rintro d e m ⟨hd,⟨⟨e2,m2⟩,⟨e3,m3⟩,⟨e4,m4⟩⟩,⟨e44,e45,e8,e9⟩,e5⟩
        by_cases hld:i+1+d < ps.length
        ·have haj:=hA (i+1+d) hld;have hgj:=hg (i+1+d) hld;have c1:=cW i (i+1+d) rfl zo hld;have c2:=cP i (i+1+d) rfl zo hld;have c3:=cT i (i+1+d) rfl zo hld;have c4:=cS i d rfl hld;have hs:((i+1+d:Nat):Int)+1=((i+1+(d+1):Nat):Int):=zo;clear cW cP cT cS hI hO hA hg;generalize hj:i+1+d=j at *
         (refine wkad (w_18 e2 m2 e3 m3 e4 m4 e44 e45 e8 e9 e5 hlp hlA hai hgi haj hgj hs) (w_4 c1 c2 c3 c4) (w_2 (w_d 16 [(10,.sl 4 (W i j))] [] []) (w_d 17 [(17,.sl 4 (PY i j)),(18,.sl 4 (PR i j)),(19,.sl 4 (IN i (d+1)))] [] [])) (w_s ?_);intros)
         exact⟨d+1,⟨zo,⟨⟨gW e2,gW m2⟩,⟨gW e3,gW m3⟩,⟨gW e4,gW m4⟩⟩,⟨gW e44,gW e45,gW e8,gW hs⟩,gC⟩,zo⟩
        ·have hd2:d=ps.length - (i+1):=zo;rw [hd2,hO i hlt] at e5;have hjN:((i+1+d:Nat):Int)=(ps.length:Int):=zo;rw [hjN] at e9;clear cW cP cT cS hI hO hA hg
         (refine wkad (w_12 e2 m2 e3 m3 e4 m4 e44 e45 e8 e9 e5 hlp) w_t w_t (w_s ?_);intros)
         exact⟨i+1,⟨zo,⟨⟨gW e2,gW m2⟩,⟨gW e3,gW m3⟩,⟨gW e4,gW m4⟩⟩,⟨gW e44,gS⟩,gW e5⟩,zo⟩
       ·exact⟨zo,⟨⟨gW e2,gW m2⟩,⟨gW e3,gW m3⟩,⟨gW e4,gW m4⟩⟩,⟨gW e44,gW e45,gC,gS⟩,gW e5⟩
      ·have:i=ps.length:=zo;subst this;clear cW cP cT cS hI hO hA hg
       (refine wkad (w_10 e2 m2 e3 m3 e4 m4 e44 e45 e5 hlp) (w_1 cd) w_t (w_s ?_);intros)
       all_goals exact gM (w_2 e4 m4)
     ·exact⟨ZB5 _,⟨⟨gW e2,gW m2⟩,⟨gW e3,gW m3⟩,⟨gW e4,gW m4⟩⟩,⟨gW hlp,gC⟩,gC⟩
 ·exact⟨ZB5 _,⟨⟨gC,gC⟩,⟨gC,gC⟩,⟨gC,gC⟩⟩,⟨gC,gW hlp,gC⟩,by rw [h0];exact gC⟩
end Go.Proofs.YtkefeinbjbeidaaGreatDoor
