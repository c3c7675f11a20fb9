/- Contracts of the functions that the law reaches, and the rules by which they are walked. They say what a call hands back for every input within the bounds that each names; no other condition. -/
import Derived.Test.YtkefeinbjbeidaaGreatDoorBm8
set_option linter.unusedSimpArgs false
set_option linter.unusedVariables false
set_option maxRecDepth 20000
set_option maxHeartbeats 16000000
namespace Go.Proofs.YtkefeinbjbeidaaGreatDoor
open Go Go.RowKit Go.Pg Go.Pol Go.Proofs.Tryz
attribute [-bool_to_prop] Bool.and_eq_decide Bool.or_eq_decide Bool.decide_beq_decide decide_eq_decide
attribute [local go_sem] Zaq Zau Zat Zag Zao Zah Bool.and_self Zal Zbb Za7 undFnR
def rawQ (a:Rat):RQ:=⟨decide (a.num < 0),toL a.num.natAbs,toL a.den⟩
theorem Zra {a:Rat} {k:Nat} (h:Sz a k):(rawQ a).lm k:=⟨Zar _,Zar _,h.1,h.2⟩
theorem Zq9 (a:Rat):(rawQ a).ok=true:=by
 unfold rawQ RQ.ok RQ.zok;simp only [ZCd,ZCj,ZD4,ZDw,Zap];refine⟨⟨⟨⟨(Zij (Zar _)).2 (by rw [Zap]),?_⟩,(Zij (Zar _)).2 (by rw [Zap])⟩,a.reduced⟩,Zbc.2 (ZDg a.den_nz)⟩;by_cases h:a.num < 0
 ·have:(toL a.num.natAbs).length≠0:=by have:=Zbc.2 (show 0 < a.num.natAbs by omega);omega
  simp [h,this]
 ·simp [h]
theorem Zxr (a:Rat):(rawQ a).q=a:=by
 unfold rawQ RQ.q;simp only [Zap];rw [show zI (decide (a.num < 0)) a.num.natAbs=a.num from by unfold zI;by_cases h:a.num < 0<;>simp [h]<;>omega];exact ZF7 a
def cstE (a:Rat):List RE:=[⟨rawQ a,[]⟩]
def ofE (q:Qt):List RE:=[⟨rawQ 1,[q]⟩]
theorem nrm_or (l:List RE):(∃G,nrmR l=.sl 4 G)∨nrmR l=.v (.slice none 0 0):=by
 unfold nrmR;split
 ·exact .inl ⟨_,rfl⟩
 ·exact .inr rfl
theorem norm_nil {f:Nat} {s:Bool} {x d:List Nat} {NR:AV} (c:Pure prog f [.sl 4 [RE.av ⟨⟨s,x,d⟩,[]⟩]] NR):Pure prog f [.sl 4 [.agg [.v (.bool s),lim x,lim d,.v (.slice none 0 0)]]] NR:=by
 refine Zf8 c (.cons (Vk.slL rfl (λe he=>by rw [List.mem_singleton.1 he];rfl) (λe he=>by rw [List.mem_singleton.1 he];rfl) ?_) .nil);exact .cons (.refl _) (.cons (.refl _) (.cons (.refl _) (.cons (.nil 4) .nil)))
theorem Zsb (a:Rat) {J:Nat} (ha:Sz a J) (hJ:J≤1000):Pure prog 55 [ratQ a] (nrmR (cstE a)):=by
 have c:=norm_nil (exNorm (cstE a) (J:=J) (by simp [cstE]) (λt ht=>by rw [List.mem_singleton.1 ht];exact Zra ha) (λt ht=>by rw [List.mem_singleton.1 ht];simp) hJ);show Pure _ _ [.agg [.v (.bool (decide (a.num < 0))),lim (toL a.num.natAbs),lim (toL a.den)]] _;rcases nrm_or (cstE a) with⟨G,h⟩ | h
 all_goals
  rw [h] at c ⊢;clear h ha;generalize toL a.num.natAbs=x at *;generalize toL a.den=d at *;refine pI func55 rfl ntmps55 results55 call55 ?_
  (refine wkax w_t w_t w_t (w_1 c) w_t w_t w_y (w_r 0) (w_s ?_);intros)
  all_goals exact gL
theorem exOf (q:Qt):Pure prog 64 [q.av] (nrmR (ofE q)):=by
 have c:Pure prog 100 [.sl 4 [.agg [.v (.bool (decide ((1:Rat).num < 0))),lim (toL (1:Rat).num.natAbs),lim (toL (1:Rat).den),.sl 4 [.agg [iv q.k,iv q.a,iv q.b,iv q.c]]]]] (nrmR (ofE q)):=exNorm (ofE q) (J:=1) (by simp [ofE]) (λt ht=>by rw [List.mem_singleton.1 ht];exact Zra (Zox (.inr (.inr rfl)))) (λt ht=>by rw [List.mem_singleton.1 ht];simp) zo;have c1:Pure prog 27 [iv 1] (.agg [.v (.bool (decide ((1:Rat).num < 0))),lim (toL (1:Rat).num.natAbs),lim (toL (1:Rat).den)]):=Zk6 1 zo;generalize decide ((1:Rat).num < 0)=s1 at *;generalize toL (1:Rat).num.natAbs=x1 at *;generalize toL (1:Rat).den=d1 at *
 obtain⟨k,a,b,cc⟩:=q;simp only at *;rcases nrm_or (ofE ⟨k,a,b,cc⟩) with⟨G,h⟩ | h
 ·rw [h] at c ⊢;clear h;refine pI func64 rfl ntmps64 results64 call64 ?_
  (refine wkad w_t (w_2 c1 c) (w_1 (w_d 1 [(0,.agg [.v (.bool s1),lim x1,lim d1]),(2,.sl 4 [.agg [iv k,iv a,iv b,iv cc]]),(4,.sl 4 [.agg [.v (.bool s1),lim x1,lim d1,.sl 4 [.agg [iv k,iv a,iv b,iv cc]]]]),(5,.sl 4 G)] [] [])) (w_s ?_);intros)
  all_goals exact gL
 ·rw [h] at c ⊢;clear h;refine pI func64 rfl ntmps64 results64 call64 ?_
  (refine wkad w_t (w_2 c1 c) (w_1 (w_d 1 [(0,.agg [.v (.bool s1),lim x1,lim d1]),(2,.sl 4 [.agg [iv k,iv a,iv b,iv cc]]),(4,.sl 4 [.agg [.v (.bool s1),lim x1,lim d1,.sl 4 [.agg [iv k,iv a,iv b,iv cc]]]]),(5,.v (.slice none 0 0))] [] [])) (w_s ?_);intros)
  all_goals exact gL
theorem Zs2 (q:QTs):sclT 1 q=q:=by
 unfold sclT;have:(λt:Rat × List Qt=>((1*t.1,t.2):Rat × List Qt))=id:=by funext t;show(1*t.1,t.2)=t;rw [ZE2]
 rw [this,List.map_id]
theorem exPlus (p q:QTs) {j k n:Nat} (hp:QK p j n) (hq:QK q k n) (np:∀t∈p,t.1≠0) (nq:∀t∈q,t.1≠0) (lp:p.length≤100000000) (lq:q.length≤100000000) (hj:j≤900000) (hk:k≤900000) (hn:n≤1000000):Pure prog 69 [qpA p,qpA q] (qpA (Za9 p q)):=by
 have c:=Zzz _ _ opAdd p q hp hq np nq lp lq hj hk hn;rw [Zs2] at c;have c:Pure prog 116 [.agg [.fn 52 []],.sl 4 (p.map qtA),.sl 4 (q.map qtA)] (.sl 4 ((Za9 p q).map qtA)):=c;show Pure _ _ [.sl 4 (p.map qtA),.sl 4 (q.map qtA)] (.sl 4 ((Za9 p q).map qtA));generalize (Za9 p q).map qtA=R at *;generalize p.map qtA=A at *;generalize q.map qtA=B at *;refine pI func69 rfl ntmps69 results69 call69 ?_
 (refine wkap w_t (w_1 c) (w_r 0) (w_s ?_);intros)
 all_goals exact gL
theorem exMinus (p q:QTs) {j k n:Nat} (hp:QK p j n) (hq:QK q k n) (np:∀t∈p,t.1≠0) (nq:∀t∈q,t.1≠0) (lp:p.length≤100000000) (lq:q.length≤100000000) (hj:j≤900000) (hk:k≤900000) (hn:n≤1000000):Pure prog 65 [qpA p,qpA q] (qpA (Za9 p (sclT (-1) q))):=by
 have c:=Zzz _ _ opSub p q hp hq np nq lp lq hj hk hn;have c:Pure prog 116 [.agg [.fn 115 []],.sl 4 (p.map qtA),.sl 4 (q.map qtA)] (.sl 4 ((Za9 p (sclT (-1) q)).map qtA)):=c;show Pure _ _ [.sl 4 (p.map qtA),.sl 4 (q.map qtA)] (.sl 4 ((Za9 p (sclT (-1) q)).map qtA));generalize (Za9 p (sclT (-1) q)).map qtA=R at *;generalize p.map qtA=A at *;generalize q.map qtA=B at *;refine pI func65 rfl ntmps65 results65 call65 ?_
 (refine wkap w_t (w_1 c) (w_r 0) (w_s ?_);intros)
 all_goals exact gL
attribute [go_sem] underlying346 underlying47 szFr byFr zFr zSQP
attribute [local go_sem] Zce Zcj
theorem xbC (p:QTs) (n:Nat) (h:(∀t∈p,t.1≠0∧(t.2.Pairwise λa b=>Qt.cmp a b≤0)∧(∀q∈t.2,q.norm=(q,1))∧t.2.length≤n∧t.1.den ∣ 1)∧(p.Pairwise λs t=>ordQ s.2 t.2 < 0)∧n1 p≤65535):XB p 1 n :=
 ⟨⟨λt ht=>⟨(h.1 t ht).1,(h.1 t ht).2.1,(h.1 t ht).2.2.1⟩,h.2.1⟩,λt ht=>(h.1 t ht).2.2.2.1,1,65535,by decide,by decide,by decide,⟨λt ht=>(h.1 t ht).2.2.2.2,h.2.2⟩⟩
theorem Zyp {l:List RE} (h:l.all RE.ok=true):nrmR l=qpA (gatM (l.map RE.t)):=by unfold nrmR;rw [ZBm h]
theorem add_C {p q r:QTs} (hp:EX p) (hq:EX q) (h:Go.Pol.sumC ordQ (p++q)=r):Za9 p q=r:=by
 rw [←h,Zm7 Zbh];exact Zic (D:=okQ) Zbh (Zgh Zbh hp hq) (Zgr Zbh λt ht=>(List.mem_append.1 ht).elim (hp.dom t) (hq.dom t)) λφ=>by rw [Zlo Zbh,Zuc Zbh,Zsd]
theorem Zk9 (l:List Qt):qtA ((1:Rat),l)=.agg [.v (.bool false),lim [1],lim [1],qsA l]:=by
 show AV.agg [.v (.bool (decide ((1:Rat).num < 0))),lim (toL (1:Rat).num.natAbs),lim (toL (1:Rat).den),qsA l]=_;rw [show(1:Rat).num=1 from rfl,show(1:Rat).den=1 from rfl,show(1:Int).natAbs=1 from rfl,Zqo];rfl
theorem Zil:Sz (1:Rat) 1:=Zox (.inr (.inr rfl))
theorem Znf:ratQ (1:Rat)=.agg [.v (.bool false),lim [1],lim [1]]:=by
 show AV.agg [.v (.bool (decide ((1:Rat).num < 0))),lim (toL (1:Rat).num.natAbs),lim (toL (1:Rat).den)]=_;rw [show(1:Rat).num=1 from rfl,show(1:Rat).den=1 from rfl,show(1:Int).natAbs=1 from rfl,Zqo];rfl
abbrev oneE (q:List Qt):RE:=⟨rawQ 1,q⟩
theorem oneE_t {q:List Qt} (h1:sgP q=1) (h2:putP q=q):RE.t (oneE q)=(1,q):=by
 show((rawQ 1).q*(sgP q:Rat),putP q)=_;rw [Zxr,h1,h2,show((1:Int):Rat)=1 from rfl,ZE1]
theorem awConst1:Pure prog 55 [.agg [.v (.bool false),lim [1],lim [1]]] (.sl 4 [.agg [.v (.bool false),lim [1],lim [1],.sl 4 []]]):=by
 have c:=Zsb 1 Zil zo;rw [Zyp (by show(RE.ok (oneE []) && true)=true;rw [ZF2];show((rawQ 1).ok && true)=true;rw [Zq9];rfl)] at c
 have e:gatM ((cstE 1).map RE.t)=[((1:Rat),[])]:=by
  show gatM [RE.t (oneE [])]=_;rw [oneE_t rfl rfl,Znx,ZBl zd]
 rw [e,Znf] at c;simp only [qpA,ZCm,ZDl,Zk9] at c;exact c
attribute [local go_sem] Za5
theorem toL_two:toL 2=[2]:=by rw [Zer zo,show 2/65536=0 from rfl,Zaz]
theorem Zgo:Sz (2:Rat) 1:=⟨by show(toL 2).length≤1;rw [toL_two];decide,by show(toL 1).length≤1;rw [Zfs];omega⟩
theorem sz_m1:Sz (-1:Rat) 1:=⟨by show(toL 1).length≤1;rw [Zfs];omega,by show(toL 1).length≤1;rw [Zfs];omega⟩
def qOkAt (q:List Qt) (i:Nat):Bool:=decide ((q.getD i Qt.zero).norm=(q.getD i Qt.zero,1)) && (decide (i=0) || decide (Qt.cmp (q.getD (i - 1) Qt.zero) (q.getD i Qt.zero)≤0))
def prodB (q:List Qt):Bool:=(List.range q.length).all (qOkAt q)
def RE.zero:RE:=⟨⟨false,[],[]⟩,[]⟩
def tOkAt (l:List RE) (i:Nat):Bool:=(l.getD i RE.zero).r.ok && (!decide ((l.getD i RE.zero).r.q=0) && (prodB (l.getD i RE.zero).q && (decide (i=0) || decide (ordQ (l.getD (i - 1) RE.zero).q (l.getD i RE.zero).q < 0))))
def rgtB (l:List RE):Bool:=(List.range l.length).all (tOkAt l)
section
attribute [local go_sem] underlying3 underlying4 underlying161 underlying24 underlying26 underlying28 underlying91 underlying76 underlying78 underlying33 underlying34 sz3 by3 z3 szB zB Zaq zRat Zau zInt Zat zNat Zag Zao Zah Bool.and_self Zal Zbb zSlQ szQT byQT zQT Za7 zSlT szQP zQP
end
section
attribute [local go_sem] underlying3 underlying4 underlying161 underlying24 underlying26 underlying28 underlying91 underlying76 underlying78 underlying33 underlying34 sz3 by3 z3 szB zB Zaq zRat Zau zInt Zat zNat Zag Zao Zah Bool.and_self Zal Zbb zSlQ szQT byQT zQT Za7 zSlT szQP zQP
end
def nrmT (l:List RE):QTs:=if l.all RE.ok=true then gatM (l.map RE.t) else []
section
attribute [local go_sem] underlying3 underlying4 underlying161 underlying24 underlying26 underlying28 underlying91 underlying76 underlying78 underlying33 underlying34 sz3 by3 z3 szB zB Zaq zRat Zau zInt Zat zNat Zag Zao Zah Bool.and_self Zal Zbb zSlQ szQT byQT zQT Za7 zSlT szQP zQP underlying346 underlying47 szFr byFr zFr Zce Zcj zSQP underlying35 underlying65 underlying9 Za5 zStr
end
section
variable {N n:Nat} {cs:List AV}
end
def smTerm (Q:Nat) (t:RE):Bool:=decide (t.q.length≤Q) && t.r.tiny
def smallB (T Q:Nat) (l:List RE):Bool:=decide (l.length≤T) && (l.all (smTerm Q) && rgtB l)
def RE.rt (t:RE):Rat × List Qt:=(t.r.q,t.q)
def mrgQ:List Qt→List Qt→List Qt
 | a,[]=>a
 | [],y :: b=>y :: b
 | x :: a,y :: b=>if Qt.cmp x y≤0 then x :: mrgQ a (y :: b) else y :: mrgQ (x :: a) b
termination_by a b=>a.length+b.length
section
attribute [local go_sem] underlying3 underlying4 underlying161 underlying24 underlying26 underlying28 underlying91 underlying76 underlying78 underlying33 underlying34 sz3 by3 z3 szB zB Zaq zRat Zau zInt Zat zNat Zag Zao Zah Bool.and_self Zal Zbb zSlQ szQT byQT zQT Za7 zSlT szQP zQP
end
theorem fst_of {α:Type} (F:α→Bool) (l:List α):∃n,n≤l.length∧(∀j (h:j < l.length),j < n→F l[j]=false)∧(∀h:n < l.length,F l[n]=true)∧l.any F=decide (n < l.length):=by
 induction l with
 | nil=>exact⟨0,by simp,by simp,by simp,by simp⟩
 | cons a l ih =>
   obtain⟨n,h1,h2,h3,h4⟩:=ih
   cases ha:F a with
   | true=>exact⟨0,by simp,λj h h'=>zo,λ_=>ha,by simp [ha]⟩
   | false =>
     refine⟨n+1,by simpa using h1,λj h h'=>?_,λh=>h3 (by simpa using h),by simp [ha,h4]⟩
     cases j with
     | zero=>exact ha
     | succ j=>exact h2 j (by simpa using h) zo
theorem Ztd (q:Qt):q.pts.length≤40:=by
 unfold Qt.pts;split
 ·rw [ZBt];exact ZBs (ZF8 _ _) zs
 ·simp
theorem slIdxI (l:List Int) (x:Int) (hl:l.length≤1000000):∃z:Int,Pure prog 274 [ivs l,iv x] (iv z)∧decide (0≤z)=l.any λt=>decide (x=t):=by
 have hlm:(l.map iv).length=l.length:=ZBt ..;have hg:∀i (h:i < l.length),(l.map iv).getD i .u=iv l[i]:=λi h=>Zaw iv h;obtain⟨n,h1,h2,h3,h4⟩:=fst_of (λt:Int=>decide (x=t)) l;refine⟨if n < l.length then (n:Int) else -1,?_,?_⟩
 ·show Pure _ _ [.sl 1 (l.map iv),iv x] _;generalize l.map iv=L at *;refine pI func274 rfl ntmps274 results274 call274 ?_
  (refine wkap (w_1 hlm) w_t (w_r 0) (w_s ?_);intros)
  refine Zad (ι:=Nat) (λk e m=>k≤n∧e 0=.sl 1 L∧e 1=iv x∧e 7=iv l.length∧e 8=iv k) (λk=>n - k) 0 zr ?_ ?_
  ·rintro k e m ⟨hk,e0,e1,e7,e8⟩
   by_cases hlt:k < l.length
   ·have hgk:=hg k hlt;by_cases hkn:k < n
    ·have hb:=of_decide_eq_false (h2 k hlt hkn);generalize l[k]=a at *
     (refine wkap (w_7 e0 e1 e7 e8 hgk hlm hb) w_t (w_r 0) (w_s ?_);intros)
     exact⟨k+1,⟨zo,gW e0,gW e1,gW e7,gS⟩,zo⟩
    ·have hkn:k=n:=zo;subst hkn;have hb:=ZGx (h3 hlt);rw [ZBm hlt];rw [←hb] at hgk;clear hb
     (refine wkap (w_6 e0 e1 e7 e8 hgk hlm) w_t (w_r 0) (w_s ?_);intros)
     all_goals exact gL
   ·rw [ZBl zo]
    (refine wkap (w_5 e0 e1 e7 e8 hlm) w_t (w_r 0) (w_s ?_);intros)
    all_goals exact gL
  ·exact⟨ZBw _,gC,gC,gW hlm,gC⟩
 ·rw [h4,ZCh,ZCj,ZCj];split<;>omega
theorem Zxb (l:List Int) (x:Int) (hl:l.length≤1000000):Pure prog 230 [ivs l,iv x] (.v (.bool (l.any λt=>decide (x=t)))):=by
 obtain⟨z,c,hz⟩:=slIdxI l x hl;rw [←hz];show Pure _ _ [.sl 1 (l.map iv),iv x] _;have c:Pure _ _ [.sl 1 (l.map iv),iv x] _:=c;generalize l.map iv=L at *;refine pI func230 rfl ntmps230 results230 call230 ?_
 (refine wkap w_t (w_1 c) (w_r 0) (w_s ?_);intros)
 all_goals exact gL
def hasQ (x:Int) (q:Qt):Bool:=q.pts.any λt=>decide (x=t)
def hasP (x:Int) (p:List Qt):Bool:=p.any (hasQ x)
def hasT (x:Int) (p:QTs):Bool:=p.any λt=>hasP x t.2
theorem Zuu {α:Type} {f:α→Bool} {l:List α} {i:Nat} (h:i < l.length) (h1:(l.take i).any f=false) (h2:f l[i]=false):(l.take (i+1)).any f=false:=by
 rw [ZD1 h,List.any_append,h1];simp [h2]
theorem ZA6 {α:Type} {f:α→Bool} {l:List α} {i:Nat} (h:i < l.length) (h2:f l[i]=true):l.any f=true:=List.any_eq_true.2 ⟨_,ZBy h,h2⟩
theorem exHas (p:QTs) (x:Int) (hl:p.length≤1000000) (hq:∀t∈p,t.2.length≤1000000):Pure prog 165 [.sl 4 (p.map qtA),iv x] (.v (.bool (hasT x p))):=by
 have hlm:(p.map qtA).length=p.length:=ZBt ..;have hg:∀i (h:i < p.length),(p.map qtA).getD i .u=.agg [.v (.bool (decide (p[i].1.num < 0))),lim (toL p[i].1.num.natAbs),lim (toL p[i].1.den),.sl 4 (p[i].2.map Qt.av)]:=λi h=>Zaw qtA h;have hq2:∀i (h:i < p.length),p[i].2.length≤1000000:=λi h=>hq _ (ZBy h);generalize p.map qtA=P at *;refine pI func165 rfl ntmps165 results165 call165 ?_
 (refine wkap (w_1 hlm) w_t (w_r 0) (w_s ?_);intros)
 refine Zad (ι:=Nat) (λi e m=>i≤p.length∧(e 1=iv x∧e 9=.sl 4 P∧e 10=iv p.length∧e 11=iv i)∧(p.take i).any (λt=>hasP x t.2)=false) (λi=>p.length - i) 0 zr ?_ ?_
 ·rintro i e m ⟨hi,⟨e1,e9,e10,e11⟩,hc⟩
  by_cases hlt:i < p.length
  ·have hgi:=hg i hlt;have hqi:=hq2 i hlt;have hqm:(p[i].2.map Qt.av).length=p[i].2.length:=ZBt ..;have hqe:∀b (h:b < p[i].2.length),(p[i].2.map Qt.av).getD b .u=.agg [iv p[i].2[b].k,iv p[i].2[b].a,iv p[i].2[b].b,iv p[i].2[b].c]:=λb h=>Zaw Qt.av h;have hst:hasP x p[i].2=false→(p.take (i+1)).any (λt=>hasP x t.2)=false:=Zuu hlt hc;have hht:hasP x p[i].2=true→hasT x p=true:=ZA6 (f:=λt:Rat × List Qt=>hasP x t.2) hlt;generalize p[i].2=w at *;generalize w.map Qt.av=qs at *
   (refine wkap (w_7 e1 e9 e10 e11 hlm hgi hqm) w_t (w_r 0) (w_s ?_);intros)
   refine Zad (ι:=Nat) (λb e m=>b≤w.length∧(e 1=iv x∧e 9=.sl 4 P∧e 10=iv p.length∧e 11=iv i∧e 16=.sl 4 qs∧e 17=iv w.length∧e 18=iv b)∧(w.take b).any (hasQ x)=false) (λb=>w.length - b) 0 zr ?_ ?_
   ·rintro b e m ⟨hb,⟨e1,e9,e10,e11,e16,e17,e18⟩,hcb⟩
    by_cases hbl:b < w.length
    ·have hqb:=hqe b hbl;have cp:Pure prog 231 [.agg [iv w[b].k,iv w[b].a,iv w[b].b,iv w[b].c]] (ivs w[b].pts):=Zkc w[b].k w[b].a w[b].b w[b].c;have cc:=Zxb w[b].pts x (by have:=Ztd w[b];omega);have hs2:hasQ x w[b]=false→(w.take (b+1)).any (hasQ x)=false:=Zuu hbl hcb;have hh2:hasQ x w[b]=true→hasP x w=true:=ZA6 (f:=hasQ x) hbl;have hqd:(w[b].pts.any λt=>decide (x=t))=hasQ x w[b]:=rfl;rw [hqd] at cc;generalize w[b].pts.map iv=pp at *
     cases hv:hasQ x w[b] with
     | true =>
       rw [hv] at cc;rw [hht (hh2 hv)];clear hs2 hh2 hst hht;generalize w[b]=y at *;obtain⟨y1,y2,y3,y4⟩:=y;simp only at *;generalize (Qt.pts ⟨y1,y2,y3,y4⟩)=pts at *
       (refine wkap (w_9 e1 e9 e10 e11 e16 e17 e18 hqm hqb) (w_2 cp cc) (w_r 0) (w_s ?_);intros)
       all_goals exact gL
     | false =>
       rw [hv] at cc;have hs3:=hs2 hv;clear hs2 hh2 hst hht;generalize w[b]=y at *;obtain⟨y1,y2,y3,y4⟩:=y;simp only at *;generalize (Qt.pts ⟨y1,y2,y3,y4⟩)=pts at *
       (refine wkap (w_9 e1 e9 e10 e11 e16 e17 e18 hqm hqb) (w_2 cp cc) (w_r 0) (w_s ?_);intros)
       exact⟨b+1,⟨zo,⟨gW e1,gW e9,gW e10,gW e11,gW e16,gW e17,gS⟩,hs3⟩,zo⟩
    ·have:b=w.length:=zo;subst this;rw [ZC8] at hcb;have hs3:=hst hcb
     (refine wkap (w_8 e1 e9 e10 e11 e16 e17 e18 hqm) w_t (w_r 0) (w_s ?_);intros)
     exact⟨i+1,⟨zo,⟨gW e1,gW e9,gW e10,gS⟩,hs3⟩,zo⟩
   ·exact⟨ZBw _,⟨gW e1,gW e9,gW e10,gW e11,gC,gW hqm,gC⟩,rfl⟩
  ·have:i=p.length:=zo;subst this;rw [ZC8] at hc;rw [show hasT x p=false from hc]
   (refine wkap (w_5 e1 e9 e10 e11 hlm) w_t (w_r 0) (w_s ?_);intros)
   all_goals exact gL
 ·exact⟨ZBw _,⟨gC,gC,gW hlm,gC⟩,rfl⟩
section
attribute [local go_sem] underlying3 underlying4 underlying161 underlying24 underlying26 underlying28 underlying91 underlying76 underlying78 underlying33 underlying34 sz3 by3 z3 szB zB Zaq zRat Zau zInt Zat zNat Zag Zao Zah Bool.and_self Zal Zbb zSlQ szQT byQT zQT Za7 zSlT szQP zQP underlying346 underlying47 szFr byFr zFr Zce Zcj zSQP underlying35 underlying65 underlying9 Za5 zStr underlying22
end
section
attribute [local go_sem] underlying3 underlying4 underlying161 underlying24 underlying26 underlying28 underlying91 underlying76 underlying78 underlying33 underlying34 sz3 by3 z3 szB zB Zaq zRat Zau zInt Zat zNat Zag Zao Zah Bool.and_self Zal Zbb zSlQ szQT byQT zQT Za7 zSlT szQP zQP underlying346 underlying47 szFr byFr zFr Zce Zcj zSQP underlying35 underlying65 underlying9 Za5 zStr underlying22
end
abbrev cQ (a:Rat):List AV:=[.v (.bool (decide (a.num < 0))),lim (toL a.num.natAbs),lim (toL a.den)]
def pV (ps:List PQ) (rs:List Rat) (t:Rat × List Qt):Nat→Rat
 | 0=>t.1
 | i+1=>pV ps rs t i*Qt.val (t.2.getD i Qt.zero) ps rs
def eV (ps:List PQ) (rs:List Rat) (l:QTs):Nat→Rat
 | 0=>0
 | i+1=>eV ps rs l i+pV ps rs (l.getD i (0,[])) (l.getD i (0,[])).2.length
def chQ (n m:Int):List Qt→Int
 | []=>0
 | q :: l=>if Qt.chk q n m=0 then chQ n m l else Qt.chk q n m
def chE (n m:Int):QTs→Int
 | []=>0
 | t :: l=>if chQ n m t.2=0 then chE n m l else chQ n m t.2
theorem Zsg {n m:Int}:∀{p:List Qt},(∀j (h:j < p.length),Qt.chk p[j] n m=0)→chQ n m p=0
 | [],_=>rfl
 | q :: l,h=>by
   have h0:Qt.chk q n m=0:=h 0 zs;unfold chQ;rw [ZBm h0];exact Zsg λj hj=>h (j+1) (by simpa using hj)
theorem chQ_at {n m:Int}:∀{p:List Qt} {i:Nat} (hi:i < p.length),(∀j (h:j < p.length),j < i→Qt.chk p[j] n m=0)→Qt.chk p[i] n m≠0→chQ n m p=Qt.chk p[i] n m
 | q :: l,0,_,_,h2=>by
   have h2:Qt.chk q n m≠0:=h2;unfold chQ;rw [ZBl h2];rfl
 | q :: l,i+1,hi,h,h2=>by
   have h0:Qt.chk q n m=0:=h 0 zs zo;unfold chQ;rw [ZBm h0];exact chQ_at (by simpa using hi) (λj hj hji=>h (j+1) (by simpa using hj) zo) h2
theorem Zsh {n m:Int}:∀{l:QTs},(∀j (h:j < l.length),chQ n m l[j].2=0)→chE n m l=0
 | [],_=>rfl
 | q :: l,h=>by
   have h0:chQ n m q.2=0:=h 0 zs;unfold chE;rw [ZBm h0];exact Zsh λj hj=>h (j+1) (by simpa using hj)
theorem chE_at {n m:Int}:∀{l:QTs} {i:Nat} (hi:i < l.length),(∀j (h:j < l.length),j < i→chQ n m l[j].2=0)→chQ n m l[i].2≠0→chE n m l=chQ n m l[i].2
 | q :: l,0,_,_,h2=>by
   have h2:chQ n m q.2≠0:=h2;unfold chE;rw [ZBl h2];rfl
 | q :: l,i+1,hi,h,h2=>by
   have h0:chQ n m q.2=0:=h 0 zs zo;unfold chE;rw [ZBm h0];exact chE_at (by simpa using hi) (λj hj hji=>h (j+1) (by simpa using hj) zo) h2
theorem pV_sz {ps:List PQ} {rs:List Rat} {t:Rat × List Qt} {k j:Nat} (ht:Sz t.1 k) (hp:∀p∈ps,PQ.sz p j) (hq:∀r∈rs,Sz r j) (hj:1≤j):∀i,i≤t.2.length→(∀a (h:a < t.2.length),a < i→Qt.chk t.2[a] ps.length rs.length=0)→Sz (pV ps rs t i) (k+i*(8*j+6))
 | 0,_,_=>by unfold pV;exact ht.mono zo
 | i+1,hi,h=>by
   have h1:=pV_sz ht hp hq hj i zo λa ha hai=>h a ha zo;have e:t.2.getD i Qt.zero=t.2[i]:=Zcp zo;have h2:=val_sz hp hq hj (h i zo zo);have h2:Sz (Qt.val t.2[i] ps rs) (8*j+6):=h2;unfold pV;rw [e];refine(h1.mul h2).mono ?_;rw [Nat.add_one_mul i (8*j+6)];generalize i*(8*j+6)=z;omega
theorem Zuo {n m:Int}:∀{p:List Qt},chQ n m p=0→∀j (h:j < p.length),Qt.chk p[j] n m=0
 | [],_=>λj hj=>by simp at hj
 | q :: l,h=>by
   unfold chQ at h;by_cases h0:Qt.chk q n m=0
   ·rw [ZBm h0] at h;intro j hj
    cases j with
    | zero=>exact h0
    | succ j=>exact Zuo h j (by simpa using hj)
   ·rw [ZBl h0] at h;exact absurd h h0
theorem eV_sz {ps:List PQ} {rs:List Rat} {l:QTs} {K j nQ:Nat} (h:∀t∈l,t.2.length≤nQ∧Sz t.1 K) (hp:∀p∈ps,PQ.sz p j) (hq:∀r∈rs,Sz r j) (hj:1≤j):∀i,i≤l.length→(∀a (h:a < l.length),a < i→chQ ps.length rs.length l[a].2=0)→Sz (eV ps rs l i) (1+i*(K+nQ*(8*j+6)+1))
 | 0,_,_=>by unfold eV;exact(Zlg 0 zo).mono zo
 | i+1,hi,hc=>by
   have h1:=eV_sz h hp hq hj i zo λa ha hai=>hc a ha zo;have e:l.getD i (0,[])=l[i]:=Zcp zo;have hm:=h l[i] (ZBy zo);have hz:=Zuo (hc i zo zo);have h2:=pV_sz (t:=l[i]) hm.2 hp hq hj l[i].2.length (ZBn _) λa ha _=>hz a ha;have h3:l[i].2.length*(8*j+6)≤nQ*(8*j+6):=ZB4 _ hm.1;unfold eV;rw [e];refine(h1.add h2).mono ?_;rw [Nat.add_one_mul i (K+nQ*(8*j+6)+1)];generalize i*(K+nQ*(8*j+6)+1)=z;omega
abbrev cQ0:List AV:=[.v (.bool false),.v (.slice none 0 0),.v (.slice none 0 0)]
theorem exValueG (l:QTs) (ps:List PQ) (rs:List Rat) {K j nQ nT:Nat} (hl:l.length≤nT) (hT:nT≤100000) (h:∀t∈l,t.2.length≤nQ∧Sz t.1 K) (hQ:nQ≤100000) (hB:nT*(K+nQ*(8*j+6)+1)≤900000) (hpl:ps.length≤1000) (hrl:rs.length≤1000) (hp:∀p∈ps,PQ.sz p j) (hq:∀r∈rs,Sz r j) (hj:1≤j) (hj2:j≤10) :
 Pure prog 17 [.sl 4 (l.map qtA),.sl 6 (ps.map PQ.av),.sl 3 (rs.map ratQ)] (if chE ps.length rs.length l=0 then .tup [ratQ (eV ps rs l l.length),iv 0] else .tup [zeroQ,iv (chE ps.length rs.length l)]):=by
 have hlm:(l.map qtA).length=l.length:=ZBt ..;have hg:∀i (h:i < l.length),(l.map qtA).getD i .u=.agg [.v (.bool (decide (l[i].1.num < 0))),lim (toL l[i].1.num.natAbs),lim (toL l[i].1.den),.sl 4 (l[i].2.map Qt.av)]:=λi h=>Zaw qtA h;have c0:Pure prog 27 [iv 0] (.agg (cQ (0:Rat))):=Zk6 0 zo;have cv:∀q:Qt,Pure prog 50 [.agg [iv q.k,iv q.a,iv q.b,iv q.c],.sl 6 (ps.map PQ.av),.sl 3 (rs.map ratQ)] (if Qt.chk q ps.length rs.length=0 then .tup [ratQ (Qt.val q ps rs),iv 0] else .tup [zeroQ,iv (Qt.chk q ps.length rs.length)]):=λq=>quValue q.k q.a q.b q.c ps rs zo zo hp hq zo;have zV:∀q:Qt,Qt.chk q ps.length rs.length=0→Sz (Qt.val q ps rs) (8*j+6):=λq hc=>val_sz hp hq hj hc
 have zP:∀a (ha:a < l.length) i,i≤l[a].2.length→(∀b (h:b < l[a].2.length),b < i→Qt.chk l[a].2[b] ps.length rs.length=0)→Sz (pV ps rs l[a] i) 900000:=λa ha i hi hc=>by
  have hm:=h l[a] (ZBy ha);have h3:i*(8*j+6)≤nQ*(8*j+6):=ZB4 _ zo;have h4:K+nQ*(8*j+6)+1≤nT*(K+nQ*(8*j+6)+1):=ZG6 _ zo;exact(pV_sz hm.2 hp hq hj i hi hc).mono zo
 have zE:∀i,i≤l.length→(∀a (h:a < l.length),a < i→chQ ps.length rs.length l[a].2=0)→Sz (eV ps rs l i) 900001:=λi hi hc=>by
  have h3:i*(K+nQ*(8*j+6)+1)≤nT*(K+nQ*(8*j+6)+1):=ZB4 _ zo;exact(eV_sz h hp hq hj i hi hc).mono zo
 have ql:∀a (ha:a < l.length),l[a].2.length≤nQ:=λa ha=>(h l[a] (ZBy ha)).1;clear h hp hq;generalize l.map qtA=L at *;generalize ps.map PQ.av=A at *;generalize rs.map ratQ=B at *;generalize hR:(if chE ps.length rs.length l=0 then AV.tup [ratQ (eV ps rs l l.length),iv 0] else .tup [zeroQ,iv (chE ps.length rs.length l)])=R at *;generalize (ps.length:Int)=n at *;generalize (rs.length:Int)=mm at *;refine pI func17 rfl ntmps17 results17 call17 ?_;(focus (refine wkap (w_1 hlm) (w_1 c0) (w_r 0) ?_;(repeat' first|exact w_t|apply w_l);all_goals intros));refine Zad (ι:=Nat) (λi e m=>i≤l.length∧(e 1=.sl 6 A∧e 2=.sl 3 B∧e 17=.sl 4 L∧e 18=iv l.length∧e 19=iv i)∧(∃g,e 6=.pbox 6 g 0∧m 6=some (.box g 28 (cQ0) false))∧(∃g,e 8=.pbox 8 g 0∧m 8=some (.box g 28 (cQ (eV ps rs l i)) false))∧∀a (h:a < l.length),a < i→chQ n mm l[a].2=0) (λi=>l.length - i) 0 zr ?_ ?_
 ·rintro i e m ⟨hi,⟨e1,e2,e17,e18,e19⟩,⟨g6,e6,m6⟩,⟨g8,e8,m8⟩,hc⟩
  by_cases hlt:i < l.length
  ·have hgi:=hg i hlt;have hqm:(l[i].2.map Qt.av).length=l[i].2.length:=ZBt ..;have hqe:∀b (h:b < l[i].2.length),(l[i].2.map Qt.av).getD b .u=.agg [iv l[i].2[b].k,iv l[i].2[b].a,iv l[i].2[b].b,iv l[i].2[b].c]:=λb h=>Zaw Qt.av h;have hzi:=zE i hi hc
   have hnx:eV ps rs l (i+1)=eV ps rs l i+pV ps rs l[i] l[i].2.length:=by
    have e:l.getD i (0,[])=l[i]:=Zcp hlt;show eV ps rs l i+pV ps rs (l.getD i (0,[])) (l.getD i (0,[])).2.length=_;rw [e]
   have hp0:cQ l[i].1=cQ (pV ps rs l[i] 0):=rfl;have hqli:=ql i hlt;generalize hqs:l[i].2.map Qt.av=qs at *;(focus (refine wkap (w_12 e1 e2 e17 e18 e19 hlm hgi hqm e6 m6 e8 m8) w_t (w_r 0) ?_;(repeat' first|exact w_t|apply w_l);all_goals intros));refine Zad (ι:=Nat) (λb e m=>b≤l[i].2.length∧(e 1=.sl 6 A∧e 2=.sl 3 B∧e 17=.sl 4 L∧e 18=iv l.length∧e 19=iv i∧e 26=.sl 4 qs∧e 27=iv l[i].2.length∧e 28=iv b)∧(∃g,e 6=.pbox 6 g 0∧m 6=some (.box g 28 (cQ0) false))∧(∃g,e 8=.pbox 8 g 0∧m 8=some (.box g 28 (cQ (eV ps rs l i)) false))∧(∃g,e 11=.pbox 11 g 0∧m 11=some (.box g 28 (cQ (pV ps rs l[i] b)) false))∧∀a (h:a < l[i].2.length),a < b→Qt.chk l[i].2[a] n mm=0) (λb=>l[i].2.length - b) 0 zr ?_ ?_
   ·rintro b e m ⟨hb,⟨e1,e2,e17,e18,e19,e26,e27,e28⟩,⟨g6,e6,m6⟩,⟨g8,e8,m8⟩,⟨ga,ea,ma⟩,hcb⟩
    have hzp:=zP i hlt b hb hcb;by_cases hbl:b < l[i].2.length
    ·have hqb:=hqe b hbl;have cvb:=cv l[i].2[b];by_cases hch:Qt.chk l[i].2[b] n mm=0
     ·rw [ZBm hch] at cvb;have hzv:=zV _ hch;have cm:=Zfo (pV ps rs l[i] b) (Qt.val l[i].2[b] ps rs) hzp hzv zo zo
      have hpn:pV ps rs l[i] (b+1)=pV ps rs l[i] b*Qt.val l[i].2[b] ps rs:=by
       have e:l[i].2.getD b Qt.zero=l[i].2[b]:=Zcp hbl;show pV ps rs l[i] b*Qt.val (l[i].2.getD b Qt.zero) ps rs=_;rw [e]
      rw [←hpn] at cm;have hc2:∀a (h:a < l[i].2.length),a < b+1→Qt.chk l[i].2[a] n mm=0:=λa h ha=>by
       rcases ZB7 a b with h1 | h1
       ·exact hcb a h h1
       ·have:a=b:=zo;subst this;exact hch
      have cm:Pure prog _ [.agg (cQ (pV ps rs l[i] b)),.agg (cQ (Qt.val l[i].2[b] ps rs))] (.agg (cQ (pV ps rs l[i] (b+1)))):=cm;have cvb:Pure prog _ _ (.tup [.agg (cQ (Qt.val l[i].2[b] ps rs)),iv 0]):=cvb;clear hcb hch hzv hzp hpn zV zP zE cv hqe hnx hp0;(focus (refine wkap (w_16 e1 e2 e17 e18 e19 e26 e27 e28 hqm hqb e6 m6 e8 m8 ea ma) (w_2 cvb cm) (w_r 0) ?_;(repeat' first|exact w_t|apply w_l);all_goals intros));exact⟨b+1,⟨zo,⟨gW e1,gW e2,gW e17,gW e18,gW e19,gW e26,gW e27,gS⟩,⟨_,gW e6,gW m6⟩,⟨_,gW e8,gW m8⟩,⟨_,gW ea,gC⟩,hc2⟩,zo⟩
     ·rw [ZBl hch] at cvb;have ha:=chQ_at hbl hcb hch;have hb2:=chE_at hlt hc (by rw [ha];exact hch);rw [hb2,ha,ZBl hch] at hR;rw [←hR];generalize Qt.chk l[i].2[b] n mm=ch at *;clear zV zP zE cv hqe hnx hp0;(focus (refine wkap (w_16 e1 e2 e17 e18 e19 e26 e27 e28 hqm hqb e6 m6 e8 m8 ea ma) (w_1 cvb) (w_r 0) ?_;(repeat' first|exact w_t|apply w_l);all_goals intros));all_goals exact gM (w_2 e6 m6)
    ·have:b=l[i].2.length:=zo;subst this;have hch:chQ n mm l[i].2=0:=Zsg λa h=>hcb a h h;have hc2:∀a (h:a < l.length),a < i+1→chQ n mm l[a].2=0:=λa h ha=>by
      rcases ZB7 a i with h1 | h1
      ·exact hc a h h1
      ·have:a=i:=zo;subst this;exact hch
     have ca:=Zju (eV ps rs l i) (pV ps rs l[i] l[i].2.length) hzi hzp zo zo;rw [←hnx] at ca;have ca:Pure prog _ [.agg (cQ (eV ps rs l i)),.agg (cQ (pV ps rs l[i] l[i].2.length))] (.agg (cQ (eV ps rs l (i+1)))):=ca;clear zV zP zE cv hqe hnx hp0;(focus (refine wkap (w_17 e1 e2 e17 e18 e19 e26 e27 e28 hlm hgi hqm e6 m6 e8 m8 ea ma) (w_1 ca) (w_r 0) ?_;(repeat' first|exact w_t|apply w_l);all_goals intros));exact⟨i+1,⟨zo,⟨gW e1,gW e2,gW e17,gW e18,gS⟩,⟨_,gW e6,gW m6⟩,⟨_,gW e8,gC⟩,hc2⟩,zo⟩
   ·exact⟨ZBw _,⟨gW e1,gW e2,gW e17,gW e18,gW e19,gC,gW hqm,gC⟩,⟨_,gW e6,gW m6⟩,⟨_,gW e8,gW m8⟩,⟨_,gC,by rw [←hp0];exact gC⟩,λa h ha=>zo⟩
  ·have:i=l.length:=zo;subst this;rw [ZBm (Zsh λa h=>hc a h h)] at hR;have hR:AV.tup [.agg (cQ (eV ps rs l l.length)),iv 0]=R:=hR;rw [←hR];(focus (refine wkap (w_10 e1 e2 e17 e18 e19 hlm e6 m6 e8 m8) w_t (w_r 0) ?_;(repeat' first|exact w_t|apply w_l);all_goals intros));all_goals exact gM (w_2 e6 m6)
 ·exact⟨ZBw _,⟨gC,gC,gC,gW hlm,gC⟩,⟨_,gC,gC⟩,⟨_,gC,gC⟩,λa h ha=>zo⟩
theorem Zup {n m:Int}:∀{p:QTs},chE n m p=0→∀j (h:j < p.length),chQ n m p[j].2=0
 | [],_=>λj hj=>by simp at hj
 | q :: l,h=>by
   unfold chE at h;by_cases h0:chQ n m q.2=0
   ·rw [ZBm h0] at h;intro j hj
    cases j with
    | zero=>exact h0
    | succ j=>exact Zup h j (by simpa using hj)
   ·rw [ZBl h0] at h;exact absurd h h0
end Go.Proofs.YtkefeinbjbeidaaGreatDoor
namespace Go.Proofs.YtkefeinbjbeidaaGreatDoor
section
open Go Go.RowKit Go.Pg Go.Pol
end
end Go.Proofs.YtkefeinbjbeidaaGreatDoor
namespace Go.Proofs.YtkefeinbjbeidaaGreatDoor
open Go Go.RowKit Go.Pg Go.Pol Go.Proofs.Tryz
attribute [-bool_to_prop] Bool.and_eq_decide Bool.or_eq_decide Bool.decide_beq_decide decide_eq_decide
attribute [local go_sem] Zaq Zau Zat Zag Zao Zah Bool.and_self Zal Zbb Za7 Zce Zcj Za5
theorem XB.neg {q:QTs} {k n:Nat} (h:XB q k n):XB (sclT (-1) q) k n:=by
 obtain⟨a,b,D,B,c,d,e,f⟩:=h;refine⟨⟨λt ht=>?_,List.pairwise_map.2 a.2⟩,λt ht=>?_,D,B,c,d,e,λt ht=>?_,?_⟩
 ·obtain⟨u,hu,rfl⟩:=List.mem_map.1 ht;refine⟨λh=>(a.1 u hu).1 ?_,(a.1 u hu).2⟩;have h:(-1:Rat)*u.1=0:=h;rw [Rat.neg_mul,ZE2] at h;have:=ZDv (λz:Rat=>-z) h
  simpa using this
 ·obtain⟨u,hu,rfl⟩:=List.mem_map.1 ht;exact b u hu
 ·obtain⟨u,hu,rfl⟩:=List.mem_map.1 ht;have:=f.1 u hu;show((-1:Rat)*u.1).den ∣ D;have e1:((-1:Rat)*u.1)=-u.1:=by rw [Rat.neg_mul,ZE2]
  rw [e1];exact this
 ·refine ZBs (Nat.le_of_eq ?_) f.2;unfold n1 sclT;rw [List.map_map];congr 1;refine ZEd λu _=>?_;show cl ((-1:Rat)*u.1)=cl u.1;have e1:((-1:Rat)*u.1)=-u.1:=by rw [Rat.neg_mul,ZE2]
  rw [e1];unfold cl;rw [show(-u.1).num=-u.1.num from rfl,show(-u.1).den=u.1.den from rfl,ZGl]
def reP (p:QTs):List RE:=p.map λt=>⟨rawQ t.1,t.2⟩
theorem reP_av (p:QTs):(reP p).map RE.av=p.map qtA:=by unfold reP;rw [List.map_map];rfl
theorem sgP_ok {l:List Qt} (h:∀q∈l,q.norm=(q,1)):sgP l=1:=by
 have key:∀(l:List Qt) (s:Int),(∀q∈l,q.norm=(q,1))→l.foldl (λs q=>s*q.norm.2) s=s:=by
  intro l
  induction l with
  | nil=>intro s _;rfl
  | cons a l ih=>intro s h;rw [ZGe,h a (.head _),Int.mul_one];exact ih s λq hq=>h q (.tail _ hq)
 exact key l 1 h
theorem nsP_ok:∀{l:List Qt},(∀q∈l,q.norm=(q,1))→nsP l=l
 | [],_=>rfl
 | a :: l,h=>by
   show a.norm.1 :: nsP l=a :: l;rw [h a (.head _),nsP_ok λq hq=>h q (.tail _ hq)]
theorem putP_ok {l:List Qt} (h:okQ l):putP l=l:=by
 rw [←Zw8 (by rw [sgP_ok h.2];decide),nsP_ok h.2];exact Zfk qtO (Zb5 qtO.cp _) h.1 (Za1 _)
theorem reP_ok {p:QTs} (h:∀t∈p,okQ t.2):(reP p).all RE.ok=true:=by
 rw [ZFf];intro t ht;obtain⟨u,hu,rfl⟩:=List.mem_map.1 ht;show((rawQ u.1).ok && u.2.all Qt.ok)=true;rw [Zq9,ZD0,ZFf];exact λq hq=>Zro ((h u hu).2 q hq)
theorem reP_t:∀{p:QTs},(∀t∈p,okQ t.2)→(reP p).map RE.t=p
 | [],_=>rfl
 | u :: p,h=>by
   show RE.t ⟨rawQ u.1,u.2⟩ :: (reP p).map RE.t=u :: p;rw [reP_t λt ht=>h t (.tail _ ht)];show((rawQ u.1).q*(sgP u.2:Rat),putP u.2) :: p=u :: p;rw [Zxr,sgP_ok (h u (.head _)).2,putP_ok (h u (.head _)),show((1:Int):Rat)=1 from rfl,ZE1]
theorem nrm_re {p:QTs} (h:∀t∈p,okQ t.2):nrmR (reP p)=qpA (gatM p):=by rw [Zyp (reP_ok h),reP_t h]
theorem reP_lm {p:QTs} {j n:Nat} (h:QK p j n):(∀t∈reP p,t.r.lm j)∧∀t∈reP p,t.q.length≤n:=by
 refine⟨λt ht=>?_,λt ht=>?_⟩<;>obtain⟨u,hu,rfl⟩:=List.mem_map.1 ht
 ·exact Zra (h u hu).1
 ·exact(h u hu).2
theorem Zn3 (φ:List Qt→Rat) (s:Rat):∀p:QTs,evl φ (sclT s p)=s*evl φ p
 | []=>by show(0:Rat)=s*0;rw [ZFn]
 | t :: p=>by
   show s*t.1*φ t.2+evl φ (sclT s p)=s*(t.1*φ t.2+evl φ p);rw [Zn3 φ s p];grind
theorem EX.neg {p:QTs} (h:EX p):EX (sclT (-1) p):=by
 refine⟨λt ht=>?_,List.pairwise_map.2 h.2⟩;obtain⟨u,hu,rfl⟩:=List.mem_map.1 ht;refine⟨λh0=>(h.1 u hu).1 ?_,(h.1 u hu).2⟩;have h0:(-1:Rat)*u.1=0:=h0
 grind
theorem NB.nz {D B:Nat} {l:QTs} (h:NB D B l):NB D B (nzT l):=by
 refine⟨λt ht=>h.1 t (List.mem_filter.1 ht).1,ZBs ?_ h.2⟩;clear h;unfold nzT
 induction l with
 | nil=>exact ZBn _
 | cons t l ih =>
   rw [Zbf];by_cases h0:t.1=0
   ·rw [ZE3 (by simpa using h0)];omega
   ·rw [ZE4 (by simpa using h0),Zbf];omega
theorem exNrmG (p:QTs) {D C a b n:Nat} (hN:NB D C p) (h0:D≠0) (hd:D < 65536 ^ a) (hb:C < 65536 ^ b) (ho:∀t∈p,okQ t.2) (hl:p.length≤1000000) (hq:∀t∈p,t.2.length≤n) (hn:n≤maxQ) (hj:a+b≤900000):Pure prog 100 [qpA p] (qpA (gatM p)):=by
 have hqk:=nb_qk hN h0 hd hb hq;have c:=exNormG (reP p) (J:=a+b) (JA:=a+b) (nQ:=n) (by show(List.map _ _).length≤_;rw [ZBt];exact hl) (reP_lm hqk).1 (reP_lm hqk).2 hn hj zo λi hi _=>by
  have e:((reP p).take i).map RE.t=p.take i:=by
   have e1:(reP p).take i=reP (p.take i):=by unfold reP;rw [List.map_take]
   rw [e1,reP_t λt ht=>ho t (ZC3 ht)]
  rw [e];have hmem:∀t∈nzT (p.take i),t∈p:=λt ht=>ZC3 (List.mem_filter.1 ht).1;have hnb:=acc_nb (nzT (p.take i)) [] (NB.nil D 0) (NB.nz (hN.take i));rw [ZCb] at hnb;refine⟨nb_qk hnb h0 hd hb ?_,?_,?_⟩
  ·exact Zjm (P:=λx=>x.length≤n) _ [] (λt ht=>by cases ht) λt ht=>hq t (hmem t ht)
  ·exact Zjm (P:=λx=>∀q∈x,q.b8) _ [] (λt ht=>by cases ht) λt ht=>(ho t (hmem t ht)).b8
  ·have h1:=ZBf (nzT (p.take i)) [];have h2:=Zrm (p.take i);rw [ZB9] at h2;rw [ZCf] at h1;exact ZBs h1 zo
 rwa [reP_av,nrm_re ho] at c
end Go.Proofs.YtkefeinbjbeidaaGreatDoor
namespace Go.Proofs.YtkefeinbjbeidaaGreatDoor
open Go Go.RowKit Go.Pg Go.Pol Go.Proofs.Tryz
def tmQ (q:Qt) (l:List Qt):Nat:=(l.filter λx=>decide (x=q)).length
def woQ (q:Qt) (l:List Qt):List Qt:=l.filter λx=>decide (x≠q)
def woL (q:Qt) (a:QTs) (k:Nat):QTs:=(a.filter λt=>decide (tmQ q t.2=k)).map λt=>(t.1,woQ q t.2)
def moQ (q:Qt) (a:QTs):Nat:=a.foldl (λn t=>max n (tmQ q t.2)) 0
theorem Zwr (q:Qt):∀l:List Qt,tmQ q l+(woQ q l).length=l.length
 | []=>rfl
 | a :: l=>by
   have ih:=Zwr q l;unfold tmQ woQ at *;by_cases h:a=q
   ·rw [ZE4 (by simpa using h),ZE3 (by simpa using h),ZB5,ZB5];omega
   ·rw [ZE3 (by simpa using h),ZE4 (by simpa using h),ZB5,ZB5];omega
theorem tm_le (q:Qt) (l:List Qt):tmQ q l≤l.length:=by have:=Zwr q l;omega
theorem Zyy (q:Qt) (a:QTs) (t:Rat × List Qt):moQ q (a++[t])=max (moQ q a) (tmQ q t.2):=by unfold moQ;rw [ZFy];rfl
theorem mo_le {q:Qt} {n:Nat} {a:QTs} (h:∀t∈a,t.2.length≤n):moQ q a≤n:=by
 have key:∀(a:QTs) (s:Nat),s≤n→(∀t∈a,t.2.length≤n)→a.foldl (λn t=>max n (tmQ q t.2)) s≤n:=by
  intro a
  induction a with
  | nil=>exact λs hs _=>hs
  | cons t a ih=>exact λs hs h=>ih _ (by show max s (tmQ q t.2)≤n;have:=tm_le q t.2;have:=h t (.head _);omega) λu hu=>h u (.tail _ hu)
 exact key a 0 (ZBw _) h
theorem wo_snoc (q:Qt) (a:QTs) (t:Rat × List Qt) (k:Nat):woL q (a++[t]) k=if tmQ q t.2=k then woL q a k++[(t.1,woQ q t.2)] else woL q a k:=by
 unfold woL;rw [ZEn,ZCe];split
 ·rename_i h;rw [ZE4 (by simpa using h)];rfl
 ·rename_i h;rw [ZE3 (by simpa using h)];simp
theorem wo_above {q:Qt}:∀{a:QTs} {k:Nat},moQ q a < k→woL q a k=[]:=by
 intro a k h
 have key:∀(a:QTs) (s:Nat),a.foldl (λn t=>max n (tmQ q t.2)) s < k→s < k∧a.filter (λt=>decide (tmQ q t.2=k))=[]:=by
  intro a
  induction a with
  | nil=>exact λs hs=>⟨hs,rfl⟩
  | cons t a ih =>
    intro s hs;obtain⟨h1,h2⟩:=ih _ hs;have h1:max s (tmQ q t.2) < k:=h1;refine⟨zo,?_⟩;rw [ZE3 (by simp;omega)];exact h2
 unfold woL;rw [(key a 0 h).2];rfl
theorem Zwh (q:Qt) (a:QTs) (k:Nat):(woL q a k).length≤a.length:=by unfold woL;rw [ZBt];exact ZF8 _ _
theorem okQ.wo {l:List Qt} (h:okQ l) (q:Qt):okQ (woQ q l):=⟨h.1.filter _,λx hx=>h.2 x (List.mem_filter.1 hx).1⟩
theorem Zjx {q:Qt} {a:QTs} {k:Nat} {u:Rat × List Qt} (h:u∈woL q a k):∃t∈a,u=(t.1,woQ q t.2):=by
 obtain⟨t,ht,rfl⟩:=List.mem_map.1 h;exact⟨t,(List.mem_filter.1 ht).1,rfl⟩
theorem Zsn {a:QTs} (h:∀t∈a,okQ t.2) (q:Qt) (k:Nat):∀t∈woL q a k,okQ t.2:=λu hu=>by
 obtain⟨t,ht,rfl⟩:=Zjx hu;exact(h t ht).wo q
theorem Zqm {a:QTs} {n:Nat} (h:∀t∈a,t.2.length≤n) (q:Qt) (k:Nat):∀t∈woL q a k,t.2.length≤n:=λu hu=>by
 obtain⟨t,ht,rfl⟩:=Zjx hu;exact ZBs (by have:=Zwr q t.2;show(woQ q t.2).length≤_;omega) (h t ht)
theorem n1_wo (q:Qt) (k:Nat):∀a:QTs,n1 (woL q a k)≤n1 a
 | []=>ZBn _
 | t :: a=>by
   have ih:=n1_wo q k a;unfold woL at *;by_cases h:tmQ q t.2=k
   ·rw [ZE4 (by simpa using h),ZCm,Zbf,Zbf];exact Nat.add_le_add_left ih _
   ·rw [ZE3 (by simpa using h),Zbf];omega
abbrev paQ (q:Qt) (a:QTs) (k:Nat):QTs:=gatM (woL q a k)
theorem XB.part {a:QTs} {k n:Nat} (h:XB a k n) (q:Qt) (i:Nat):XB (paQ q a i) k n:=by
 obtain⟨a1,b,D,B,c,d,e,f⟩:=h;refine⟨Zgr Zbh (Zsn a1.dom q i),Zki (Zqm b q i),D,B,c,d,e,NB.sumG ⟨λt ht=>?_,ZBs (n1_wo q i a) f.2⟩⟩;obtain⟨u,hu,rfl⟩:=Zjx ht;exact f.1 u hu
theorem gat_len (l:QTs):(gatM l).length≤l.length:=by
 obtain⟨j,hj⟩:∃j,QK l j ((l.map λt=>t.2.length).sum):=by
  induction l with
  | nil=>exact⟨0,λt ht=>by cases ht⟩
  | cons a l ih =>
    obtain⟨j,hj⟩:=ih;refine⟨max j (max (toL a.1.num.natAbs).length (toL a.1.den).length),λt ht=>?_⟩;rw [ZCm,List.sum_cons];rcases List.mem_cons.1 ht with rfl | ht
    ·exact⟨⟨zo,zo⟩,zo⟩
    ·exact⟨(hj t ht).1.mono zo,by have:=(hj t ht).2;omega⟩
 exact(Zzq _ l rfl hj).2
theorem pa_len (q:Qt) (a:QTs) (k:Nat):(paQ q a k).length≤a.length:=ZBs (gat_len _) (Zwh q a k)
abbrev pwX (d:QTs) (i:Nat):QTs:=pwG ordQ muQ [] d i
abbrev hnX (P:Nat→QTs) (a d:QTs) (m i:Nat):QTs:=hnG ordQ muQ [] P a d m i
abbrev rfX (P:Nat→QTs) (a d:QTs) (m i:Nat):QTs:=rfG ordQ muQ [] P a d m i
theorem Zoi:XB [((1:Rat),[])] 1 0:=xbC _ _ (by decide +kernel)
theorem Zoj:XB [] 1 0:=xbC _ _ (by decide +kernel)
theorem XB.pw {d:QTs} {k n:Nat} (h:XB d k n):∀i,XB (pwX d i) (1+i*k) (i*n)
 | 0=>by rw [ZEc,ZEc];exact Zoi
 | i+1=>(XB.mul (h.pw i) h).mono (by rw [ZDh];omega) (by rw [ZDh];omega)
theorem Zo4 {d:QTs} {L:Nat} (h:d.length≤L):∀i,(pwX d i).length≤L ^ i
 | 0=>ZBn _
 | i+1=>ZBs (Zdz _ _) (by rw [ZCz];exact ZCw (Zo4 h i) h)
section
variable {P:Nat→QTs} {a d:QTs} {kp kb np nb LP L:Nat}
theorem XB.hn (hP:∀k,XB (P k) kp np) (ha:XB a kb nb) (hd:XB d kb nb) (m:Nat):∀i,XB (hnX P a d m i) (1+i*(kp+kb+2+i*kb)) (np+i*nb)
 | 0=>Zoj.mono zo (ZBw _)
 | i+1=>by
   have h1:=((XB.hn hP ha hd m i).mul ha).add ((hP (m - i)).mul (hd.pw i));refine XB.mono h1 ?_ ?_
   ·have e:(i+1)*(kp+kb+2+(i+1)*kb)=i*(kp+kb+2+i*kb)+i*kb+(kp+kb+2+(i*kb+kb)):=by grind
    rw [e];omega
   ·rw [ZDh];exact Nat.max_le.2 ⟨zo,zo⟩
theorem hn_len (hP:∀k,(P k).length≤LP) (ha:a.length≤L) (hd:d.length≤L) (hL:1≤L) (m:Nat):∀i,(hnX P a d m i).length≤i*LP*L ^ i
 | 0=>ZBw _
 | i+1=>by
   refine ZBs (Zen _ _) ?_;have h1:=ZBs (Zdz (hnX P a d m i) a) (ZCw (hn_len hP ha hd hL m i) ha);have h2:=ZBs (Zdz (P (m - i)) (pwX d i)) (ZCw (hP _) (Zo4 hd i));have h3:LP*L ^ i≤LP*L ^ i*L:=ZEz _ hL;refine ZBs (ZCx h1 h2) ?_;have e:(i+1)*LP*L ^ (i+1)=i*LP*L ^ i*L+LP*L ^ i*L:=by rw [ZCz];grind
   rw [e];omega
theorem XB.rf (hP:∀k,XB (P k) kp np) (ha:XB a kb nb) (hd:XB d kb nb) (m:Nat):∀i,i≤m+1→XB (rfX P a d m i) (1+i*(kp+3+m*kb)) (np+m*nb)
 | 0,_=>Zoj.mono zo (ZBw _)
 | i+1,hi=>by
   have h1:=(XB.rf hP ha hd m i zo).add (((hP i).mul (ha.pw i)).mul (hd.pw (m - i)));have e1:i*kb+(m - i)*kb=m*kb:=by rw [←ZCc];congr 1;omega
   have e2:i*nb+(m - i)*nb=m*nb:=by rw [←ZCc];congr 1;omega
   refine XB.mono h1 ?_ ?_
   ·rw [ZDh];omega
   ·exact Nat.max_le.2 ⟨zo,zo⟩
theorem rf_len (hP:∀k,(P k).length≤LP) (ha:a.length≤L) (hd:d.length≤L) (m:Nat):∀i,i≤m+1→(rfX P a d m i).length≤i*(LP*L ^ m)
 | 0,_=>ZBw _
 | i+1,hi=>by
   refine ZBs (Zen _ _) ?_;have h1:=rf_len hP ha hd m i zo;have h2:=ZBs (Zdz (P i) (pwX a i)) (ZCw (hP _) (Zo4 ha i));have h3:=ZBs (Zdz (mulX (P i) (pwX a i)) (pwX d (m - i))) (ZCw h2 (Zo4 hd (m - i)));have e:LP*L ^ i*L ^ (m - i)=LP*L ^ m:=by rw [ZCv,←ZC0];congr 2;omega
   rw [e] at h3;rw [ZDh];exact ZCx h1 h3
end
abbrev rpN (q:Qt) (a num den:QTs):QTs:=rfX (paQ q a) num den (moQ q a) (moQ q a+1)
abbrev rpD (q:Qt) (a den:QTs):QTs:=pwX den (moQ q a)
theorem Zxl (q:Qt) {a num den:QTs} (ha:EX a) (hn:EX num) (hd:EX den):hnX (paQ q a) num den (moQ q a) (moQ q a+1)=rpN q a num den :=
 horner rgQ (λk=>Zgr Zbh (Zsn ha.dom q k)) hn hd _
theorem Zky (p:QTs):sclT 1 p=p:=Zs2 p
theorem mul_neg {p:QTs} (h:EX p):mulX [((-1:Rat),[])] p=sclT (-1) p :=
 Zic (D:=okQ) Zbh (Zbg rgQ ⟨λt ht=>by rw [List.mem_singleton.1 ht];exact⟨by decide +kernel,rgQ.de⟩,ZF9 _ _⟩ h) h.neg λφ=>by
  rw [Zex Zbh,Zn3];show(-1:Rat)*evl (λk=>φ (muQ [] k)) p+0=_;rw [ZDj];congr 1
  have key:∀p:QTs,(∀t∈p,okQ t.2)→evl (λk=>φ (muQ [] k)) p=evl φ p:=by
   intro p
   induction p with
   | nil=>intro _;rfl
   | cons t p ih =>
     intro h;show t.1*φ (muQ [] t.2)+_=t.1*φ t.2+_;rw [ih λu hu=>h u (.tail _ hu),rgQ.comm,rgQ.one _ (h t (.head _))]
  exact key p h.dom
structure XN (p:QTs) (D B n:Nat):Prop where
 ex:EX p
 q:∀t∈p,t.2.length≤n
 nb:NB D B p
theorem XN.mono {p:QTs} {D B n E C m:Nat} (h:XN p D B n) (hd:D ∣ E) (hb:B≤C) (hn:n≤m):XN p E C m:=⟨h.ex,λt ht=>ZBs (h.q t ht) hn,h.nb.mono hd hb⟩
theorem XN.mul {p q:QTs} {D B n E C m:Nat} (h:XN p D B n) (g:XN q E C m):XN (mulX p q) (D*E) (B*C) (n+m) :=
 ⟨Zbg rgQ h.ex g.ex,Zki (Zla h.q g.q),(h.nb.prodL g.nb).sumG⟩
theorem XN.add {p q:QTs} {D B n C m:Nat} (h:XN p D B n) (g:XN q D C m):XN (Za9 p q) D (B+C) (max n m):=by
 refine⟨Zgh Zbh h.ex g.ex,λt ht=>?_,h.nb.addP g.nb⟩;rcases Zg0 ht with h1 | h1 | ⟨s,hs,u,hu,rfl⟩
 ·have:=h.q t h1;omega
 ·have:=g.q t h1;omega
 ·have:=h.q s hs;show s.2.length≤_;omega
theorem XN.xb {p:QTs} {D B n k:Nat} (h:XN p D B n) (h0:D≠0) (hd:D < 65536 ^ k) (hb:B < 65536 ^ k):XB p k n:=⟨h.ex,h.q,D,B,h0,hd,hb,h.nb⟩
theorem XN.nil (D:Nat):XN [] D 0 0:=⟨Zoj.1,λt ht=>(by cases ht),NB.nil D 0⟩
theorem XN.one:XN [((1:Rat),[])] 1 1 0:=⟨Zoi.1,λt ht=>by rw [List.mem_singleton.1 ht];exact ZBn _,λt ht=>by rw [List.mem_singleton.1 ht];decide +kernel,by decide +kernel⟩
theorem XN.pw {d:QTs} {E C n:Nat} (h:XN d E C n):∀i,XN (pwX d i) (E ^ i) (C ^ i) (i*n)
 | 0=>by rw [ZFi,ZFi,ZEc];exact XN.one
 | i+1=>by rw [ZCz,ZCz,ZDh];exact(h.pw i).mul h
theorem XN.part {a:QTs} {D B n:Nat} (h:XN a D B n) (q:Qt) (k:Nat):XN (paQ q a k) D B n :=
 ⟨Zgr Zbh (Zsn h.ex.dom q k),Zki (Zqm h.q q k),NB.sumG ⟨λt ht=>by obtain⟨u,hu,rfl⟩:=Zjx ht;exact h.nb.1 u hu,ZBs (n1_wo q k a) h.nb.2⟩⟩
section
variable {P:Nat→QTs} {a d:QTs} {D B E C np nb:Nat}
theorem XN.hn (hP:∀k,XN (P k) D B np) (ha:XN a E C nb) (hd:XN d E C nb) (hC:1≤C) (m:Nat):∀i,XN (hnX P a d m i) (D*E ^ i) (i*(B*C ^ i)) (np+i*nb)
 | 0=>by rw [ZEc,ZEc];exact(XN.nil _).mono (ZDs _) (ZBn _) (ZBw _)
 | i+1=>by
   have h1:=(XN.hn hP ha hd hC m i).mul ha;have h2:=(hP (m - i)).mul (hd.pw i);have e1:D*E ^ (i+1)=D*E ^ i*E:=by rw [ZCz,ZCv]
   have e2:(i+1)*(B*C ^ (i+1))=i*(B*C ^ i)*C+B*C ^ i*C:=by rw [ZCz];grind
   have h3:=XN.add h1 (h2.mono (E:=D*E ^ i*E) (ZFm _ _) (ZBn _) (ZBn _));rw [e1,e2];exact h3.mono (ZDs _) (Nat.add_le_add_left (ZEz _ hC) _) (by rw [ZDh];exact Nat.max_le.2 ⟨zo,zo⟩)
theorem XN.rf (hP:∀k,XN (P k) D B np) (ha:XN a E C nb) (hd:XN d E C nb) (m:Nat):∀i,i≤m+1→XN (rfX P a d m i) (D*E ^ m) (i*(B*C ^ m)) (np+m*nb)
 | 0,_=>by rw [ZEc];exact(XN.nil _).mono (ZDs _) (ZBn _) (ZBw _)
 | i+1,hi=>by
   have h1:=XN.rf hP ha hd m i zo;have h2:=((hP i).mul (ha.pw i)).mul (hd.pw (m - i));have e1:D*E ^ i*E ^ (m - i)=D*E ^ m:=by rw [ZCv,←ZC0];congr 2;omega
   have e2:B*C ^ i*C ^ (m - i)=B*C ^ m:=by rw [ZCv,←ZC0];congr 2;omega
   have e3:np+i*nb+(m - i)*nb=np+m*nb:=by rw [ZGd,←ZCc];congr 2;omega
   rw [e1,e2,e3] at h2;have h3:=h1.add h2;rw [ZDh];exact h3.mono (ZDs _) (ZBn _) zo
end
theorem two_xn {a d:QTs} {k n:Nat} (ha:XB a k n) (hd:XB d k n):∃E C,E≠0∧1≤C∧E < 65536 ^ (2*k)∧C < 65536 ^ k∧XN a E C n∧XN d E C n:=by
 obtain⟨a1,b1,D1,B1,c1,d1,e1,f1⟩:=ha;obtain⟨a2,b2,D2,B2,c2,d2,e2,f2⟩:=hd;have hk:k≠0:=λh=>by rw [h,ZFi] at d1;omega
 have hp:65536≤65536 ^ k:=Nat.le_self_pow hk _;refine⟨D1*D2,max 1 (max B1 B2),ZEq c1 c2,zo,?_,zo,⟨a1,b1,f1.mono (ZFm ..) zo⟩,⟨a2,b2,f2.mono (ZG8 ..) zo⟩⟩;rw [Nat.two_mul,ZC0];exact ZFx d1 d2
theorem Zx7 {E k:Nat} (h:E < 65536 ^ k) (i:Nat):E ^ i≤65536 ^ (i*k):=by
 rw [ZCl,Nat.pow_mul];exact ZG7 (Nat.le_of_lt h) i
theorem Zy4 {B C k j i m:Nat} (hB:B < 65536 ^ k) (hC:C < 65536 ^ j) (hi:i≤65536):i*(B*C ^ m) < 65536 ^ (k+1+m*(2*j)):=by
 have h1:C ^ m≤65536 ^ (m*(2*j)):=ZBs (Zx7 hC m) (ZDe zd (ZDr _ zo));have h0:0 < 65536 ^ (m*(2*j)):=ZFs zd;have h2:B*C ^ m < 65536 ^ k*65536 ^ (m*(2*j)):=ZF6 (ZDr _ h1) (ZGk hB h0);have e:65536 ^ (k+1+m*(2*j))=65536*(65536 ^ k*65536 ^ (m*(2*j))):=by rw [ZC0,ZCz];grind
 rw [e];rcases ZCo i with rfl | h3
 ·rw [ZEc];exact Nat.mul_pos zd (Nat.mul_pos (ZFs zd) h0)
 ·exact ZDz ((Nat.mul_lt_mul_left h3).2 h2) (ZB4 _ hi)
theorem Zy5 {D E k j m:Nat} (hD:D < 65536 ^ k) (hE:E < 65536 ^ (2*j)):D*E ^ m < 65536 ^ (k+1+m*(2*j)):=by
 have h1:E ^ m≤65536 ^ (m*(2*j)):=Zx7 hE m;have h0:0 < 65536 ^ (m*(2*j)):=ZFs zd;have h2:D*E ^ m < 65536 ^ k*65536 ^ (m*(2*j)):=ZF6 (ZDr _ h1) (ZGk hD h0);rw [←ZC0] at h2;exact ZDz h2 (ZDe zd zo)
theorem hn_xb {a num den:QTs} {ka kb na nb:Nat} (ha:XB a ka na) (hu:XB num kb nb) (hd:XB den kb nb) (q:Qt) (m i:Nat) (hi:i≤65536):XB (hnX (paQ q a) num den m i) (ka+1+i*(2*kb)) (na+i*nb):=by
 obtain⟨E,C,e0,c0,e1,c1,g1,g2⟩:=two_xn hu hd;obtain⟨a1,b1,D,B,d0,d1,d2,d3⟩:=ha;have g:XN a D B na:=⟨a1,b1,d3⟩;exact(XN.hn (λk=>g.part q k) g1 g2 c0 m i).xb (ZEq d0 (Nat.ne_of_gt (ZFs (ZDg e0)))) (Zy5 d1 e1) (Zy4 d2 c1 hi)
theorem rf_xb {a num den:QTs} {ka kb na nb:Nat} (ha:XB a ka na) (hu:XB num kb nb) (hd:XB den kb nb) (q:Qt) (m i:Nat) (hm:m < 65536) (hi:i≤m+1):XB (rfX (paQ q a) num den m i) (ka+1+m*(2*kb)) (na+m*nb):=by
 obtain⟨E,C,e0,c0,e1,c1,g1,g2⟩:=two_xn hu hd;obtain⟨a1,b1,D,B,d0,d1,d2,d3⟩:=ha;have g:XN a D B na:=⟨a1,b1,d3⟩;exact(XN.rf (λk=>g.part q k) g1 g2 m i hi).xb (ZEq d0 (Nat.ne_of_gt (ZFs (ZDg e0)))) (Zy5 d1 e1) (Zy4 d2 c1 zo)
theorem hn_len2 {P:Nat→QTs} {a d:QTs} {LP L:Nat} (hP:∀k,(P k).length≤LP) (ha:a.length≤L) (hd:d.length≤L) (hL:1≤L) (m i M:Nat) (hi:i≤M):(hnX P a d m i).length≤M*LP*L ^ M :=
 ZBs (hn_len hP ha hd hL m i) (ZCw (ZB4 _ hi) (ZDe hL hi))
end Go.Proofs.YtkefeinbjbeidaaGreatDoor
namespace Go.Proofs.YtkefeinbjbeidaaGreatDoor
open Go Go.RowKit Go.Pg Go.Pol Go.Proofs.Tryz
attribute [-bool_to_prop] Bool.and_eq_decide Bool.or_eq_decide Bool.decide_beq_decide decide_eq_decide
attribute [local go_sem] Zaq Zau Zat Zag Zao Zah Bool.and_self Zal Zbb Za7 Zce Zcj
theorem Zws (q:Qt) (l:List Qt) (x:Qt):tmQ q (l++[x])=if x=q then tmQ q l+1 else tmQ q l:=by
 unfold tmQ;rw [ZEn,ZCg];split
 ·rename_i h;rw [ZE4 (by simpa using h)];rfl
 ·rename_i h;rw [ZE3 (by simpa using h)];rfl
theorem woQ_y {q x:Qt} (l:List Qt) (h:x≠q):woQ q (l++[x])=woQ q l++[x]:=by unfold woQ;rw [ZEn,ZE4 (by simpa using h)];rfl
theorem woQ_n {q x:Qt} (l:List Qt) (h:x=q):woQ q (l++[x])=woQ q l:=by unfold woQ;rw [ZEn,ZE3 (by simpa using h)];simp
theorem cst_ok (a:Rat):nrmR (cstE a)=qpA (if a=0 then [] else [(a,[])]):=by
 have h:=nrm_re (p:=[(a,[])]) (λt ht=>by rw [List.mem_singleton.1 ht];exact rgQ.de)
 rwa [Znx] at h
theorem Zxu {α:Type} (f:Nat→α) {n k:Nat} (x:α) (h:k < n):((List.range n).map f).set k x=(List.range n).map λj=>if j=k then x else f j:=by
 refine List.ext_getElem? λj=>?_;by_cases hj:j < n
 ·by_cases hjk:j=k
  ·subst hjk;rw [ZG9 (by simp;omega)];simp [ZCt,ZEb hj]
  ·rw [List.getElem?_set_ne (ZDi hjk)];simp [ZCt,ZEb hj,hjk]
 ·rw [ZDa (by simp;omega),ZDa (by simp;omega)]
theorem Zvh {α:Type} (f:Nat→α) (n:Nat):(List.range (n+1)).map f=(List.range n).map f++[f n]:=by rw [List.range_succ,ZCe];rfl
structure PtM (m:Mem) (sv:Value) (S:Nat→Value) (L:Nat→List AV) (len:Nat):Prop where
 top:m 12=some (.row sv 34 1 ((List.range len).map λj=>.own (2000+j) (S j)) 0)
 el:∀j,j < len→m (2000+j)=some (.row (S j) 78 4 (L j) 0)
theorem PtM.upd {m:Mem} {sv:Value} {S:Nat→Value} {L:Nat→List AV} {len k:Nat} {x:Option Ent} (h:PtM m sv S L len) (hk:k≠12) (hk2:k < 2000):PtM (upd m k x) sv S L len :=
 ⟨by rw [Zfm (ZDi hk)];exact h.top,λj hj=>by rw [Zfm zo];exact h.el j hj⟩
theorem Zze {P:Program} {n:Nat} {K:St→Prop} {st:St} (h:K st):Zl1 P n [] K st:=h
theorem exSplit (a:QTs) (q:Qt) {n:Nat} (hl:a.length≤100000) (hq:∀t∈a,t.2.length≤n) (hn:n≤100000):Pure prog 350 [qpA a,q.av] (.sl 1 ((List.range (moQ q a+1)).map λk=>qpA (woL q a k))):=by
 have hpm:(a.map qtA).length=a.length:=ZBt ..;have gp:∀i (h:i < a.length),(a.map qtA).getD i .u=qtA a[i]:=λi h=>Zaw qtA h;have hmo:∀i,moQ q (a.take i)≤n:=λi=>mo_le λt ht=>hq t (ZC3 ht);have hwl:∀i k,((woL q (a.take i) k).map qtA).length≤100000:=λi k=>by
  rw [ZBt];have:=Zwh q (a.take i) k;rw [ZB9] at this;omega
 have hfull:a.take a.length=a:=ZC8;obtain⟨q1,q2,q3,q4⟩:=q;generalize hQ:(⟨q1,q2,q3,q4⟩:Qt)=q at *;show Pure _ _ [.sl 4 (a.map qtA),q.av] (.sl 1 ((List.range (moQ q a+1)).map λk=>.sl 4 ((woL q a k).map qtA)));generalize a.map qtA=A at *;have hqv:q.av=.agg [iv q1,iv q2,iv q3,iv q4]:=by rw [←hQ]
 rw [hqv];refine pI func350 rfl ntmps350 results350 call350 ?_
 (refine wkad w_t w_t w_t (w_s ?_);intros)
 rename_i g3 s12;refine Zff (Frz.elNil (K:=12) (j:=0) 2000 4 78 (gC) zo zr) ?_;refine r_loopZ ?_;refine Zad (ι:=Nat) (λi e m=>i≤a.length∧(e 3=.pbox 3 g3 0∧m 3=some (.box g3 91 [iv q1,iv q2,iv q3,iv q4] false))∧(e 13=.sl 4 A∧e 14=iv a.length∧e 15=iv i)∧∃sv S,e 5=.own 12 sv∧PtM m sv S (λk=>(woL q (a.take i) k).map qtA) (moQ q (a.take i)+1)) (λi=>a.length - i) 0 zr ?_ ?_
 ·rintro i e m ⟨hi,⟨e3,m3⟩,⟨e13,e14,e15⟩,sv,S,e5,hM⟩
  by_cases hlt:i < a.length
  ·have gpi:=gp i hlt;have hql:a[i].2.length≤n:=hq _ (ZBy hlt);have hmi:=hmo i;have hsn:a.take (i+1)=a.take i++[a[i]]:=by rw [ZD1 hlt]
   have hm2:moQ q (a.take (i+1))=max (moQ q (a.take i)) (tmQ q a[i].2):=by rw [hsn,Zyy]
   have hw2:∀k,woL q (a.take (i+1)) k=if tmQ q a[i].2=k then woL q (a.take i) k++[(a[i].1,woQ q a[i].2)] else woL q (a.take i) k:=λk=>by rw [hsn,wo_snoc]
   have habv:∀k,moQ q (a.take i) < k→woL q (a.take i) k=[]:=λk h=>wo_above h;have hwl:=hwl i;clear gp hq hmo hsn;generalize woL q (a.take i)=W at *;generalize moQ q (a.take i)=mo at *;generalize a[i]=u at *;obtain⟨u1,u2⟩:=u;simp only at hql hm2 hw2;have gpi:A.getD i .u=.agg [.v (.bool (decide (u1.num < 0))),lim (toL u1.num.natAbs),lim (toL u1.den),.sl 4 (u2.map Qt.av)]:=gpi;have hqt:[(u1,woQ q u2)].map qtA=[.agg [.v (.bool (decide (u1.num < 0))),lim (toL u1.num.natAbs),lim (toL u1.den),.sl 4 ((woQ q u2).map Qt.av)]]:=rfl;have hum:(u2.map Qt.av).length=u2.length:=ZBt ..;have gu:∀k (h:k < u2.length),(u2.map Qt.av).getD k .u=Qt.av u2[k]:=λk h=>Zaw Qt.av h
   generalize toL u1.num.natAbs=un at *;generalize toL u1.den=ud at *;generalize decide (u1.num < 0)=us at *;generalize u2.map Qt.av=UQ at *
   (refine wkad (w_8 e3 m3 e13 e14 e15 e5 hpm gpi) w_t w_t (w_s ?_);intros)
   rename_i g7;refine Zff (Frz.nilOwn (d:=8) 500 4 91 (gC)) ?_;refine Zad (ι:=Nat) (λk e m=>k≤u2.length∧(e 3=.pbox 3 g3 0∧m 3=some (.box g3 91 [iv q1,iv q2,iv q3,iv q4] false))∧(e 13=.sl 4 A∧e 14=iv a.length∧e 15=iv i∧e 5=.own 12 sv)∧(e 7=.pbox 7 g7 0∧m 7=some (.box g7 78 [.v (.bool us),lim un,lim ud,.sl 4 UQ] false))∧(e 20=.sl 4 UQ∧e 21=iv u2.length∧e 22=iv k)∧(∃s8,e 8=.own 500 s8∧m 500=some (.row s8 91 4 ((woQ q (u2.take k)).map Qt.av) 0))∧PtM m sv S (λk=>(W k).map qtA) (mo+1)) (λk=>u2.length - k) 0 zr ?_ ?_
   ·clear e3 m3 e13 e14 e15 e5 hM
    rintro k e m ⟨hk,⟨e3,m3⟩,⟨e13,e14,e15,e5⟩,⟨e7,m7⟩,⟨e20,e21,e22⟩,⟨s8,e8,m8⟩,hM⟩
    by_cases hkl:k < u2.length
    ·have guk:=gu k hkl
     have hwk:(woQ q (u2.take k)).length≤100000:=by
      have:=Zwr q (u2.take k);rw [ZB9] at this;omega
     have hwm:((woQ q (u2.take k)).map Qt.av).length≤100000:=by rw [ZBt];exact hwk
     have hts:u2.take (k+1)=u2.take k++[u2[k]]:=by rw [ZD1 hkl]
     by_cases hx:u2[k]=q
     ·have hnx:(woQ q (u2.take (k+1))).map Qt.av=(woQ q (u2.take k)).map Qt.av:=by rw [hts,woQ_n _ hx]
      rw [hx,hqv] at guk;clear gu hts;generalize (woQ q (u2.take k)).map Qt.av=R at *
      (refine wkad (w_15 e3 m3 e13 e14 e15 e5 e7 m7 e20 e21 e22 e8 m8 hum guk) w_t w_t (w_s ?_);intros)
      exact⟨k+1,⟨zo,⟨gW e3,gW m3⟩,⟨gW e13,gW e14,gW e15,gW e5⟩,⟨gW e7,gW m7⟩,⟨gW e20,gW e21,gS⟩,⟨s8,gW e8,by rw [hnx];exact gW m8⟩,by(repeat' first|exact hM|refine PtM.upd ?_ zd zd)⟩,zo⟩
     ·have hnx:woQ q (u2.take (k+1))=woQ q (u2.take k)++[u2[k]]:=by rw [hts,woQ_y _ hx]
      have hmp:(woQ q (u2.take (k+1))).map Qt.av=(woQ q (u2.take k)).map Qt.av++[Qt.av u2[k]]:=by rw [hnx,ZCe];rfl
      clear gu hts hnx;generalize (woQ q (u2.take k)).map Qt.av=R at *;generalize u2[k]=x at *;obtain⟨x1,x2,x3,x4⟩:=x;have hx:¬(x1=q1∧x2=q2∧x3=q3∧x4=q4):=λh=>hx (by rw [←hQ];obtain⟨rfl,rfl,rfl,rfl⟩:=h;rfl)
      (refine wkad (w_15 e3 m3 e13 e14 e15 e5 e7 m7 e20 e21 e22 e8 m8 hum guk) w_t w_t (w_s ?_);intros)
      all_goals exact⟨k+1,⟨zo,⟨gW e3,gW m3⟩,⟨gW e13,gW e14,gW e15,gW e5⟩,⟨gW e7,gW m7⟩,⟨gW e20,gW e21,gS⟩,⟨_,gC,by rw [hmp];exact gC⟩,by(repeat' first|exact hM|refine PtM.upd ?_ zd zd)⟩,zo⟩
    ·have hku:k=u2.length:=zo;subst hku;rw [ZC8] at m8;have htw:=Zwr q u2;have hRm:((woQ q u2).map Qt.av).length=(woQ q u2).length:=ZBt ..;have hn1:(u2.length:Int) - ((woQ q u2).length:Int)=(tmQ q u2:Int):=zo;have hn2:(tmQ q u2:Int)≤n:=zo;generalize (woQ q u2).map Qt.av=R at *;generalize (woQ q u2).length=rl at *;generalize tmQ q u2=tn at *
     (refine wkad (w_16 e3 m3 e13 e14 e15 e5 e7 m7 e20 e21 e22 e8 m8 hum hRm hn1) w_t w_t (w_s ?_);intros)
     refine Zxw (ι:=Nat) (λj e m=>(mo+1≤j∧j≤max mo tn+1)∧(e 3=.pbox 3 g3 0∧m 3=some (.box g3 91 [iv q1,iv q2,iv q3,iv q4] false))∧(e 13=.sl 4 A∧e 14=iv a.length∧e 15=iv i)∧(e 7=.pbox 7 g7 0∧m 7=some (.box g7 78 [.v (.bool us),lim un,lim ud,.sl 4 UQ] false))∧(e 8=.own 500 s8∧m 500=some (.row s8 91 4 R 0))∧e 11=iv tn∧∃sv S,e 5=.own 12 sv∧PtM m sv S (λk=>(W k).map qtA) j) (λj=>max mo tn+1 - j) (mo+1) zr ?_ ?_
     ·clear e3 m3 e13 e14 e15 e5 hM e7 m7 e8 m8 e20 e21 e22
      rintro j e m ⟨⟨hj1,hj2⟩,⟨e3,m3⟩,⟨e13,e14,e15⟩,⟨e7,m7⟩,⟨e8,m8⟩,e11,sv,S,e5,hM⟩
      have hlE:((List.range j).map λk=>AV.own (2000+k) (S k)).length=j:=by rw [ZBt,List.length_range]
      by_cases hjt:j≤tn
      ·obtain⟨top,el⟩:=hM;have hjt':(j:Int)≤(tn:Int):=zo;have hW:=habv j zo;have n3:¬3=2000+j:=zo;have n7:¬7=2000+j:=zo;have n5:¬500=2000+j:=zo;have hset:∀x y:AV,(((List.range j).map λk=>AV.own (2000+k) (S k))++[x]).set j y=((List.range j).map λk=>AV.own (2000+k) (S k))++[y]:=λx y=>by
        rw [List.set_append_right _ _ zo,hlE,ZEv];rfl
       have hnw:(List.range (j+1)).map (λk=>AV.own (2000+k) (if k=j then .slice none 0 0 else S k))=((List.range j).map λk=>AV.own (2000+k) (S k))++[.own (2000+j) (.slice none 0 0)]:=by
        rw [Zvh,ZBm rfl];congr 1;exact ZEd λk hk=>by rw [ZBl (by have:=List.mem_range.1 hk;omega)]
       generalize (List.range j).map (λk=>AV.own (2000+k) (S k))=E at *
       (refine wkad (w_14 e3 m3 e13 e14 e15 e7 m7 e8 m8 e11 e5 top hlE hjt') w_t w_t (w_s ?_);intros)
       refine⟨j+1,_,Frz.elNil (K:=12) (j:=j) (2000+j) 4 78 (gC) zo (by rw [ZDd zo,hlE,ZEv];rfl),⟨⟨zo,zo⟩,⟨gW e3,gW (And.intro m3 n3)⟩,⟨gW e13,gW e14,gW e15⟩,⟨gW e7,gW (And.intro m7 n7)⟩,⟨gW e8,gW (And.intro m8 n5)⟩,gW e11,_,(λk=>if k=j then .slice none 0 0 else S k),gC,⟨?_,λk hk=>?_⟩⟩,zo⟩
       ·dsimp only;rw [Zjs,hset,←hnw]
       ·by_cases hkj:k=j
        ·subst hkj;dsimp only;rw [Zfm zo,Zjs,if_pos rfl,hW];rfl
        ·rw [ZBl hkj];simp (disch:=omega) only [Zfm,marks];exact el k zo
      ·have hjt':¬(j:Int)≤(tn:Int):=zo;have hjm:j=max mo tn+1:=zo;have hM2:=hM.top
       (refine wkax (w_14 e3 m3 e13 e14 e15 e7 m7 e8 m8 e11 e5 hM2 hlE hjt') w_t w_t w_t w_t w_t w_t (w_r 0) (w_s ?_);intros)
       refine r_frzD (Frz.own (d:=8) (k:=500) (sv:=s8) (ty:=91) (mm:=4) (es:=R) (pub:=0) (gW e8) (by exact m8)) ?_;have hM:PtM (Go.Pg.mark m 500) sv S (λk=>(W k).map qtA) j:=hM.upd zo zo;obtain⟨top,el⟩:=hM;have etn:=el tn zo
       have hgE:((List.range j).map λk=>AV.own (2000+k) (S k)).getD tn .u=.own (2000+tn) (S tn):=by
        rw [ZB6,ZCt,ZEb zo];rfl
       have hwt:=hwl tn;have hset:=λx:AV=>Zxu (λk=>AV.own (2000+k) (S k)) (n:=j) x (show tn < j by omega);have w7:Go.Pg.mark m 500 7=some (.box g7 78 [.v (.bool us),lim un,lim ud,.sl 4 UQ] false):=by show Go.Pg.upd m 500 _ 7=_;rw [Zfm zo];exact m7
       have w3:Go.Pg.mark m 500 3=some (.box g3 91 [iv q1,iv q2,iv q3,iv q4] false):=by show Go.Pg.upd m 500 _ 3=_;rw [Zfm zo];exact m3
       have htj:(tn:Int) < (j:Int):=zo;have htj2:tn < j:=zo;obtain⟨kn,hkn⟩:∃kn,kn=2000+tn:=⟨_,rfl⟩;rw [←hkn] at etn hgE;have b3:(3 == kn)=false:=by rw [ZF5];omega
       have b7:(7 == kn)=false:=by rw [ZF5];omega
       have b12:(12 == kn)=false:=by rw [ZF5];omega
       have n3:¬3=kn:=zo;have n7:¬7=kn:=zo;have n12:¬12=kn:=zo;have n12':¬kn=12:=zo;have hWn:∀k,(woL q (a.take (i+1)) k).map qtA=if tn=k then (W k).map qtA++[.agg [.v (.bool us),lim un,lim ud,.sl 4 R]] else (W k).map qtA:=λk=>by
        rw [hw2];by_cases h:tn=k
        ·rw [ZBm h,ZBm h,ZCe,hqt]
        ·rw [ZBl h,ZBl h]
       generalize Go.Pg.mark m 500=m1 at *;clear m3 m7 m8 hM2 hw2;generalize hLT:(W tn).map qtA=LT at *;generalize (List.range j).map (λk=>AV.own (2000+k) (S k))=E at *;refine r_drawS 13 (Zga [(10,.sl 4 [.agg [.v (.bool us),lim un,lim ud,.sl 4 R]])]) [11,1011] [kn] (by simp only [ZHb,ZFb];rfl) (by simp only [List.drop_succ_cons,ZDy];rfl) zk zr zk zk (by simp only [ZB5,ZCf,Nat.reduceAdd];rfl) ?_
       (refine wkax (w_22 e3 w3 e13 e14 e15 e7 w7 e11 e5 top hlE hgE etn b3 b7 b12 n12 n12' n3 n7 hwt htj) w_t w_t w_t w_t w_t w_t (w_r 0) (w_s ?_);intros)
       rename_i svn;intro hrel;have h1:=own_one (d:=58) (k:=kn) (sv:=svn) (gC) hrel;unfold Value.oneCell' at h1;refine⟨_,Frz.slotV (d:=58) (k:=kn) (gC),?_⟩
       (refine wkax (w_17 h1 e3 w3 e13 e14 e15 e7 w7 e11 e5 top hlE n12 n12' n3 n7 htj) w_t w_t w_t w_t w_t w_t (w_r 0) (w_s ?_);intros)
       refine⟨_,Frz.elOwn (K:=12) (k:=kn) (j:=tn) (gW n12) (gW n12') (by rw [ZG9 zo]),?_⟩;refine Zze ?_
       (refine wkax (w_13 e3 w3 e13 e14 e15 e7 w7 e11 e5 n12 n12' n3 n7) w_t w_t w_t w_t w_t w_t (w_r 0) (w_s ?_);intros)
       refine⟨i+1,⟨zo,⟨gW e3,gW (And.intro w3 n3)⟩,⟨gW e13,gW e14,gS⟩,_,(λk=>if k=tn then svn else S k),gW e5,⟨?_,λk hk=>?_⟩⟩,zo⟩
       ·dsimp only;rw [Zjs,List.set_set,hset,hm2,←hjm];congr 2;refine List.map_congr_left λk hk=>?_;by_cases h:k=tn
        ·rw [ZBm h,ZBm h,hkn,h]
        ·rw [ZBl h,ZBl h]
       ·dsimp only;by_cases h:k=tn
        ·subst h;rw [←hkn,ZBm rfl,hWn,ZBm rfl,hLT];simp (disch:=omega) only [Zfm,Zjs,marks]
        ·rw [ZBl h,hWn,ZBl (λh2=>h h2.symm)];simp (disch:=omega) only [Zfm,marks];exact el k zo
     ·exact⟨⟨ZBn _,zo⟩,⟨gW e3,gW m3⟩,⟨gW e13,gW e14,gW e15⟩,⟨gW e7,gW m7⟩,⟨gW e8,gW m8⟩,gC,_,_,gW e5,by(repeat' first|exact hM|refine PtM.upd ?_ zd zd)⟩
   ·exact⟨ZBw _,⟨gW e3,gW m3⟩,⟨gW e13,gW e14,gW e15,gW e5⟩,⟨gC,gC⟩,⟨gC,gW hum,gC⟩,⟨_,gC,gC⟩,by(repeat' first|exact hM|refine PtM.upd ?_ zd zd)⟩
  ·have hia:i=a.length:=zo;subst hia;rw [hfull] at hM;have hM2:=hM.top
   (refine wkad (w_8 e3 m3 e13 e14 e15 e5 hM2 hpm) w_t w_t (w_s ?_);intros)
   refine Exists.elim (Frz.elsPub (K:=12) (d:=5) (mm:=4) (λj=>2000+j) S _ hM2 (λj hj=>⟨hM.el j hj,zo⟩) (λi j _ _ h=>zo) (gW e5)) λm' hF=>⟨_,hF,?_⟩
   (refine wkad (w_8 e3 m3 e13 e14 e15 e5 hM2 hpm) w_t w_t (w_s ?_);intros)
   all_goals exact gL
 ·refine⟨ZBw _,⟨gC,gC⟩,⟨gC,gW hpm,gC⟩,s12,(λ_=>.slice none 0 0),gC,⟨?_,λj hj=>?_⟩⟩
  ·rw [Zjs];rfl
  ·have hj0:j=0:=by
    have:moQ q (a.take 0)=0:=rfl;omega
   subst hj0;rw [Zfm zd,Zjs];rfl
theorem XB.scl {p:QTs} {k n:Nat} (h:XB p k n) {s:Int} (hs:s=-1∨s=1):XB (sclT (s:Rat) p) k n:=by
 rcases hs with rfl | rfl
 ·exact h.neg
 ·show XB (sclT 1 p) k n;rw [Zky];exact h
theorem ratOfm1:Pure prog 27 [iv (-1)] (ratQ (-1:Rat)):=Zmh (z:=-1) (.inl rfl)
theorem Zz0:Pure prog 55 [ratQ (-1:Rat)] (.sl 4 ([((-1:Rat),[])].map qtA)):=by
 have c:=Zsb (-1) sz_m1 zo
 rwa [cst_ok,ZBl (by decide +kernel)] at c
theorem ratOf1':Pure prog 27 [iv 1] (.agg [.v (.bool false),lim [1],lim [1]]):=by rw [←Znf];exact Zmh (z:=1) (.inr (.inr rfl))
theorem Zzw (a num den:QTs) (q:Qt) {ka kb na nb L LA M:Nat} (ha:XB a ka na) (hu:XB num kb nb) (hd:XB den kb nb) (la:a.length≤LA) (hLA:1≤LA∧LA≤100000) (hMM:M≤1000) (hmo:moQ q.norm.1 a≤M) (lu:num.length≤L) (ld:den.length≤L) (h1:1≤L)
 (hq:na+(M+1)*nb≤maxQ) (hL:(M+1)*LA*L ^ (M+1)≤100000000) (hk:ka+(M+1)*(2*kb)+10≤100000) :
 Pure prog 342 [qpA a,q.av,.agg [qpA num,qpA den]] (if q.norm.2=0 then .agg [qpA a,qpA [((1:Rat),[])]] else .agg [qpA (rpN q.norm.1 a (sclT (q.norm.2:Rat) num) den),qpA (rpD q.norm.1 a den)]):=by
 have cn0:=Zxy q.k q.a q.b q.c;have cn:Pure prog 162 [q.av] (.tup [q.norm.1.av,iv q.norm.2]):=cn0;clear cn0;have hs:=Zh6 q;have c1:=ratOf1';have cc:=awConst1
 have o1:qpA [((1:Rat),[])]=.sl 4 [.agg [.v (.bool false),lim [1],lim [1],.sl 4 []]]:=by
  show AV.sl 4 [qtA ((1:Rat),[])]=_;rw [Zk9];rfl
 obtain⟨q1,q2,q3,q4⟩:=q;generalize hN:Qt.norm ⟨q1,q2,q3,q4⟩=nn at *;obtain⟨n,s⟩:=nn;simp only at hs cn ⊢;by_cases hs0:s=0
 ·subst hs0;rw [ZBm rfl,o1];show Pure _ _ [.sl 4 (a.map qtA),.agg [iv q1,iv q2,iv q3,iv q4],.agg [.sl 4 (num.map qtA),.sl 4 (den.map qtA)]] (.agg [.sl 4 (a.map qtA),.sl 4 [.agg [.v (.bool false),lim [1],lim [1],.sl 4 []]]]);obtain⟨n1,n2,n3,n4⟩:=n;generalize a.map qtA=A at *;generalize num.map qtA=U at *;generalize den.map qtA=D at *;refine pI func342 rfl ntmps342 results342 call342 ?_
  (refine wkad w_t (w_3 cn c1 cc) w_t (w_s ?_);intros)
  all_goals exact gL
 ·rw [ZBl hs0];have hs':s=-1∨s=1:=by rcases hs with h | h | h;exact .inl h;exact absurd h hs0;exact .inr h
  have hv:=hu.scl hs';have lv:(sclT (s:Rat) num).length≤L:=by rw [Zcy];exact lu
  obtain⟨mm,hmm⟩:∃mm,mm=moQ n a:=⟨_,rfl⟩;have hm:mm≤M:=by rw [hmm];exact hmo
  have e0:L ^ (M+1)=L ^ M*L:=ZCz ..;have p1:∀i,i≤M+1→L ^ i≤L ^ (M+1):=λi hi=>ZDe h1 hi;have p0:∀i,i≤M→L ^ i≤L ^ M:=λi hi=>ZDe h1 hi;have p2:∀i,i≤M+1→i*nb≤(M+1)*nb:=λi hi=>ZB4 _ hi;have p3:∀i,i≤M+1→i*kb≤(M+1)*(2*kb):=λi hi=>ZCw hi zo;have r3:∀i,i≤M+1→i*(2*kb)≤(M+1)*(2*kb):=λi hi=>ZB4 _ hi;have hM:=Zjd;have b0:(M+1)*LA*L ^ (M+1)≤100000000:=hL;have b1:(M+1)*LA*L ^ (M+1)=M*LA*L ^ (M+1)+LA*L ^ (M+1):=by rw [ZDh,ZCc]
  have b2:L ^ M≤L ^ (M+1):=ZDe h1 zo;have b3:L≤L ^ (M+1):=by have h:=p1 1 zo;rwa [Nat.pow_one] at h
  have b4:M*LA*L ^ M≤M*LA*L ^ (M+1):=ZDr _ b2;have b6':L ^ (M+1)≤LA*L ^ (M+1):=ZG6 _ zo;have b7':LA*L ^ M≤LA*L ^ (M+1):=ZDr _ b2;have b8:1*(2*kb)≤(M+1)*(2*kb):=ZB4 _ zo;have b5:nb≤(M+1)*nb:=ZG6 _ zo;have hpa:∀k,XB (paQ n a k) ka na:=λk=>ha.part n k;have hpl:∀k,(paQ n a k).length≤LA:=λk=>ZBs (pa_len n a k) la;have hpn:=Zxl n (num:=sclT (s:Rat) num) ha.1 hv.1 hd.1;rw [←hpn];show Pure _ _ _ (.agg [.sl 4 ((hnX (paQ n a) (sclT (s:Rat) num) den (moQ n a) (moQ n a+1)).map qtA),.sl 4 ((pwX den (moQ n a)).map qtA)])
  rw [←hmm];have hlen:∀i,i≤mm→(hnX (paQ n a) (sclT (s:Rat) num) den mm i).length≤M*LA*L ^ M:=λi hi=>hn_len2 hpl lv ld h1 mm i M zo;have hlp:∀i,i≤mm→(pwX den i).length≤L ^ M:=λi hi=>ZBs (Zo4 ld i) (p0 i zo);have hx:∀i,i≤mm→XB (hnX (paQ n a) (sclT (s:Rat) num) den mm i) (ka+1+i*(2*kb)) (na+i*nb):=λi hi=>hn_xb ha hv hd n mm i zo;have cX:∀i,i≤mm→Pure prog 66 [.sl 4 ((hnX (paQ n a) (sclT (s:Rat) num) den mm i).map qtA),.sl 4 ((sclT (s:Rat) num).map qtA)] (.sl 4 ((mulX (hnX (paQ n a) (sclT (s:Rat) num) den mm i) (sclT (s:Rat) num)).map qtA)):=λi hi=>by
   have l1:=hlen i hi;have l2:(hnX (paQ n a) (sclT (s:Rat) num) den mm i).length*(sclT (s:Rat) num).length≤M*LA*L ^ M*L:=ZCw l1 lv;rw [ZCv (M*LA),←e0] at l2;have l3:=p2 i zo;have l6:=r3 i zo;have l4:i*nb≤M*nb:=ZB4 _ zo;have l5:(M+1)*nb=M*nb+nb:=ZDh ..;exact Zzy _ _ (hx i hi) hv zo zo zo zo zo zo
  have cN:∀k,Pure prog 100 [.sl 4 ((woL n a k).map qtA)] (.sl 4 ((paQ n a k).map qtA)):=λk=>by
   obtain⟨a1,a2,D,C,a3,a4,a5,a6⟩:=ha;exact exNrmG (woL n a k) (D:=D) (C:=C) ⟨λt ht=>by obtain⟨u,hu,rfl⟩:=Zjx ht;exact a6.1 u hu,ZBs (n1_wo n k a) a6.2⟩ a3 a4 a5 (Zsn a1.dom n k) (by have:=Zwh n a k;omega) (Zqm a2 n k) zo zo
  have cY:∀i,i≤mm→Pure prog 66 [.sl 4 ((paQ n a (mm - i)).map qtA),.sl 4 ((pwX den i).map qtA)] (.sl 4 ((mulX (paQ n a (mm - i)) (pwX den i)).map qtA)):=λi hi=>by
   have l1:=hlp i hi;have l0:=hpl (mm - i);have l2:(paQ n a (mm - i)).length*(pwX den i).length≤LA*L ^ M:=ZCw l0 l1;have l3:=p2 i zo;have l4:=p3 i zo;exact Zzy _ _ (hpa _) (hd.pw i) zo zo zo zo zo zo
  have cA:∀i,i≤mm→Pure prog 69 [.sl 4 ((mulX (hnX (paQ n a) (sclT (s:Rat) num) den mm i) (sclT (s:Rat) num)).map qtA),.sl 4 ((mulX (paQ n a (mm - i)) (pwX den i)).map qtA)] (.sl 4 ((hnX (paQ n a) (sclT (s:Rat) num) den mm (i+1)).map qtA)):=λi hi=>by
   have x1:=(hx i hi).mul hv;have x2:=(hpa (mm - i)).mul (hd.pw i);have l1:=ZBs (Zdz (hnX (paQ n a) (sclT (s:Rat) num) den mm i) (sclT (s:Rat) num)) (ZCw (hlen i hi) lv);rw [ZCv (M*LA),←e0] at l1;have l7:=r3 (i+1) zo;rw [ZDh] at l7;have l2:=ZBs (Zdz (paQ n a (mm - i)) (pwX den i)) (ZCw (hpl (mm - i)) (hlp i hi));have l3:=p2 i zo;have l4:=p3 i zo;have l5:i*nb≤M*nb:=ZB4 _ zo;have l6:(M+1)*nb=M*nb+nb:=ZDh ..;exact exPlus _ _ (x1.mono (k:=_) (ZBn _) (show _≤na+(M+1)*nb by omega)).qk (x2.mono (k:=_) (ZBn _) (show _≤na+(M+1)*nb by omega)).qk x1.nz x2.nz zo zo zo zo zo
  have cD:∀i,i < mm→Pure prog 66 [.sl 4 ((pwX den i).map qtA),.sl 4 (den.map qtA)] (.sl 4 ((pwX den (i+1)).map qtA)):=λi hi=>by
   have l1:=hlp i zo;have l2:(pwX den i).length*den.length≤L ^ M*L:=ZCw l1 ld;rw [←e0] at l2;have l3:=p2 (i+1) zo;have l4:=p3 (i+1) zo;have l5:(i+1)*nb=i*nb+nb:=ZDh ..;have l6:(i+1)*kb=i*kb+kb:=ZDh ..;exact Zzy _ _ (hd.pw i) hd zo zo zo zo zo zo
  have cS0:=exSplit a n zo ha.2.1 zo;rw [←hmm] at cS0
  have cM:Pure prog 66 [.sl 4 ([((-1:Rat),[])].map qtA),.sl 4 (num.map qtA)] (.sl 4 ((mulX [((-1:Rat),[])] num).map qtA)):=by
   have hx1:XB [((-1:Rat),[])] 1 0:=xbC _ _ (by decide +kernel);have l1:([((-1:Rat),[])]:QTs).length*num.length≤1*L:=ZCw zs lu;have l2:([((-1:Rat),[])]:QTs).length≤1:=by simp
   exact Zzy _ _ hx1 hu zo zo zo zo zo zo
  have hVW:s=-1→(sclT (s:Rat) num).map qtA=(mulX [((-1:Rat),[])] num).map qtA:=λh=>by rw [h,mul_neg hu.1];rfl
  have hVU:s=1→(sclT (s:Rat) num).map qtA=num.map qtA:=λh=>by rw [h];show(sclT 1 num).map qtA=_;rw [Zky]
  have cM1:=ratOfm1;have cM2:=Zz0;have hpl2:((List.range (mm+1)).map λk=>qpA (woL n a k)).length=mm+1:=by rw [ZBt,List.length_range]
  have hpg:∀k,k≤mm→((List.range (mm+1)).map λk=>qpA (woL n a k)).getD k .u=.sl 4 ((woL n a k).map qtA):=λk hk=>by
   rw [ZB6,ZCt,ZEb zo];rfl
  have d00:(pwX den 0).map qtA=[.agg [.v (.bool false),lim [1],lim [1],.sl 4 []]]:=by
   show [qtA ((1:Rat),[])]=_;rw [Zk9];rfl
  clear hx hlen hlp hpa hpl b0 b1 b2 b3 b4 b5 b6' b7' b8 p1 p0 p2 p3 r3 e0 hq hL hk;have cS1:Pure prog 350 [.sl 4 (a.map qtA),n.av] (.sl 1 ((List.range (mm+1)).map λk=>qpA (woL n a k))):=cS0;clear cS0;show Pure _ _ [.sl 4 (a.map qtA),.agg [iv q1,iv q2,iv q3,iv q4],.agg [.sl 4 (num.map qtA),.sl 4 (den.map qtA)]] _;have h00:(hnX (paQ n a) (sclT (s:Rat) num) den mm 0).map qtA=[]:=rfl;generalize hHN:(λi=>(hnX (paQ n a) (sclT (s:Rat) num) den mm i).map qtA)=HN at *;have hHN:∀i,(hnX (paQ n a) (sclT (s:Rat) num) den mm i).map qtA=HN i:=λi=>by rw [←hHN]
  generalize hXX:(λi=>(mulX (hnX (paQ n a) (sclT (s:Rat) num) den mm i) (sclT (s:Rat) num)).map qtA)=XX at *;have hXX:∀i,(mulX (hnX (paQ n a) (sclT (s:Rat) num) den mm i) (sclT (s:Rat) num)).map qtA=XX i:=λi=>by rw [←hXX]
  generalize hYY:(λi=>(mulX (paQ n a (mm - i)) (pwX den i)).map qtA)=YY at *;have hYY:∀i,(mulX (paQ n a (mm - i)) (pwX den i)).map qtA=YY i:=λi=>by rw [←hYY]
  generalize hDN:(λi=>(pwX den i).map qtA)=DN at *;have hDN:∀i,(pwX den i).map qtA=DN i:=λi=>by rw [←hDN]
  generalize hPN:(λi=>(paQ n a i).map qtA)=PN at *;have hPN:∀i,(paQ n a i).map qtA=PN i:=λi=>by rw [←hPN]
  simp only [hHN,hXX,hYY,hDN,hPN] at cX cN cY cA cD h00 d00 ⊢;clear hHN hXX hYY hDN hPN;generalize (List.range (mm+1)).map (λk=>qpA (woL n a k))=PT at *;obtain⟨n1,n2,n3,n4⟩:=n;generalize a.map qtA=A at *;have cUV:s=1→num.map qtA=(sclT (s:Rat) num).map qtA:=λh=>by rw [h];show _=(sclT 1 num).map qtA;rw [Zky]
  generalize (sclT (s:Rat) num).map qtA=V at *;generalize (mulX [((-1:Rat),[])] num).map qtA=W at *;generalize num.map qtA=U at *;generalize den.map qtA=D at *;generalize [((-1:Rat),[])].map qtA=NG at *;have cS:Pure prog 350 [.sl 4 A,.agg [iv n1,iv n2,iv n3,iv n4]] (.sl 1 PT):=cS1;clear cS1;have hmm1:((mm+1:Nat):Int) - 1=(mm:Int):=zo;clear hN hs hs0 hpn hv lv hu hd ha hmm;rcases hs' with rfl | rfl
  rotate_left
  have hV:=hVU rfl
  rotate_left
  have hV:=hVW rfl;all_goals (
   subst hV;clear hVU hVW;refine pI func342 rfl ntmps342 results342 call342 ?_
   (refine wkad (w_2 hmm1 hpl2) (w_7 cn cM1 cM2 cM cS c1 cc) w_t (w_s ?_);intros)
   refine Zff (Frz.nil (d:=11) 4 (gC)) ?_;refine Zad (ι:=Nat) (λi e m=>i≤mm+1∧(∃g x,e 5=.pbox 5 g 0∧m 5=some (.box g 47 [x,.sl 4 D] false))∧(∃g,e 6=.pbox 6 g 0∧m 6=some (.box g 47 [.v (.slice none 0 0),.v (.slice none 0 0)] false))∧(e 9=.sl 4 V∧e 10=.sl 1 PT)∧e 11=.sl 4 (HN i)∧e 12=.sl 4 (DN (min i mm))∧e 13=.v (.int .i64 ((mm:Int) - (i:Int)))) (λi=>mm+1 - i) 0 zr ?_ ?_
   ·rintro i e m ⟨hi,⟨g5,x5,e5,m5⟩,⟨g6,e6,m6⟩,⟨e9,e10⟩,e11,e12,e13⟩
    by_cases hlt:i≤mm
    ·obtain⟨k,hk⟩:∃k,mm=i+k:=⟨mm - i,zo⟩;have h13:(mm:Int) - (i:Int)=(k:Int):=zo;have hmin:min i mm=i:=zo;have x1:=cX i hlt;have y1:=cY i hlt;have a1:=cA i hlt;have k1:=cN k;have hg:=hpg k zo;have hk3:k < PT.length:=zo;have h13':(k:Int) - 1=(mm:Int) - ((i+1:Nat):Int):=zo;rw [h13] at e13;rw [hmin] at e12;rw [show mm - i=k by omega] at y1;have cDi:=cD i;clear cX cY cA cN cD hpg cn cS c1 cc cM cM1 cM2 h00 d00;generalize (woL _ a k).map qtA=WK at *;by_cases hk0:k=0
     ·have hmin':min (i+1) mm=i:=zo;have hk0':¬(k:Int) > 0:=zo
      (refine wkad (w_12 e5 m5 e6 m6 e9 e10 e11 e12 e13 hpl2 hg hk0') (w_4 k1 x1 y1 a1) (w_1 (w_d 13 [(2,.sl 4 (XX i)),(7,.sl 4 (PN k)),(9,.sl 4 (YY i)),(10,.sl 4 (HN (i+1)))] [] [])) (w_s ?_);intros)
      exact⟨i+1,⟨zo,⟨g5,x5,gW e5,gW m5⟩,⟨g6,gW e6,gW m6⟩,⟨gW e9,gW e10⟩,gC,by rw [hmin'];exact gW e12,by rw [←h13'];exact gC⟩,zo⟩
     ·have hmin':min (i+1) mm=i+1:=zo;have hk0':(k:Int) > 0:=zo;have d1:=cDi zo
      (refine wkad (w_12 e5 m5 e6 m6 e9 e10 e11 e12 e13 hpl2 hg hk0') (w_5 k1 x1 y1 a1 d1) (w_1 (w_d 13 [(2,.sl 4 (XX i)),(7,.sl 4 (PN k)),(9,.sl 4 (YY i)),(10,.sl 4 (HN (i+1)))] [] [])) (w_s ?_);intros)
      exact⟨i+1,⟨zo,⟨g5,x5,gW e5,gW m5⟩,⟨g6,gW e6,gW m6⟩,⟨gW e9,gW e10⟩,gC,by rw [hmin'];exact gC,by rw [←h13'];exact gC⟩,zo⟩
    ·have him:i=mm+1:=zo;have h13:(mm:Int) - (i:Int)=-1:=zo;have hmin:min i mm=mm:=zo;rw [h13] at e13;rw [hmin] at e12;subst him;clear cX cY cA cN cD hpg cn cS c1 cc cM cM1 cM2 h00 d00 h13 hmin;generalize HN (mm+1)=H at *;generalize DN mm=E at *
     (refine wkad (w_9 e5 m5 e6 m6 e9 e10 e11 e12 e13) w_t w_t (w_s ?_);intros)
     all_goals exact gM (w_2 e6 m6)
   ·exact⟨ZBw _,⟨_,_,gC,gC⟩,⟨_,gC,gC⟩,⟨gC,gC⟩,by rw [h00];exact gC,by rw [Nat.zero_min,d00];exact gC,by rw [show(mm:Int) - ((0:Nat):Int)=(mm:Int) by omega];exact gC⟩)
theorem Ze3:szOf prog 353=some 3:=by kernel_rfl
theorem Ze5:Zd2 prog 353=some 72:=by kernel_rfl
theorem zCmb:Zan prog 353=some (.agg #[.slice none 0 0,.slice none 0 0,.slice none 0 0]):=by kernel_rfl
theorem Ze1:szOf prog 363=some 1:=by kernel_rfl
theorem szFn:szOf prog 361=some 1:=by kernel_rfl
theorem zFn:Zan prog 361=some .nilFunc:=by kernel_rfl
theorem zSch:Zan prog 363=some (.agg #[.nilFunc]):=by kernel_rfl
theorem Ze2:szOf prog 350=some 4:=by kernel_rfl
theorem zPlc:Zan prog 350=some (.agg #[.int .i64 0,.int .i64 0,.int .i64 0,.bool false]):=by kernel_rfl
section
attribute [local go_sem] underlying3 underlying4 underlying161 underlying24 underlying26 underlying28 underlying91 underlying76 underlying78 underlying33 underlying34 sz3 by3 z3 szB zB Zaq zRat Zau zInt Zat zNat Zag Zao Zah Bool.and_self Zal Zbb zSlQ szQT byQT zQT Za7 zSlT szQP zQP underlying346 underlying47 szFr byFr zFr Zce Zcj zSQP
end
end Go.Proofs.YtkefeinbjbeidaaGreatDoor
namespace Go.Proofs.YtkefeinbjbeidaaGreatDoor
open Go Go.RowKit Go.Pg Go.Pol Go.Proofs.Tryz
section
variable {ps:List PQ} {rs:List Rat}
def vlQ (ps:List PQ) (rs:List Rat):List Qt→Rat
 | []=>1
 | q :: l=>Qt.val q ps rs*vlQ ps rs l
theorem vl_app (a b:List Qt):vlQ ps rs (a++b)=vlQ ps rs a*vlQ ps rs b:=by
 induction a with
 | nil=>show vlQ ps rs b=1*_;rw [ZE2]
 | cons q a ih=>show _*vlQ ps rs (a++b)=_*vlQ ps rs a*_;rw [ih,Rat.mul_assoc]
theorem vl_perm {a b:List Qt} (h:a.Perm b):vlQ ps rs a=vlQ ps rs b:=by
 induction h with
 | nil=>rfl
 | cons q _ ih=>show _*_=_*_;rw [ih]
 | swap q r l=>show Qt.val _ ps rs*(Qt.val _ ps rs*_)=Qt.val _ ps rs*(Qt.val _ ps rs*_);grind
 | trans _ _ h1 h2=>exact h1.trans h2
theorem vl_mu (a b:List Qt):vlQ ps rs (muQ a b)=vlQ ps rs a*vlQ ps rs b:=by rw [vl_perm (Za1 _),vl_app]
theorem Zyb {t:Rat × List Qt}:∀i,i≤t.2.length→pV ps rs t i=t.1*vlQ ps rs (t.2.take i)
 | 0,_=>by show t.1=t.1*1;rw [ZE1]
 | i+1,h=>by
   have hi:i < t.2.length:=h;show pV ps rs t i*Qt.val (t.2.getD i Qt.zero) ps rs=_;rw [Zyb i zo,Zcp hi,ZD1 hi,vl_app];show _=t.1*(vlQ ps rs (t.2.take i)*(Qt.val t.2[i] ps rs*1))
   grind
theorem ZAb {l:QTs}:∀i,i≤l.length→eV ps rs l i=evl (vlQ ps rs) (l.take i)
 | 0,_=>rfl
 | i+1,h=>by
   have hi:i < l.length:=h;show eV ps rs l i+pV ps rs (l.getD i (0,[])) (l.getD i (0,[])).2.length=_;rw [ZAb i zo,Zcp hi,ZD1 hi,Zsd,Zyb _ (ZBn _),ZC8];show _=evl (vlQ ps rs) (l.take i)+(l[i].1*vlQ ps rs l[i].2+0);rw [ZDj]
theorem eV_all (l:QTs):eV ps rs l l.length=evl (vlQ ps rs) l:=by rw [ZAb _ (ZBn _),ZC8]
theorem Zud {κ:Type} (a:Rat) (f:κ→Rat) (l:List (Rat × κ)):evl (λk=>a*f k) l=a*evl f l:=by
 induction l with
 | nil=>show(0:Rat)=a*0;rw [ZFn]
 | cons t l ih=>simp only [evl];rw [ih];grind
theorem Zuf (p q:QTs):evl (vlQ ps rs) (mulX p q)=evl (vlQ ps rs) p*evl (vlQ ps rs) q:=by
 rw [Zex Zbh];simp only [vl_mu,Zud];rw [Rat.mul_comm,←Zud];congr 1
 funext k
 rw [Rat.mul_comm]
def pwr (x:Rat):Nat→Rat
 | 0=>1
 | n+1=>pwr x n*x
def swX (W:Nat→Rat) (x:Rat):Nat→Rat
 | 0=>0
 | i+1=>swX W x i+W i*pwr x i
end
def alQ (C:Qt→Prop) (l:QTs):Prop:=∀t∈l,∀q∈t.2,C q
section
variable {C:Qt→Prop}
theorem alQ.join {p q:QTs} (hp:alQ C p) (hq:alQ C q):alQ C (Za9 p q):=λt ht=>by
 obtain⟨s,hs,e⟩:=Zis ht;rw [e];rcases List.mem_append.1 hs with h | h
 ·exact hp s h
 ·exact hq s h
theorem alQ.gat {l:QTs} (h:alQ C l):alQ C (gatM l):=by
 rw [←Zrs];intro t ht;exact Zjm (P:=λx=>∀q∈x,C q) l [] (λt ht=>by cases ht) h t (List.mem_filter.1 ((Za1 _).mem_iff.1 ht)).1
theorem alQ.mul {p q:QTs} (hp:alQ C p) (hq:alQ C q):alQ C (mulX p q):=alQ.gat λu hu=>by
 obtain⟨s,hs,t,ht,rfl⟩:=Zfq hu;intro x hx;rcases List.mem_append.1 ((Za1 _).mem_iff.1 hx) with h | h
 ·exact hp s hs x h
 ·exact hq t ht x h
theorem alQ.pw {d:QTs} (h:alQ C d):∀i,alQ C (pwX d i)
 | 0=>λt ht x hx=>by
   rw [List.mem_singleton.1 ht] at hx;cases hx
 | i+1=>(h.pw i).mul h
theorem alQ.part {a:QTs} (h:alQ C a) (q:Qt) (k:Nat):alQ C (paQ q a k):=alQ.gat λu hu x hx=>by
 obtain⟨t,ht,rfl⟩:=Zjx hu;exact h t ht x (List.mem_filter.1 hx).1
theorem alQ.scl {p:QTs} (h:alQ C p) (s:Rat):alQ C (sclT s p):=λu hu=>by
 obtain⟨t,ht,rfl⟩:=List.mem_map.1 hu;exact h t ht
theorem alQ.rf {P:Nat→QTs} {a d:QTs} (hP:∀k,alQ C (P k)) (ha:alQ C a) (hd:alQ C d) (m:Nat):∀i,alQ C (rfX P a d m i)
 | 0=>λt ht=>by cases ht
 | i+1=>(alQ.rf hP ha hd m i).join (((hP i).mul (ha.pw i)).mul (hd.pw (m - i)))
end
theorem chE_of {n m:Int} {l:QTs} (h:alQ (λq=>Qt.chk q n m=0) l):chE n m l=0:=Zsh λj hj=>Zsg λi hi=>h _ (ZBy hj) _ (ZBy hi)
def cstT (u:Rat):QTs:=if u=0 then [] else [(u,[])]
theorem cstT_xb {u:Rat} {k:Nat} (h:Sz u k):XB (cstT u) (k+1) 0:=by
 have hd:=Zaf.1 h.2;have hn:=Zaf.1 h.1;have hk:65536 ^ k < 65536 ^ (k+1):=Nat.pow_lt_pow_right zo zo;unfold cstT;split
 ·exact Zoj.mono zo (ZBn _)
 ·rename_i h0;refine⟨⟨λt ht=>by rw [List.mem_singleton.1 ht];exact⟨h0,rgQ.de⟩,ZF9 _ _⟩,λt ht=>by rw [List.mem_singleton.1 ht];exact ZBn _,u.den,u.num.natAbs,u.den_nz,zo,zo,λt ht=>by rw [List.mem_singleton.1 ht];exact ZDs _,?_⟩;rw [Zbf];exact cl_le.2 (ZEz _ (ZDg u.den_nz))
theorem Zi4 (u:Rat):(cstT u).length≤1:=by unfold cstT;split<;>simp
theorem ZAl {ps:List PQ} {rs:List Rat} (u:Rat):evl (vlQ ps rs) (cstT u)=u:=by
 unfold cstT;split
 ·rename_i h;rw [h];rfl
 ·show u*1+0=u;rw [ZE1,ZDj]
theorem Zlr {C:Qt→Prop} (u:Rat):alQ C (cstT u):=by
 unfold cstT;split
 ·exact λt ht=>by cases ht
 ·exact λt ht x hx=>by rw [List.mem_singleton.1 ht] at hx;cases hx
theorem Zyr {q:Qt} (h:q.ok=true) (hs:q.norm.2≠0):q.norm.1.norm=(q.norm.1,1):=by
 obtain⟨k,a,b,c⟩:=q
 have hk:(k=3∧0≤a∧a < 64∧b=0∧c=0)∨((k=1∨k=2)∧(0≤a∧a < 40)∧(0≤b∧b < 40)∧(0≤c∧c < 40)):=by
  unfold Qt.ok at h;simpa using h
 have hc:Qt.chk ⟨k,a,b,c⟩ (List.replicate 40 ((0:Rat),(0:Rat))).length (List.replicate 64 (0:Rat)).length=0:=by
  rw [ZFp,ZFp];unfold Qt.chk;rw [ZBm h];simp only;rcases hk with⟨rfl,h1,h2,_⟩ | ⟨h0,h1,h2,h3⟩
  ·rw [ZBm rfl,ZBl zo]
  ·rw [ZBl zo,ZBl zo]
 rcases Zjc (ps:=List.replicate 40 ((0:Rat),(0:Rat))) (rs:=List.replicate 64 (0:Rat)) hc (by rw [ZFp];exact ZBn _) with⟨hn,_⟩ | ⟨k1,a1,b1,e1,s,hn,_,hn2,_,_⟩
 ·rw [hn] at hs;exact absurd rfl hs
 ·rw [hn];exact hn2
structure XL (p:QTs) (k n l:Nat):Prop where
 x:XB p k n
 l:p.length≤l
theorem XL.mono {p:QTs} {k n l j m i:Nat} (h:XL p k n l) (hk:k≤j) (hn:n≤m) (hl:l≤i):XL p j m i:=⟨h.x.mono hk hn,ZBs h.l hl⟩
theorem XL.mul {p q:QTs} {k n l j m i:Nat} (h:XL p k n l) (g:XL q j m i):XL (mulX p q) (k+j) (n+m) (l*i):=⟨h.x.mul g.x,ZBs (Zdz p q) (ZCw h.l g.l)⟩
theorem XL.add {p q:QTs} {k n l j m i:Nat} (h:XL p k n l) (g:XL q j m i):XL (Za9 p q) (k+j+1) (max n m) (l+i):=⟨h.x.add g.x,ZBs (Zen p q) (ZCx h.l g.l)⟩
abbrev subX (p q:QTs):QTs:=Za9 p (sclT (-1) q)
theorem XL.neg {q:QTs} {j m i:Nat} (g:XL q j m i):XL (sclT (-1) q) j m i:=⟨g.x.neg,by rw [Zcy];exact g.l⟩
theorem XL.sub {p q:QTs} {k n l j m i:Nat} (h:XL p k n l) (g:XL q j m i):XL (subX p q) (k+j+1) (max n m) (l+i):=h.add g.neg
theorem XL.nil:XL [] 1 0 0:=⟨Zoj,ZBn _⟩
def ofX (q:Qt):QTs:=if q.norm.2=0 then [] else [((q.norm.2:Rat),[q.norm.1])]
theorem of_ok {q:Qt} (h:q.ok=true):nrmR (ofE q)=qpA (ofX q):=by
 rw [Zyp (by show(RE.ok ⟨rawQ 1,[q]⟩ && true)=true;rw [ZF2];show((rawQ 1).ok && [q].all Qt.ok)=true;rw [Zq9,ZD0,ZFc,h];rfl)];congr 2;show gatM [RE.t ⟨rawQ 1,[q]⟩]=ofX q;have hs:sgP [q]=q.norm.2:=by show 1*q.norm.2=_;rw [Int.one_mul]
 have ht:RE.t ⟨rawQ 1,[q]⟩=((q.norm.2:Rat),putP [q]):=by
  show((rawQ 1).q*(sgP [q]:Rat),putP [q])=_;rw [Zxr,hs,ZE2]
 rw [ht,Znx];unfold ofX;by_cases h0:q.norm.2=0
 ·rw [ZBm h0,ZBm (by show(q.norm.2:Rat)=0;rw [h0];rfl)]
 ·have h1:¬(q.norm.2:Rat)=0:=by
   rcases Zh6 q with h2 | h2 | h2
   ·rw [h2];decide +kernel
   ·exact absurd h2 h0
   ·rw [h2];decide +kernel
  rw [ZBl h0,ZBl h1];have hp:=putP_y [] (q:=q) h0;rw [ZF0] at hp;rw [hp];rfl
theorem Zd7 {q:Qt} (h:q.ok=true):XL (ofX q) 1 1 1:=by
 unfold ofX;split
 ·exact XL.nil.mono (ZBn _) zo zo
 ·rename_i h0;have hn:=Zyr h h0
  have hs:(q.norm.2:Rat)≠0∧(q.norm.2:Rat).den ∣ 1∧cl (q.norm.2:Rat)≤65535:=by
   rcases Zh6 q with h2 | h2 | h2
   ·rw [h2];decide +kernel
   ·exact absurd h2 h0
   ·rw [h2];decide +kernel
  refine⟨⟨⟨λt ht=>?_,ZF9 _ _⟩,λt ht=>by rw [List.mem_singleton.1 ht];exact ZBn _,1,65535,by decide,by decide,by decide,λt ht=>by rw [List.mem_singleton.1 ht];exact hs.2.1,?_⟩,ZBn _⟩
  ·rw [List.mem_singleton.1 ht];exact⟨hs.1,ZF9 _ _,λx hx=>by rw [List.mem_singleton.1 hx];exact hn⟩
  ·rw [Zbf];exact hs.2.2
theorem Zeh {u:Rat} {k:Nat} (h:Sz u k):XL (cstT u) (k+1) 0 1:=⟨cstT_xb h,Zi4 u⟩
theorem cstX_mul {c:Rat} {p:QTs} (h:EX p):mulX (cstT c) p=if c=0 then [] else sclT c p:=by
 unfold cstT;split
 ·exact Zy0 p
 ·rename_i h0;refine Zic (D:=okQ) Zbh (Zbg rgQ ⟨λt ht=>by rw [List.mem_singleton.1 ht];exact⟨h0,rgQ.de⟩,ZF9 _ _⟩ h) ⟨λt ht=>?_,List.pairwise_map.2 h.2⟩ λφ=>?_
  ·obtain⟨u,hu,rfl⟩:=List.mem_map.1 ht;exact⟨λh1=>(Rat.mul_eq_zero.1 h1).elim h0 (h.1 u hu).1,(h.1 u hu).2⟩
  ·rw [Zex Zbh,Zn3];show c*evl (λk=>φ (muQ [] k)) p+0=_;rw [ZDj];congr 1
   have key:∀p:QTs,(∀t∈p,okQ t.2)→evl (λk=>φ (muQ [] k)) p=evl φ p:=by
    intro p
    induction p with
    | nil=>intro _;rfl
    | cons t p ih =>
      intro h;show t.1*φ (muQ [] t.2)+_=t.1*φ t.2+_;rw [ih λu hu=>h u (.tail _ hu),rgQ.comm,rgQ.one _ (h t (.head _))]
   exact key p h.dom
structure Cb where
 ps:List Int
 ab:List QTs
 be:QTs
abbrev aX (a b c:Int):QTs:=ofX ⟨1,a,b,c⟩
abbrev pX (a b c:Int):QTs:=ofX ⟨2,a,b,c⟩
abbrev nX (n:Rat):QTs:=cstT n
abbrev twX (p:QTs):QTs:=mulX (nX 2) p
def prC (a b:Int) (part below:QTs):Cb:=⟨[a,b],[subX below part,part],below⟩
def ctW (p q r:Int):QTs:=mulX (pX q r q) (pX q p r)
def cbOf (k:Int) (a:List Int) (r:Rat) (t:Int):Option Cb :=
 if k=2 then some (prC (gI a 0) (gI a 1) (nX r) (nX 1))
 else if k=3 then some ⟨a,[nX 1,nX (-1),nX 1],nX 1⟩
 else if k=5 then some (prC (gI a 0) (gI a 1) (ofX ⟨3,t,0,0⟩) (nX 1))
 else if k=9 then some (prC (gI a 0) (gI a 1) (aX (gI a 0) (gI a 2) (gI a 3)) (subX (aX (gI a 0) (gI a 2) (gI a 3)) (aX (gI a 1) (gI a 2) (gI a 3))))
 else if k=7 then some (prC (gI a 1) (gI a 2) (pX (gI a 0) (gI a 1) (gI a 2)) (pX (gI a 2) (gI a 1) (gI a 2)))
 else if k=8 then some ⟨[gI a 1,gI a 2,gI a 0],[twX (subX (pX (gI a 2) (gI a 1) (gI a 2)) (pX (gI a 0) (gI a 1) (gI a 2))),twX (pX (gI a 0) (gI a 1) (gI a 2)),subX [] (pX (gI a 2) (gI a 1) (gI a 2))],pX (gI a 2) (gI a 1) (gI a 2)⟩
 else if k=10 then some (prC (gI a 0) (gI a 1) (twX (pX (gI a 2) (gI a 0) (gI a 1))) (pX (gI a 1) (gI a 0) (gI a 1)))
 else if k=11 then some ⟨a,[ctW (gI a 0) (gI a 1) (gI a 2),ctW (gI a 1) (gI a 2) (gI a 0),ctW (gI a 2) (gI a 0) (gI a 1)],Za9 (Za9 (ctW (gI a 0) (gI a 1) (gI a 2)) (ctW (gI a 1) (gI a 2) (gI a 0))) (ctW (gI a 2) (gI a 0) (gI a 1))⟩
 else none
structure CbOk (c:Cb) (n:Int):Prop where
 len:c.ab.length=c.ps.length
 few:c.ps.length≤3
 ab:∀w∈c.ab,XL w 10 2 4
 be:XL c.be 10 2 4
 ps:∀x∈c.ps,0≤x∧x < n
theorem Zdg {k a b c:Int} (hk:k=1∨k=2) (ha:0≤a∧a < 40) (hb:0≤b∧b < 40) (hc:0≤c∧c < 40):Qt.ok ⟨k,a,b,c⟩=true:=by
 unfold Qt.ok;rw [ZCj];exact .inr ⟨hk,ha,hb,hc⟩
theorem cb_ok {k t:Int} {a:List Int} {r:Rat} {n:Int} {c:Cb} (h:cbOf k a r t=some c) (hr:Sz r 2) (ha:∀i,i < a.length→0≤gI a i∧gI a i < n) (hn:n≤40) (ht:0≤t∧t < 64)
 (hl:(k=3→a.length=3)∧(k=11→a.length=3)∧(k=2∨k=5→2≤a.length)∧(k=7∨k=8∨k=10→3≤a.length)∧(k=9→4≤a.length)):CbOk c n:=by
 obtain⟨l3,l11,l2,l7,l9⟩:=hl;have g:∀i,i < a.length→0≤gI a i∧gI a i < 40:=λi hi=>by have:=ha i hi;omega
 have pA:∀i j m,i < a.length→j < a.length→m < a.length→XL (aX (gI a i) (gI a j) (gI a m)) 1 1 1:=λi j m h1 h2 h3=>Zd7 (Zdg (.inl rfl) (g i h1) (g j h2) (g m h3));have pP:∀i j m,i < a.length→j < a.length→m < a.length→XL (pX (gI a i) (gI a j) (gI a m)) 1 1 1:=λi j m h1 h2 h3=>Zd7 (Zdg (.inr rfl) (g i h1) (g j h2) (g m h3));have c1:XL (nX 1) 2 0 1:=Zeh Zil;have c2:XL (nX 2) 2 0 1:=Zeh Zgo;have cm:XL (nX (-1)) 2 0 1:=Zeh sz_m1;have cr:XL (nX r) 3 0 1:=Zeh hr
 have pr:∀{x y:Int} {p b:QTs} {j m i j' m' i':Nat},XL p j m i→XL b j' m' i'→j+j'+1≤10→m≤2→m'≤2→i+i'≤4→(0≤x∧x < n)→(0≤y∧y < n)→CbOk (prC x y p b) n:=by
  intro x y p b j m i j' m' i' hp hb h1 h2 h3 h4 hx hy;refine⟨rfl,by show 2≤3;decide,λw hw=>?_,hb.mono zo h3 zo,λz hz=>?_⟩
  ·rcases List.mem_cons.1 hw with rfl | hw
   ·exact(hb.sub hp).mono zo zo zo
   ·rw [List.mem_singleton.1 hw];exact hp.mono zo h2 zo
  ·rcases List.mem_cons.1 hz with rfl | hz
   ·exact hx
   ·rw [List.mem_singleton.1 hz];exact hy
 have hmem:∀x∈a,0≤x∧x < n:=λx hx=>by
  obtain⟨i,hi,rfl⟩:=List.getElem_of_mem hx;have:=ha i hi
  rwa [Zg4 hi] at this
 have tri:∀{x y z:QTs} {w:QTs},XL x 10 2 4→XL y 10 2 4→XL z 10 2 4→w∈[x,y,z]→XL w 10 2 4:=by
  intro x y z w hx hy hz hw;rcases List.mem_cons.1 hw with rfl | hw
  ·exact hx
  ·rcases List.mem_cons.1 hw with rfl | hw
   ·exact hy
   ·rw [List.mem_singleton.1 hw];exact hz
 unfold cbOf at h;split at h
 ·rename_i hk;cases h;have:=l2 (.inl hk);exact pr cr c1 zd zd zd zd (ha 0 zo) (ha 1 zo)
 split at h
 ·rename_i hk;cases h;have:=l3 hk;exact⟨this.symm,by show a.length≤3;omega,λw hw=>tri (c1.mono zd zd zd) (cm.mono zd zd zd) (c1.mono zd zd zd) hw,c1.mono zd zd zd,hmem⟩
 split at h
 ·rename_i hk;cases h;have:=l2 (.inr hk);have ho:XL (ofX ⟨3,t,0,0⟩) 1 1 1:=Zd7 (by unfold Qt.ok;rw [ZCj];exact .inl ⟨rfl,ht.1,ht.2,rfl,rfl⟩);exact pr ho c1 zd zd zd zd (ha 0 zo) (ha 1 zo)
 split at h
 ·rename_i hk;cases h;have:=l9 hk;have p1:=pA 0 2 3 zo zo zo;have p2:=pA 1 2 3 zo zo zo;exact pr p1 (p1.sub p2) zd zd zd zd (ha 0 zo) (ha 1 zo)
 split at h
 ·rename_i hk;cases h;have:=l7 (.inl hk);exact pr (pP 0 1 2 zo zo zo) (pP 2 1 2 zo zo zo) zd zd zd zd (ha 1 zo) (ha 2 zo)
 split at h
 ·rename_i hk;cases h;have:=l7 (.inr (.inl hk));have p1:=pP 0 1 2 zo zo zo;have p2:=pP 2 1 2 zo zo zo;refine⟨rfl,by show 3≤3;decide,λw hw=>tri ((c2.mul (p2.sub p1)).mono zd zd zd) ((c2.mul p1).mono zd zd zd) ((XL.nil.sub p2).mono zd zd zd) hw,p2.mono zd zd zd,λx hx=>?_⟩;rcases List.mem_cons.1 hx with rfl | hx
  ·exact ha 1 zo
  ·rcases List.mem_cons.1 hx with rfl | hx
   ·exact ha 2 zo
   ·rw [List.mem_singleton.1 hx];exact ha 0 zo
 split at h
 ·rename_i hk;cases h;have:=l7 (.inr (.inr hk));exact pr (c2.mul (pP 2 0 1 zo zo zo)) (pP 1 0 1 zo zo zo) zd zd zd zd (ha 0 zo) (ha 1 zo)
 split at h
 ·rename_i hk;cases h;have:=l11 hk;have w1:=(pP 1 2 1 zo zo zo).mul (pP 1 0 2 zo zo zo);have w2:=(pP 2 0 2 zo zo zo).mul (pP 2 1 0 zo zo zo);have w3:=(pP 0 1 0 zo zo zo).mul (pP 0 2 1 zo zo zo);exact⟨this.symm,by show a.length≤3;omega,λw hw=>tri (w1.mono zd zd zd) (w2.mono zd zd zd) (w3.mono zd zd zd) hw,((w1.add w2).add w3).mono zd zd zd,hmem⟩
 ·cases h
structure Pl where
 k:Int
 q:Int
 r:Int
 mid:Bool
def plOf (n:Qt) (x:Int):Pl :=
 if n.k=1 then (if n.a=x then ⟨n.k,n.b,n.c,false⟩ else if n.b=x then ⟨n.k,n.c,n.a,false⟩ else ⟨n.k,n.a,n.b,false⟩)
 else if n.a=x∧n.c=x then ⟨n.k,n.b,n.b,true⟩
 else if n.b=x then ⟨n.k,n.a,n.c,true⟩
 else if n.a=x then ⟨n.k,n.b,n.c,false⟩
 else ⟨n.k,n.b,n.a,false⟩
def Pl.at (p:Pl) (x:Int):QTs:=if p.k=1 then aX x p.q p.r else if p.mid=true then pX p.q x p.r else pX x p.q p.r
def afS (c:Cb) (p:Pl):Nat→QTs
 | 0=>[]
 | i+1=>Za9 (afS c p i) (mulX (c.ab.getD i []) (p.at (gI c.ps i)))
def prT (c:Cb) (i j:Nat):QTs:=mulX (mulX (c.ab.getD i []) (c.ab.getD j [])) (pX (gI c.ps i) (gI c.ps j) (gI c.ps i))
def in2 (c:Cb) (i:Nat) (acc:QTs):Nat→QTs
 | 0=>acc
 | d+1=>subX (in2 c i acc d) (prT c i (i+1+d))
def out2 (c:Cb) (n:Nat) (acc:QTs):Nat→QTs
 | 0=>acc
 | i+1=>in2 c i (out2 c n acc i) (n - (i+1))
def afN (c:Cb) (p:Pl):QTs:=if p.mid=true then out2 c c.ps.length (mulX c.be (afS c p c.ps.length)) c.ps.length else afS c p c.ps.length
def afD (c:Cb) (p:Pl):QTs:=if p.mid=true then mulX c.be c.be else c.be
structure PlOk (p:Pl) (n:Int):Prop where
 q:0≤p.q∧p.q < n
 r:0≤p.r∧p.r < n
theorem pl_ok {q:Qt} {x n:Int} (ha:0≤q.a∧q.a < n) (hb:0≤q.b∧q.b < n) (hc:0≤q.c∧q.c < n):PlOk (plOf q x) n:=by
 unfold plOf;split
 ·split
  ·exact⟨hb,hc⟩
  ·split
   ·exact⟨hc,ha⟩
   ·exact⟨ha,hb⟩
 ·split
  ·exact⟨hb,hb⟩
  ·split
   ·exact⟨ha,hc⟩
   ·split
    ·exact⟨hb,hc⟩
    ·exact⟨hb,ha⟩
theorem Zl7 {c:Cb} {n:Int} (h:CbOk c n) {i:Nat} (hi:i < c.ps.length):XL (c.ab.getD i []) 10 2 4:=by
 rw [Zcp (show i < c.ab.length by rw [h.len];exact hi)];exact h.ab _ (ZBy _)
theorem Zh5 {c:Cb} {n:Int} (h:CbOk c n) {i:Nat} (hi:i < c.ps.length):0≤gI c.ps i∧gI c.ps i < n:=by
 rw [Zg4 hi];exact h.ps _ (ZBy _)
theorem at_xl {p:Pl} {x n:Int} (h:PlOk p n) (hx:0≤x∧x < n) (hn:n≤40):XL (p.at x) 1 1 1:=by
 have:=h.q;have:=h.r;unfold Pl.at;split
 ·exact Zd7 (Zdg (.inl rfl) zo zo zo)
 ·split
  ·exact Zd7 (Zdg (.inr rfl) zo zo zo)
  ·exact Zd7 (Zdg (.inr rfl) zo zo zo)
theorem Zqi {c:Cb} {p:Pl} {n:Int} (hc:CbOk c n) (hp:PlOk p n) (hn:n≤40):∀i,i≤c.ps.length→XL (afS c p i) (1+12*i) 3 (4*i)
 | 0,_=>XL.nil.mono zo zo zo
 | i+1,hi=>((Zqi hc hp hn i zo).add ((Zl7 hc (show i < _ by omega)).mul (at_xl hp (Zh5 hc zo) hn))).mono zo zo zo
theorem prT_xl {c:Cb} {n:Int} (hc:CbOk c n) (hn:n≤40) {i j:Nat} (hi:i < c.ps.length) (hj:j < c.ps.length):XL (prT c i j) 21 5 16:=by
 have h1:=Zh5 hc hi;have h2:=Zh5 hc hj;exact(((Zl7 hc hi).mul (Zl7 hc hj)).mul (Zd7 (Zdg (.inr rfl) zo zo zo))).mono zo zo zo
theorem Zzl {c:Cb} {n:Int} (hc:CbOk c n) (hn:n≤40) {i:Nat} {acc:QTs} {k l:Nat} (ha:XL acc k 5 l):∀d,i+d < c.ps.length→XL (in2 c i acc d) (k+22*d) 5 (l+16*d)
 | 0,_=>ha.mono zo zo zo
 | d+1,h=>((Zzl hc hn ha d zo).sub (prT_xl hc hn (show i < _ by omega) (show i+1+d < _ by omega))).mono zo zo zo
theorem Zrj {c:Cb} {n:Int} (hc:CbOk c n) (hn:n≤40) {acc:QTs} {k l:Nat} (ha:XL acc k 5 l):∀i,i≤c.ps.length→XL (out2 c c.ps.length acc i) (k+66*i) 5 (l+48*i)
 | 0,_=>ha.mono zo zo zo
 | i+1,h=>by
   have h3:=hc.few;have h1:=Zzl hc hn (Zrj hc hn ha i zo) (c.ps.length - (i+1)) (i:=i) zo;exact h1.mono zo (ZBn _) zo
theorem afM_xl {c:Cb} {p:Pl} {n:Int} (hc:CbOk c n) (hp:PlOk p n) (hn:n≤40):XL (mulX c.be (afS c p c.ps.length)) 47 5 48:=by
 have h3:=hc.few;have h1:=hc.be.mul (Zqi hc hp hn c.ps.length (ZBn _));exact h1.mono zo zo zo
theorem afN_xl {c:Cb} {p:Pl} {n:Int} (hc:CbOk c n) (hp:PlOk p n) (hn:n≤40):XL (afN c p) 245 5 192:=by
 have h3:=hc.few;unfold afN;split
 ·exact(Zrj hc hn (afM_xl hc hp hn) c.ps.length (ZBn _)).mono zo (ZBn _) zo
 ·exact(Zqi hc hp hn c.ps.length (ZBn _)).mono zo zo zo
theorem afD_xl {c:Cb} {p:Pl} {n:Int} (hc:CbOk c n):XL (afD c p) 20 4 16:=by
 unfold afD;split
 ·exact(hc.be.mul hc.be).mono zo zo zo
 ·exact hc.be.mono zo zo zo
abbrev hfX (p:QTs):QTs:=mulX (nX (1/2)) p
def tuX (s a b:Int) (p:Pl):QTs :=
 if p.k=1 then Za9 (aX s p.q p.r) (hfX (subX (pX p.r p.q b) (pX p.r p.q a)))
 else if p.mid=true then Za9 (pX p.q s p.r) (subX (pX a b a) (twX (subX (Za9 (aX a b p.q) (aX a b p.r)) (twX (aX a b s)))))
 else Za9 (pX s p.q p.r) (twX (subX (aX a b p.r) (aX a b p.q)))
def tuR (s a b:Int) (p:Pl):QTs :=
 if p.k=1 then Za9 (aX s p.q p.r) (sclT (1/2) (subX (pX p.r p.q b) (pX p.r p.q a)))
 else if p.mid=true then Za9 (subX (pX p.q s p.r) (sclT 2 (subX (Za9 (aX a b p.q) (aX a b p.r)) (sclT 2 (aX a b s))))) (pX a b a)
 else Za9 (pX s p.q p.r) (sclT 2 (subX (aX a b p.r) (aX a b p.q)))
theorem EX.sub {p q:QTs} (hp:EX p) (hq:EX q):EX (subX p q):=Zgh Zbh hp hq.neg
theorem EX.add {p q:QTs} (hp:EX p) (hq:EX q):EX (Za9 p q):=Zgh Zbh hp hq
theorem EX.scl {p:QTs} (hp:EX p) {c:Rat} (h0:c≠0):EX (sclT c p):=by
 refine⟨λt ht=>?_,List.pairwise_map.2 hp.2⟩;obtain⟨u,hu,rfl⟩:=List.mem_map.1 ht;exact⟨λh1=>(Rat.mul_eq_zero.1 h1).elim h0 (hp.1 u hu).1,(hp.1 u hu).2⟩
theorem sz_half:Sz (1/2:Rat) 1:=⟨by decide +kernel,by decide +kernel⟩
theorem tu_xl {s a b n:Int} {p:Pl} (hp:PlOk p n) (hn:n≤40) (hs:0≤s∧s < n) (ha:0≤a∧a < n) (hb:0≤b∧b < n):XL (tuX s a b p) 16 1 8:=by
 have hq:=hp.q;have hr:=hp.r;have eA:∀x y z:Int,(0≤x∧x < n)→(0≤y∧y < n)→(0≤z∧z < n)→XL (aX x y z) 1 1 1:=λx y z h1 h2 h3=>Zd7 (Zdg (.inl rfl) zo zo zo);have eP:∀x y z:Int,(0≤x∧x < n)→(0≤y∧y < n)→(0≤z∧z < n)→XL (pX x y z) 1 1 1:=λx y z h1 h2 h3=>Zd7 (Zdg (.inr rfl) zo zo zo);have c2:XL (nX 2) 2 0 1:=Zeh Zgo;have ch:XL (nX (1/2)) 2 0 1:=Zeh sz_half;unfold tuX;split
 ·exact((eA _ _ _ hs hq hr).add (ch.mul ((eP _ _ _ hr hq hb).sub (eP _ _ _ hr hq ha)))).mono zd zd zd
 ·split
  ·exact((eP _ _ _ hq hs hr).add ((eP _ _ _ ha hb ha).sub (c2.mul (((eA _ _ _ ha hb hq).add (eA _ _ _ ha hb hr)).sub (c2.mul (eA _ _ _ ha hb hs)))))).mono zd zd zd
  ·exact((eP _ _ _ hs hq hr).add (c2.mul ((eA _ _ _ ha hb hr).sub (eA _ _ _ ha hb hq)))).mono zd zd zd
section
variable {α:Type} {cmp:α→α→Int}
theorem Zy7 (o:CO cmp) (x:α):∀{l m:List α},Asc cmp l→Asc cmp m→l.length=m.length→lexL cmp l m < 0→lexL cmp (putQ cmp l x) (putQ cmp m x) < 0
 | [],[],_,_,_,h=>by exact absurd h (by simp [lexL])
 | [],_ :: _,_,_,h,_=>by simp at h
 | _ :: _,[],_,_,h,_=>by simp at h
 | a :: l,b :: m,hl,hm,hlen,h=>by
   rw [Zb6] at h;have fl:∀y z,¬cmp y z≤0→cmp z y < 0:=λy z h=>(o.flip z y).2 zo;by_cases hab:cmp a b=0
   ·rw [ZBm hab] at h;obtain rfl:=o.eqz _ _ hab;have ih:=Zy7 o x (List.pairwise_cons.1 hl).2 (List.pairwise_cons.1 hm).2 (by simpa using hlen) h;unfold putQ;by_cases hx:cmp a x≤0
    ·rw [ZBm hx,ZBm hx,Zb6,ZBm (o.refl a)];exact ih
    ·rw [ZBl hx,ZBl hx,Zb6,ZBm (o.refl x),Zb6,ZBm (o.refl a)];exact h
   ·rw [ZBl hab] at h;have hal:∀c∈l,cmp a c≤0:=(List.pairwise_cons.1 hl).1;unfold putQ;by_cases hx:cmp a x≤0
    ·rw [ZBm hx];by_cases hy:cmp b x≤0
     ·rw [ZBm hy,Zb6,ZBl hab];exact h
     ·rw [ZBl hy,Zb6];have hxb:=fl _ _ hy;by_cases hax:cmp a x=0
      ·rw [ZBm hax];obtain rfl:=o.eqz _ _ hax
       cases l with
       | nil =>
         show lexL cmp [a] (b :: m) < 0;rw [Zb6,ZBl hab];exact h
       | cons c l =>
         unfold putQ;by_cases hc:cmp c a≤0
         ·rw [ZBm hc,Zb6];have h1:=hal c (.head _)
          have h2:cmp a c=0:=by
           rcases Int.lt_or_eq_of_le h1 with h3 | h3
           ·have:=(o.flip a c).1 h3;omega
           ·exact h3
          obtain rfl:=o.eqz _ _ h2;rw [ZBl hab];exact h
         ·rw [ZBl hc,Zb6,ZBl hab];exact h
      ·rw [ZBl hax];omega
    ·rw [ZBl hx];have hxa:=fl _ _ hx;have hxb:=o.tr _ _ _ hxa h;have hb:¬cmp b x≤0:=by have:=(o.flip x b).1 hxb;omega
     rw [ZBl hb,Zb6,ZBm (o.refl x),Zb6,ZBl hab];exact h
theorem Ztb (x:α) (l:List α):(putQ cmp l x).length=l.length+1:=(Zfp x l).length_eq
theorem ord_put (o:CO cmp) (x:α) {l m:List α} (hl:Asc cmp l) (hm:Asc cmp m) (h:ordL cmp l m < 0):ordL cmp (putQ cmp l x) (putQ cmp m x) < 0:=by
 unfold ordL at *;rw [Ztb,Ztb];by_cases h1:l.length < m.length
 ·rw [ZBm zo];decide
 ·rw [ZBl h1] at h;by_cases h2:m.length < l.length
  ·rw [ZBm h2] at h;exact absurd h zd
  ·rw [ZBl h2] at h;rw [ZBl zo,ZBl zo];exact Zy7 o x hl hm zo h
end
theorem mu_put (a c:List Qt) (x:Qt):muQ a (x :: c)=putQ Qt.cmp (muQ a c) x :=
 Zfk qtO (Zb5 qtO.cp _) (Zkd qtO.cp x (Zb5 qtO.cp _)) ((Za1 _).trans ((List.perm_middle).trans (((Za1 (a++c)).symm.cons x).trans (Zfp x _).symm)))
theorem mu_nil {a:List Qt} (h:Asc Qt.cmp a):muQ a []=a:=Zfk qtO (Zb5 qtO.cp _) h (by show(srtQ Qt.cmp (a++[])).Perm a;rw [ZC6];exact Za1 _)
theorem mu_lt {a b:List Qt} (ha:Asc Qt.cmp a) (hb:Asc Qt.cmp b) (h:ordQ a b < 0):∀c,ordQ (muQ a c) (muQ b c) < 0
 | []=>by rw [mu_nil ha,mu_nil hb];exact h
 | x :: c=>by
   rw [mu_put,mu_put];exact ord_put qtO x (Zb5 qtO.cp _) (Zb5 qtO.cp _) (mu_lt ha hb h c)
theorem Zkj {κ:Type} {f:κ→Rat}:∀{l:List (Rat × κ)},(∀t∈l,f t.2=0)→evl f l=0
 | [],_=>rfl
 | t :: l,h=>by
   show t.1*f t.2+evl f l=0;rw [h t (.head _),Zkj λu hu=>h u (.tail _ hu),ZFn,ZDj]
theorem mul_ne {p q:QTs} (hp:EX p) (hq:EX q) (h1:p≠[]) (h2:q≠[]):mulX p q≠[]:=by
 cases p with
 | nil=>exact absurd rfl h1
 | cons s p =>
   cases q with
   | nil=>exact absurd rfl h2
   | cons t q =>
     have dp:=hp.dom;have dq:=hq.dom;have op:∀u∈p,ordQ s.2 u.2 < 0:=(List.pairwise_cons.1 hp.2).1;have oq:∀u∈q,ordQ t.2 u.2 < 0:=(List.pairwise_cons.1 hq.2).1;intro h0;have ne:∀{a b:List Qt},ordQ a b < 0→b≠a:=λh e=>by rw [e,Zbh.refl] at h;omega
     have k1:∀u∈q,muQ s.2 u.2≠muQ s.2 t.2:=λu hu=>by
      rw [rgQ.comm s.2,rgQ.comm s.2];exact ne (mu_lt (dq t (.head _)).1 (dq u (.tail _ hu)).1 (oq u hu) s.2)
     have k2:∀u∈p,∀v∈t :: q,muQ u.2 v.2≠muQ s.2 t.2:=λu hu v hv=>by
      have a1:=mu_lt (dp s (.head _)).1 (dp u (.tail _ hu)).1 (op u hu) v.2;rcases List.mem_cons.1 hv with rfl | hv
      ·exact ne a1
      ·have a2:=mu_lt (dq t (.head _)).1 (dq v (.tail _ hv)).1 (oq v hv) s.2;rw [rgQ.comm t.2,rgQ.comm v.2] at a2;exact ne (Zbh.tr _ _ _ a2 a1)
     have e:=Zex Zbh (λk:List Qt=>if k=muQ s.2 t.2 then (1:Rat) else 0) (s :: p) (t :: q) (mu:=muQ);have e0:mlG ordQ muQ (s :: p) (t :: q)=[]:=h0;rw [e0] at e
     have e1:evl (λk'=>if muQ s.2 k'=muQ s.2 t.2 then (1:Rat) else 0) (t :: q)=t.1:=by
      show t.1*(if muQ s.2 t.2=muQ s.2 t.2 then (1:Rat) else 0)+_=_;rw [ZBm rfl,Zkj λu hu=>ZBl (k1 u hu),ZE1,ZDj]
     have e2:evl (λk=>evl (λk'=>if muQ k k'=muQ s.2 t.2 then (1:Rat) else 0) (t :: q)) p=0:=Zkj λu hu=>Zkj λv hv=>ZBl (k2 u hu v hv);have e3:(0:Rat)=s.1*evl (λk'=>if muQ s.2 k'=muQ s.2 t.2 then (1:Rat) else 0) (t :: q)+evl (λk=>evl (λk'=>if muQ k k'=muQ s.2 t.2 then (1:Rat) else 0) (t :: q)) p:=e;rw [e1,e2,ZDj] at e3;rcases Rat.mul_eq_zero.1 e3.symm with h | h
     ·exact(hp.1 s (.head _)).1 h
     ·exact(hq.1 t (.head _)).1 h
abbrev noP (x:Int) (q:Qt):Prop:=hasQ x q=false
theorem Zpy {q:Qt} {x:Int} (h:hasQ x q=true):q.ok=true∧q.k≠3∧(x=q.a∨x=q.b∨x=q.c):=by
 unfold hasQ Qt.pts at h;split at h
 ·rename_i hk;obtain⟨y,hy,hxy⟩:=List.any_eq_true.1 h;obtain⟨n,hn,rfl⟩:=List.mem_map.1 hy;have hp:=(List.mem_filter.1 hn).2;have hxy:x=(n:Int):=by simpa using hxy
  unfold isP at hp;simp at hp;exact⟨hk.1,hk.2,zo⟩
 ·simp at h
theorem Zt5 {q:Qt} {x:Int} (hok:q.ok=true) (hk:q.k≠3) (h:x=q.a∨x=q.b∨x=q.c):hasQ x q=true:=by
 have hr:0≤x∧x < 40:=by
  unfold Qt.ok at hok;simp at hok;omega
 unfold hasQ Qt.pts;rw [ZBm ⟨hok,hk⟩];refine List.any_eq_true.2 ⟨x,List.mem_map.2 ⟨x.toNat,List.mem_filter.2 ⟨List.mem_range.2 zo,?_⟩,zo⟩,by simp⟩;unfold isP;simp;omega
theorem Zke {q:Qt} {x:Int} (hs:q.norm.2≠0) (h:hasQ x q.norm.1=true):x=q.a∨x=q.b∨x=q.c:=by
 obtain⟨_,_,h⟩:=Zpy h;obtain⟨k,a,b,c⟩:=q;unfold Qt.norm at h hs;simp only at h hs ⊢;split at h
 ·rename_i hk;rw [ZBm hk] at hs;split at h
  ·rename_i h1;rw [ZBm h1] at hs;unfold Zfh at h hs;split at h
   ·rename_i h2;rw [ZBm h2] at hs;exact absurd rfl hs
   ·(repeat' split at h)<;>simp only at h<;>omega
  ·rename_i h1;rw [ZBl h1] at hs;split at h
   ·rename_i h3;rw [ZBm h3] at hs;unfold Zgz at h hs;split at h
    ·rename_i h2;rw [ZBm h2] at hs;exact absurd rfl hs
    ·(repeat' split at h)<;>simp only at h<;>omega
   ·exact h
 ·rename_i hk;rw [ZBl hk] at hs;exact absurd rfl hs
theorem of_no {q:Qt} {x:Int} (h:q.k=3∨(x≠q.a∧x≠q.b∧x≠q.c)):alQ (noP x) (ofX q):=by
 unfold ofX;split
 ·exact λt ht=>by cases ht
 ·rename_i hs;intro t ht r hr;rw [List.mem_singleton.1 ht] at hr;rw [List.mem_singleton.1 hr]
  cases hh:hasQ x q.norm.1 with
  | false=>exact hh
  | true =>
    exfalso;rcases h with h3 | ⟨h1,h2,h3⟩
    ·obtain⟨h4,h5,_⟩:=Zpy hh;obtain⟨k,a,b,c⟩:=q;simp only at h3;subst h3;unfold Qt.norm at h5 hs;split at h5
     ·exact h5 rfl
     ·rename_i hk;rw [ZBl hk] at hs;exact hs rfl
    ·rcases Zke hs hh with h4 | h4 | h4
     ·exact h1 h4
     ·exact h2 h4
     ·exact h3 h4
theorem a_no {x a b c:Int} (h1:x≠a) (h2:x≠b) (h3:x≠c):alQ (noP x) (aX a b c):=of_no (.inr ⟨h1,h2,h3⟩)
theorem p_no {x a b c:Int} (h1:x≠a) (h2:x≠b) (h3:x≠c):alQ (noP x) (pX a b c):=of_no (.inr ⟨h1,h2,h3⟩)
theorem alQ.sub {C:Qt→Prop} {p q:QTs} (hp:alQ C p) (hq:alQ C q):alQ C (subX p q):=hp.join (hq.scl _)
theorem alQ.emp {C:Qt→Prop}:alQ C []:=λt ht=>by cases ht
theorem cb_no {k t:Int} {a:List Int} {r:Rat} {x:Int} {c:Cb} (h:cbOf k a r t=some c) (ha:∀i,i < a.length→x≠gI a i) (h0:x≠0∨4≤a.length)
 (hl:(k=3→a.length=3)∧(k=11→a.length=3)∧(k=2∨k=5→2≤a.length)∧(k=7∨k=8∨k=10→3≤a.length)∧(k=9→4≤a.length)) :
 (∀w∈c.ab,alQ (noP x) w)∧alQ (noP x) c.be∧∀y∈c.ps,x≠y:=by
 obtain⟨l3,l11,l2,l7,l9⟩:=hl;have hmem:∀y∈a,x≠y:=λy hy=>by
  obtain⟨i,hi,rfl⟩:=List.getElem_of_mem hy;have:=ha i hi
  rwa [Zg4 hi] at this
 have nn:∀u:Rat,alQ (noP x) (nX u):=λu=>Zlr u
 have pr:∀{y z:Int} {p b:QTs},alQ (noP x) p→alQ (noP x) b→x≠y→x≠z→(∀w∈(prC y z p b).ab,alQ (noP x) w)∧alQ (noP x) (prC y z p b).be∧∀y'∈(prC y z p b).ps,x≠y':=by
  intro y z p b hp hb hy hz;refine⟨λw hw=>?_,hb,λv hv=>?_⟩
  ·rcases List.mem_cons.1 hw with rfl | hw
   ·exact hb.sub hp
   ·rw [List.mem_singleton.1 hw];exact hp
  ·rcases List.mem_cons.1 hv with rfl | hv
   ·exact hy
   ·rw [List.mem_singleton.1 hv];exact hz
 have tri:∀{u v z:QTs} {w:QTs},alQ (noP x) u→alQ (noP x) v→alQ (noP x) z→w∈[u,v,z]→alQ (noP x) w:=by
  intro u v z w hx hy hz hw;rcases List.mem_cons.1 hw with rfl | hw
  ·exact hx
  ·rcases List.mem_cons.1 hw with rfl | hw
   ·exact hy
   ·rw [List.mem_singleton.1 hw];exact hz
 unfold cbOf at h;split at h
 ·rename_i hk;cases h;have:=l2 (.inl hk);exact pr (nn _) (nn _) (ha 0 zo) (ha 1 zo)
 split at h
 ·rename_i hk;cases h;exact⟨λw hw=>tri (nn 1) (nn (-1)) (nn 1) hw,nn 1,hmem⟩
 split at h
 ·rename_i hk;cases h;have:=l2 (.inr hk);exact pr (of_no (.inl rfl)) (nn _) (ha 0 zo) (ha 1 zo)
 split at h
 ·rename_i hk;cases h;have:=l9 hk;have p1:=a_no (ha 0 zo) (ha 2 zo) (ha 3 zo);have p2:=a_no (ha 1 zo) (ha 2 zo) (ha 3 zo);exact pr p1 (p1.sub p2) (ha 0 zo) (ha 1 zo)
 split at h
 ·rename_i hk;cases h;have:=l7 (.inl hk);exact pr (p_no (ha 0 zo) (ha 1 zo) (ha 2 zo)) (p_no (ha 2 zo) (ha 1 zo) (ha 2 zo)) (ha 1 zo) (ha 2 zo)
 split at h
 ·rename_i hk;cases h;have:=l7 (.inr (.inl hk));have p1:=p_no (ha 0 zo) (ha 1 zo) (ha 2 zo);have p2:=p_no (ha 2 zo) (ha 1 zo) (ha 2 zo);refine⟨λw hw=>tri ((nn _).mul (p2.sub p1)) ((nn _).mul p1) (alQ.emp.sub p2) hw,p2,λy hy=>?_⟩;rcases List.mem_cons.1 hy with rfl | hy
  ·exact ha 1 zo
  ·rcases List.mem_cons.1 hy with rfl | hy
   ·exact ha 2 zo
   ·rw [List.mem_singleton.1 hy];exact ha 0 zo
 split at h
 ·rename_i hk;cases h;have:=l7 (.inr (.inr hk));exact pr ((nn _).mul (p_no (ha 2 zo) (ha 0 zo) (ha 1 zo))) (p_no (ha 1 zo) (ha 0 zo) (ha 1 zo)) (ha 0 zo) (ha 1 zo)
 split at h
 ·rename_i hk;cases h;have:=l11 hk;have g0:=ha 0 zo;have g1:=ha 1 zo;have g2:=ha 2 zo;have w1:=(p_no g1 g2 g1).mul (p_no g1 g0 g2);have w2:=(p_no g2 g0 g2).mul (p_no g2 g1 g0);have w3:=(p_no g0 g1 g0).mul (p_no g0 g2 g1);exact⟨λw hw=>tri w1 w2 w3 hw,(w1.join w2).join w3,hmem⟩
 ·cases h
theorem pl_no {n:Qt} {x:Int} (hn:n.norm=(n,1)) (hx:hasQ x n=true):x≠(plOf n x).q∧x≠(plOf n x).r∧(plOf n x).k=n.k:=by
 obtain⟨_,hk,hx⟩:=Zpy hx;have hok:=Zro hn;obtain⟨k,a,b,c⟩:=n;simp only at hk hx
 have h1:k=1∨k=2:=by
  unfold Qt.ok at hok;simp at hok;omega
 unfold Qt.norm at hn;rw [ZBm hok] at hn;simp only at hn;unfold plOf;simp only;rcases h1 with rfl | rfl
 ·rw [ZBm rfl] at hn
  have h3:a≠b∧b≠c∧a≠c:=by
   unfold Zfh at hn;split at hn
   ·simp [Qt.zero] at hn
   ·omega
  rw [ZBm rfl];split
  ·exact⟨by show x≠b;omega,by show x≠c;omega,rfl⟩
  ·split
   ·exact⟨by show x≠c;omega,by show x≠a;omega,rfl⟩
   ·exact⟨by show x≠a;omega,by show x≠b;omega,rfl⟩
 ·rw [ZBl zd,ZBm rfl] at hn
  have h3:a≠b∧b≠c:=by
   unfold Zgz at hn;split at hn
   ·simp [Qt.zero] at hn
   ·omega
  rw [ZBl zd];split
  ·exact⟨by show x≠b;omega,by show x≠b;omega,rfl⟩
  ·split
   ·exact⟨by show x≠a;omega,by show x≠c;omega,rfl⟩
   ·split
    ·exact⟨by show x≠b;omega,by show x≠c;omega,rfl⟩
    ·exact⟨by show x≠b;omega,by show x≠a;omega,rfl⟩
theorem at_no {p:Pl} {x y:Int} (h1:x≠p.q) (h2:x≠p.r) (h3:x≠y):alQ (noP x) (p.at y):=by
 unfold Pl.at;split
 ·exact a_no h3 h1 h2
 ·split
  ·exact p_no h1 h3 h2
  ·exact p_no h3 h1 h2
section
variable {c:Cb} {p:Pl} {x:Int}
theorem ab_no (ha:∀w∈c.ab,alQ (noP x) w) (i:Nat):alQ (noP x) (c.ab.getD i []):=by
 by_cases h:i < c.ab.length
 ·rw [Zcp h];exact ha _ (ZBy h)
 ·rw [ZB6,ZDa zo];exact alQ.emp
theorem ZA8 (ha:∀w∈c.ab,alQ (noP x) w) (hp:∀y∈c.ps,x≠y) (h1:x≠p.q) (h2:x≠p.r):∀i,i≤c.ps.length→alQ (noP x) (afS c p i)
 | 0,_=>alQ.emp
 | i+1,hi=>(ZA8 ha hp h1 h2 i zo).join ((ab_no ha i).mul (at_no h1 h2 (by rw [Zg4 (show i < c.ps.length by omega)];exact hp _ (ZBy _))))
theorem prT_no (ha:∀w∈c.ab,alQ (noP x) w) (hp:∀y∈c.ps,x≠y) {i j:Nat} (hi:i < c.ps.length) (hj:j < c.ps.length):alQ (noP x) (prT c i j):=by
 have g:∀{i:Nat},i < c.ps.length→x≠gI c.ps i:=λh=>by rw [Zg4 h];exact hp _ (ZBy _)
 exact((ab_no ha i).mul (ab_no ha j)).mul (p_no (g hi) (g hj) (g hi))
theorem in2_no (ha:∀w∈c.ab,alQ (noP x) w) (hp:∀y∈c.ps,x≠y) {i:Nat} {acc:QTs} (hc:alQ (noP x) acc):∀d,i+d < c.ps.length→alQ (noP x) (in2 c i acc d)
 | 0,_=>hc
 | d+1,h=>(in2_no ha hp hc d zo).sub (prT_no ha hp zo zo)
theorem Zyf (ha:∀w∈c.ab,alQ (noP x) w) (hp:∀y∈c.ps,x≠y) {acc:QTs} (hc:alQ (noP x) acc):∀i,i≤c.ps.length→alQ (noP x) (out2 c c.ps.length acc i)
 | 0,_=>hc
 | i+1,h=>in2_no ha hp (Zyf ha hp hc i zo) _ zo
theorem afN_no (ha:∀w∈c.ab,alQ (noP x) w) (hb:alQ (noP x) c.be) (hp:∀y∈c.ps,x≠y) (h1:x≠p.q) (h2:x≠p.r):alQ (noP x) (afN c p):=by
 unfold afN;split
 ·exact Zyf ha hp (hb.mul (ZA8 ha hp h1 h2 _ (ZBn _))) _ (ZBn _)
 ·exact ZA8 ha hp h1 h2 _ (ZBn _)
theorem afD_no (hb:alQ (noP x) c.be):alQ (noP x) (afD c p):=by
 unfold afD;split
 ·exact hb.mul hb
 ·exact hb
theorem afD_ne (he:EX c.be) (h0:c.be≠[]):afD c p≠[]:=by
 unfold afD;split
 ·exact mul_ne he he h0 h0
 ·exact h0
theorem tu_no {s a b:Int} (h1:x≠p.q) (h2:x≠p.r) (hs:x≠s) (ha:x≠a) (hb:x≠b):alQ (noP x) (tuX s a b p):=by
 have nn:∀u:Rat,alQ (noP x) (nX u):=λu=>Zlr u;unfold tuX;split
 ·exact(a_no hs h1 h2).join ((nn _).mul ((p_no h2 h1 hb).sub (p_no h2 h1 ha)))
 ·split
  ·exact(p_no h1 hs h2).join ((p_no ha hb ha).sub ((nn _).mul (((a_no ha hb h1).join (a_no ha hb h2)).sub ((nn _).mul (a_no ha hb hs)))))
  ·exact(p_no hs h1 h2).join ((nn _).mul ((a_no ha hb h2).sub (a_no ha hb h1)))
end
theorem Zf5 {α:Type} {P:List α→Prop} (h0:P []) (h1:∀l a,P l→P (l++[a])):∀l,P l:=λl=>by
 have h:∀l:List α,P l.reverse:=λl=>by
  induction l with
  | nil=>exact h0
  | cons a l ih=>rw [List.reverse_cons];exact h1 _ _ ih
 have g:=h l.reverse
 rwa [List.reverse_reverse] at g
theorem Zqq {q:Qt} {l:List Qt}:tmQ q l=0↔q ∉ l:=by
 unfold tmQ;rw [List.length_eq_zero_iff,List.filter_eq_nil_iff];constructor
 ·intro h hq;exact h q hq zs
 ·intro h x hx hd;have:x=q:=by simpa using hd
  exact h (this ▸ hx)
def hvS (x:Int) (s:List Qt × List Qt) (q:Qt):List Qt × List Qt:=(s.1++[q],if tmQ q s.1=0∧hasQ x q=true then s.2++[q] else s.2)
def hvP (x:Int) (l:List Qt):List Qt:=(l.foldl (hvS x) ([],[])).2
def hvR (x:Int) (o:List Qt) (q:Qt):List Qt:=if hasQ x q=true∧tmQ q o=0 then putQ Qt.cmp o q else o
def hvL (x:Int) (l:List Qt):List Qt:=l.foldl (hvR x) []
theorem Zzn (x:Int):∀(l:List Qt) (s:List Qt × List Qt),(l.foldl (hvS x) s).1=s.1++l
 | [],s=>(ZC6 _).symm
 | q :: l,s=>by rw [ZGe,Zzn x l];show(s.1++[q])++l=_;rw [ZC4];rfl
theorem Zi0 (x:Int) (l:List Qt) (q:Qt):hvP x (l++[q])=if tmQ q l=0∧hasQ x q=true then hvP x l++[q] else hvP x l:=by
 unfold hvP;rw [ZFy];show(hvS x (l.foldl (hvS x) ([],[])) q).2=_;unfold hvS;simp only;have h:=Zzn x l ([],[]);rw [ZF0] at h;unfold hvS at h;rw [h]
theorem Zt4 (x:Int) (l:List Qt) (q:Qt):hvL x (l++[q])=hvR x (hvL x l) q:=by
 unfold hvL;rw [ZFy];rfl
theorem Zy3 {x:Int} {q:Qt}:∀l,q∈hvP x l↔q∈l∧hasQ x q=true:=by
 refine Zf5 ?_ λl a ih=>?_
 ·show q∈([]:List Qt)↔_;simp
 ·rw [Zi0,ZEu,ZE7];split
  ·rename_i h;rw [ZEu,ZE7,ih];constructor
   ·rintro (⟨h1,h2⟩ | h1)
    ·exact⟨.inl h1,h2⟩
    ·exact⟨.inr h1,h1 ▸ h.2⟩
   ·rintro ⟨h1 | h1,h2⟩
    ·exact .inl ⟨h1,h2⟩
    ·exact .inr h1
  ·rename_i h;rw [ih];constructor
   ·rintro ⟨h1,h2⟩;exact⟨.inl h1,h2⟩
   ·rintro ⟨h1 | h1,h2⟩
    ·exact⟨h1,h2⟩
    ·subst h1;refine⟨Classical.byContradiction λh3=>h ⟨Zqq.2 h3,h2⟩,h2⟩
theorem Zr4 {x:Int}:∀l,(hvP x l).Perm (hvL x l):=by
 refine Zf5 (List.Perm.refl _) λl a ih=>?_;rw [Zi0,Zt4];unfold hvR
 have e:tmQ a l=0∧hasQ x a=true↔hasQ x a=true∧tmQ a (hvL x l)=0:=by
  rw [Zqq,Zqq,←ih.mem_iff,Zy3];constructor
  ·rintro ⟨h1,h2⟩;exact⟨h2,λh=>h1 h.1⟩
  ·rintro ⟨h1,h2⟩;exact⟨λh=>h2 ⟨h,h1⟩,h1⟩
 by_cases h:tmQ a l=0∧hasQ x a=true
 ·rw [ZBm h,ZBm (e.1 h)];exact((ih.append_right _).trans List.perm_append_comm).trans (Zfp a _).symm
 ·rw [ZBl h,ZBl λg=>h (e.2 g)];exact ih
theorem hvL_asc {x:Int}:∀l,Asc Qt.cmp (hvL x l):=by
 refine Zf5 List.Pairwise.nil λl a ih=>?_;rw [Zt4];unfold hvR;split
 ·exact Zkd qtO.cp a ih
 ·exact ih
theorem hv_eq (x:Int) (l:List Qt):srtQ Qt.cmp (hvP x l)=hvL x l:=Zfk qtO (Zb5 qtO.cp _) (hvL_asc l) ((Za1 _).trans (Zr4 l))
theorem Zrx {x:Int} {q:Qt} {l:List Qt}:q∈hvL x l↔q∈l∧hasQ x q=true:=by rw [←(Zr4 l).mem_iff,Zy3]
theorem Zr5 (x:Int):∀l,(hvP x l).length≤l.length:=by
 refine Zf5 (ZBn _) λl a ih=>?_;rw [Zi0,ZCg];split
 ·rw [ZCg];exact Nat.add_le_add_right ih _
 ·omega
theorem Zzo (x:Int) (l:List Qt):(hvL x l).length≤l.length:=by rw [←(Zr4 l).length_eq];exact Zr5 x l
def flQ (p:QTs):List Qt:=p.flatMap λt=>t.2
theorem Zno {p:QTs} {q:Qt}:q∈flQ p↔∃t∈p,q∈t.2:=List.mem_flatMap
def rsX (p q:QTs):Nat→QTs
 | 0=>p
 | n+1=>mulX (rsX p q n) q
theorem rs_pw {p q:QTs} (hp:EX p) (hq:EX q):∀n,rsX p q n=mulX p (pwX q n)
 | 0=>(Zyz rgQ hp).symm
 | n+1=>by
   show mulX (rsX p q n) q=mulX p (mulX (pwX q n) q);rw [rs_pw hp hq n];exact Zir rgQ hp (Zh4 rgQ hq n) hq
abbrev XX:=QTs × QTs
def elS (q:Qt) (b x:XX):XX:=(mulX (rpN q x.1 b.1 b.2) (pwX b.2 (moQ q x.2 - moQ q x.1)),mulX (rpN q x.2 b.1 b.2) (pwX b.2 (moQ q x.1 - moQ q x.2)))
def elF (lem:Qt→Int × XX):List Qt→XX→Int × XX
 | [],x=>(0,x)
 | q :: l,x =>
   if (lem q).1≠0 then ((lem q).1,([],[]))
   else if 4000 < (elS q (lem q).2 x).1.length∨4000 < (elS q (lem q).2 x).2.length then (4,([],[]))
   else elF lem l (elS q (lem q).2 x)
def elT (r:Int × XX):Int × XX :=
 if r.1≠0 then (r.1,([],[]))
 else if r.2.2=[] then (3,([],[]))
 else if r.2.1=[] then (0,([],[((1:Rat),[])]))
 else (0,r.2)
def cntX (x:Int) (c:Nat) (p:QTs):Prop:=∀t∈p,(t.2.filter λq=>hasQ x q).length≤c
section
variable {x:Int} {c d:Nat} {p q:QTs}
theorem cntX.mono (h:cntX x c p) (hc:c≤d):cntX x d p:=λt ht=>ZBs (h t ht) hc
theorem cntX.join (hp:cntX x c p) (hq:cntX x c q):cntX x c (Za9 p q):=λt ht=>by
 obtain⟨s,hs,e⟩:=Zis ht;rw [e];rcases List.mem_append.1 hs with h | h
 ·exact hp s h
 ·exact hq s h
theorem cntX.gat {l:QTs} (h:cntX x c l):cntX x c (gatM l):=by
 rw [←Zrs];intro t ht;exact Zjm (P:=λy=>(y.filter λq=>hasQ x q).length≤c) l [] (λt ht=>by cases ht) h t (List.mem_filter.1 ((Za1 _).mem_iff.1 ht)).1
theorem cntX.mul (hp:cntX x c p) (hq:cntX x d q):cntX x (c+d) (mulX p q):=cntX.gat λu hu=>by
 obtain⟨s,hs,t,ht,rfl⟩:=Zfq hu;show((muQ s.2 t.2).filter _).length≤_;rw [((Za1 (cmp:=Qt.cmp) (s.2++t.2)).filter _).length_eq,ZEn,ZCg];exact ZCx (hp s hs) (hq t ht)
theorem cntX.part {a:QTs} (h:cntX x c a) (q:Qt) (k:Nat):cntX x c (paQ q a k):=cntX.gat λu hu=>by
 obtain⟨t,ht,rfl⟩:=Zjx hu;refine ZBs ?_ (h t ht);show((woQ q t.2).filter _).length≤_;exact((List.filter_sublist (p:=λx=>decide (x≠q)) (l:=t.2)).filter _).length_le
theorem Zuk (h:alQ (noP x) p):cntX x 0 p:=λt ht=>by
 rw [List.filter_eq_nil_iff.2 λq hq=>by rw [h t ht q hq];decide];exact ZBn _
theorem cntX.rf {P:Nat→QTs} {a d:QTs} (hP:∀k,cntX x c (P k)) (ha:alQ (noP x) a) (hd:alQ (noP x) d) (m:Nat):∀i,cntX x c (rfX P a d m i)
 | 0=>λt ht=>by cases ht
 | i+1=>(cntX.rf hP ha hd m i).join (((hP i).mul (Zuk (ha.pw i))).mul (Zuk (hd.pw (m - i))))
theorem tm_cnt {q:Qt} (hq:hasQ x q=true) (l:List Qt):tmQ q l≤(l.filter λq=>hasQ x q).length:=by
 unfold tmQ
 induction l with
 | nil=>exact ZBn _
 | cons a l ih =>
   by_cases h:a=q
   ·subst h;rw [ZE4 zs,ZE4 (by simpa using hq),ZB5,ZB5];omega
   ·rw [ZE3 (by simpa using h),ZE0];split
    ·rw [ZB5];omega
    ·exact ih
theorem mo_cnt {q:Qt} (hq:hasQ x q=true) {a:QTs} (h:cntX x c a):moQ q a≤c:=by
 have key:∀(a:QTs) (n:Nat),n≤c→(∀t∈a,tmQ q t.2≤c)→a.foldl (λn t=>max n (tmQ q t.2)) n≤c:=by
  intro a
  induction a with
  | nil=>intro n hn _;exact hn
  | cons t a ih=>intro n hn h;exact ih _ (Nat.max_le.2 ⟨hn,h t (.head _)⟩) λu hu=>h u (.tail _ hu)
 exact key a 0 (ZBw _) λt ht=>ZBs (tm_cnt hq t.2) (h t ht)
end
theorem Zya {C:Qt→Prop} {a:QTs} (h:alQ C a) (q:Qt) (k:Nat):alQ (λu=>C u∧u≠q) (paQ q a k):=alQ.gat λu hu x hx=>by
 obtain⟨t,ht,rfl⟩:=Zjx hu;have g:=List.mem_filter.1 hx;exact⟨h t ht x g.1,by simpa using g.2⟩
theorem alQ.imp {C D:Qt→Prop} {p:QTs} (h:alQ C p) (g:∀q,C q→D q):alQ D p:=λt ht q hq=>g q (h t ht q hq)
theorem el_al {C:Qt→Prop} {x:Int} {q:Qt} {b y:XX} (h1:alQ C y.1) (h2:alQ C y.2) (hb:alQ (noP x) b.1) (hd:alQ (noP x) b.2) :
 alQ (λu=>C u∧u≠q∨noP x u) (elS q b y).1∧alQ (λu=>C u∧u≠q∨noP x u) (elS q b y).2:=by
 have g1:=hb.imp (D:=λu=>C u∧u≠q∨noP x u) λu h=>.inr h;have g2:=hd.imp (D:=λu=>C u∧u≠q∨noP x u) λu h=>.inr h;exact⟨(alQ.rf (λk=>(Zya h1 q k).imp λu h=>.inl h) g1 g2 _ _).mul (g2.pw _),(alQ.rf (λk=>(Zya h2 q k).imp λu h=>.inl h) g1 g2 _ _).mul (g2.pw _)⟩
theorem el_cnt {c:Nat} {x:Int} {q:Qt} {b y:XX} (h1:cntX x c y.1) (h2:cntX x c y.2) (hb:alQ (noP x) b.1) (hd:alQ (noP x) b.2):cntX x c (elS q b y).1∧cntX x c (elS q b y).2 :=
 ⟨(cntX.rf (λk=>h1.part q k) hb hd _ _).mul (Zuk (hd.pw _)),(cntX.rf (λk=>h2.part q k) hb hd _ _).mul (Zuk (hd.pw _))⟩
theorem el_xb {x:Int} {q:Qt} {b y:XX} {k n kb nb:Nat} (h1:XB y.1 k n) (h2:XB y.2 k n) (hb:XB b.1 kb nb) (hd:XB b.2 kb nb) (m1:moQ q y.1≤2) (m2:moQ q y.2≤2) :
 XB (elS q b y).1 (k+2+6*kb) (n+4*nb)∧XB (elS q b y).2 (k+2+6*kb) (n+4*nb):=by
 have key:∀{p:QTs} {i:Nat},XB p k n→moQ q p≤2→i≤2→XB (mulX (rpN q p b.1 b.2) (pwX b.2 i)) (k+2+6*kb) (n+4*nb):=by
  intro p i hp hm hi;have g:=(rf_xb hp hb hd q (moQ q p) (moQ q p+1) zo (ZBn _)).mul (hd.pw i);have e1:moQ q p*(2*kb)≤2*(2*kb):=ZB4 _ hm;have e2:moQ q p*nb≤2*nb:=ZB4 _ hm;have e3:i*kb≤2*kb:=ZB4 _ hi;have e4:i*nb≤2*nb:=ZB4 _ hi;exact g.mono zo zo
 exact⟨key h1 m1 zo,key h2 m2 zo⟩
theorem Zjb (q:Qt):(ofX q).length≤1:=by unfold ofX;split<;>simp
theorem Zec (p q:QTs):(subX p q).length≤p.length+q.length:=ZBs (Zen _ _) (by rw [Zcy];exact ZBn _)
theorem Zmm {p q:QTs} {i j:Nat} (hp:p.length≤i) (hq:q.length≤j):(mulX p q).length≤i*j:=ZBs (Zdz p q) (ZCw hp hq)
theorem Zsv {p:QTs} {i:Nat} (h:p.length≤i):(twX p).length≤i:=by have:=Zmm (Zi4 2) h;rwa [ZDn] at this
theorem at_len (p:Pl) (x:Int):(p.at x).length≤1:=by
 unfold Pl.at;split
 ·exact Zjb _
 ·split<;>exact Zjb _
def CbL (c:Cb):Prop :=
 c.be.length≤3∧((∃u v,c.ab=[u,v]∧c.ps.length=2∧u.length+v.length≤4∧c.be.length*(u.length+v.length)+u.length*v.length≤12) ∨
  (∃u v w,c.ab=[u,v,w]∧c.ps.length=3∧u.length+v.length+w.length≤4∧c.be.length*(u.length+v.length+w.length)+u.length*v.length+u.length*w.length+v.length*w.length≤12))
theorem cl2 {ps:List Int} {u v b:QTs} {i j m:Nat} (hp:ps.length=2) (hu:u.length≤i) (hv:v.length≤j) (hb:b.length≤m) (h1:m≤3) (h2:i+j≤4) (h3:m*(i+j)+i*j≤12):CbL ⟨ps,[u,v],b⟩:=by
 refine⟨ZBs hb h1,.inl ⟨u,v,rfl,hp,zo,?_⟩⟩;exact ZBs (ZCx (ZCw hb (ZCx hu hv)) (ZCw hu hv)) h3
theorem cl3 {ps:List Int} {u v w b:QTs} {i j k m:Nat} (hp:ps.length=3) (hu:u.length≤i) (hv:v.length≤j) (hw:w.length≤k) (hb:b.length≤m) (h1:m≤3) (h2:i+j+k≤4) (h3:m*(i+j+k)+i*j+i*k+j*k≤12):CbL ⟨ps,[u,v,w],b⟩:=by
 refine⟨ZBs hb h1,.inr ⟨u,v,w,rfl,hp,zo,?_⟩⟩;exact ZBs (ZCx (ZCx (ZCx (ZCw hb (ZCx (ZCx hu hv) hw)) (ZCw hu hv)) (ZCw hu hw)) (ZCw hv hw)) h3
theorem cb_len {k t:Int} {a:List Int} {r:Rat} {c:Cb} (h:cbOf k a r t=some c) (h3:k=3∨k=11→a.length=3):CbL c:=by
 have o:=Zjb;have n1:∀u,(nX u).length≤1:=λu=>Zi4 u;have ct:∀p q r,(ctW p q r).length≤1:=λp q r=>Zmm (o _) (o _);unfold cbOf at h;split at h
 ·cases h;exact cl2 (i:=2) (j:=1) (m:=1) rfl (ZBs (Zec _ _) (ZCx (n1 _) (n1 _))) (n1 _) (n1 _) zd zd zd
 split at h
 ·rename_i hk;cases h;exact cl3 (i:=1) (j:=1) (k:=1) (m:=1) (h3 (.inl hk)) (n1 _) (n1 _) (n1 _) (n1 _) zd zd zd
 split at h
 ·cases h;exact cl2 (i:=2) (j:=1) (m:=1) rfl (ZBs (Zec _ _) (ZCx (n1 _) (o _))) (o _) (n1 _) zd zd zd
 split at h
 ·cases h;have hs:=ZBs (Zec (aX (gI a 0) (gI a 2) (gI a 3)) (aX (gI a 1) (gI a 2) (gI a 3))) (ZCx (o _) (o _));exact cl2 (i:=3) (j:=1) (m:=2) rfl (ZBs (Zec _ _) (ZCx hs (o _))) (o _) hs zd zd zd
 split at h
 ·cases h;exact cl2 (i:=2) (j:=1) (m:=1) rfl (ZBs (Zec _ _) (ZCx (o _) (o _))) (o _) (o _) zd zd zd
 split at h
 ·cases h;exact cl3 (i:=2) (j:=1) (k:=1) (m:=1) rfl (Zsv (ZBs (Zec _ _) (ZCx (o _) (o _)))) (Zsv (o _)) (ZBs (Zec _ _) (ZCx (ZBn 0) (o _))) (o _) zd zd zd
 split at h
 ·cases h;exact cl2 (i:=2) (j:=1) (m:=1) rfl (ZBs (Zec _ _) (ZCx (o _) (Zsv (o _)))) (Zsv (o _)) (o _) zd zd zd
 split at h
 ·rename_i hk;cases h;exact cl3 (i:=1) (j:=1) (k:=1) (m:=3) (h3 (.inr hk)) (ct _ _ _) (ct _ _ _) (ct _ _ _) (ZBs (Zen _ _) (ZCx (ZBs (Zen _ _) (ZCx (ct _ _ _) (ct _ _ _))) (ct _ _ _))) zd zd zd
 ·cases h
theorem Zfl (c:Cb) (p:Pl) (i:Nat):(afS c p (i+1)).length≤(afS c p i).length+(c.ab.getD i []).length :=
 ZBs (Zen _ _) (Nat.add_le_add_left (by have:=Zmm (ZBn (c.ab.getD i []).length) (at_len p (gI c.ps i));rwa [ZD8] at this) _)
theorem Zni (c:Cb) (i j:Nat):(prT c i j).length≤(c.ab.getD i []).length*(c.ab.getD j []).length:=by
 have:=Zmm (Zdz (c.ab.getD i []) (c.ab.getD j [])) (Zjb ⟨2,gI c.ps i,gI c.ps j,gI c.ps i⟩)
 rwa [ZD8] at this
theorem af_len {c:Cb} (p:Pl) (h:CbL c):(afN c p).length≤12∧(afD c p).length≤9:=by
 obtain⟨hb,h⟩:=h;refine⟨?_,?_⟩
 ·rcases h with⟨u,v,e,hp,h1,h2⟩ | ⟨u,v,w,e,hp,h1,h2⟩
  ·have s1:=Zfl c p 0;have s2:=Zfl c p 1;rw [e] at s1 s2;have s0:(afS c p 0).length=0:=rfl;have s1:(afS c p 1).length≤(afS c p 0).length+u.length:=s1;have s2:(afS c p 2).length≤(afS c p 1).length+v.length:=s2;unfold afN;rw [hp];split
   ·have t1:=Zni c 0 1;rw [e] at t1;have t1:(prT c 0 1).length≤u.length*v.length:=t1;have m1:(mulX c.be (afS c p 2)).length≤c.be.length*(u.length+v.length):=ZBs (Zdz _ _) (ZDr _ zo);have g:=Zec (mulX c.be (afS c p 2)) (prT c 0 1);show(subX (mulX c.be (afS c p 2)) (prT c 0 1)).length≤12;omega
   ·omega
  ·have s1:=Zfl c p 0;have s2:=Zfl c p 1;have s3:=Zfl c p 2;rw [e] at s1 s2 s3;have s0:(afS c p 0).length=0:=rfl;have s1:(afS c p 1).length≤(afS c p 0).length+u.length:=s1;have s2:(afS c p 2).length≤(afS c p 1).length+v.length:=s2;have s3:(afS c p 3).length≤(afS c p 2).length+w.length:=s3;unfold afN;rw [hp];split
   ·have t1:=Zni c 0 1;have t2:=Zni c 0 2;have t3:=Zni c 1 2;rw [e] at t1 t2 t3;have t1:(prT c 0 1).length≤u.length*v.length:=t1;have t2:(prT c 0 2).length≤u.length*w.length:=t2;have t3:(prT c 1 2).length≤v.length*w.length:=t3;have m1:(mulX c.be (afS c p 3)).length≤c.be.length*(u.length+v.length+w.length):=ZBs (Zdz _ _) (ZDr _ zo);have g1:=Zec (mulX c.be (afS c p 3)) (prT c 0 1);have g2:=Zec (subX (mulX c.be (afS c p 3)) (prT c 0 1)) (prT c 0 2);have g3:=Zec (subX (subX (mulX c.be (afS c p 3)) (prT c 0 1)) (prT c 0 2)) (prT c 1 2);show(subX (subX (subX (mulX c.be (afS c p 3)) (prT c 0 1)) (prT c 0 2)) (prT c 1 2)).length≤12
    omega
   ·omega
 ·unfold afD;split
  ·exact ZBs (Zmm hb hb) zd
  ·omega
def lmX (k:Int) (a:List Int) (r:Rat) (t x:Int) (q:Qt):Int × XX :=
 if q.norm.2=0∨hasQ x q.norm.1=false then (0,(ofX q,[((1:Rat),[])]))
 else if k=4 then (0,(sclT (q.norm.2:Rat) (tuX (gI a 0) (gI a 1) (gI a 2) (plOf q.norm.1 x)),[((1:Rat),[])]))
 else match cbOf k a r t with
  | none=>(8,([],[]))
  | some c=>if c.be=[] then (3,([],[])) else (0,(sclT (q.norm.2:Rat) (afN c (plOf q.norm.1 x)),afD c (plOf q.norm.1 x)))
structure LmOk (x:Int) (b:XX):Prop where
 xn:XB b.1 245 5
 xd:XB b.2 245 5
 ln:b.1.length≤12
 ld:b.2.length≤12
 nn:alQ (noP x) b.1
 nd:alQ (noP x) b.2
 ne:b.2≠[]
structure StA (k t x n:Int) (a:List Int) (r:Rat):Prop where
 n40:n≤40
 sz:Sz r 2
 rg:∀i,i < a.length→0≤gI a i∧gI a i < n
 lt:∀i,i < a.length→gI a i < x
 tr:0≤t∧t < 64
 l:(k=3→a.length=3)∧(k=11→a.length=3)∧(k=2∨k=5→2≤a.length)∧(k=7∨k=8∨k=10→3≤a.length)∧(k=9→4≤a.length)
 l4:k=4→a.length=3
theorem Ztl {q:Qt} {n:Int} (hs:q.norm.2≠0) (h:0≤q.norm.1.a∧q.norm.1.a < n∧0≤q.norm.1.b∧q.norm.1.b < n∧0≤q.norm.1.c∧q.norm.1.c < n) (x:Int):PlOk (plOf q.norm.1 x) n:=pl_ok ⟨h.1,h.2.1⟩ ⟨h.2.2.1,h.2.2.2.1⟩ ⟨h.2.2.2.2.1,h.2.2.2.2.2⟩
theorem alQ.sg {C:Qt→Prop} {p:QTs} (h:alQ C p) (s:Int):alQ C (sclT (s:Rat) p):=h.scl _
theorem xb_sg {p:QTs} {k n:Nat} (h:XB p k n) {s:Int} (hs:s=-1∨s=1):XB (sclT (s:Rat) p) k n:=by
 rcases hs with rfl | rfl
 ·exact h.neg
 ·show XB (sclT 1 p) k n;rw [Zky];exact h
theorem one_no (x:Int):alQ (noP x) [((1:Rat),[])]:=λt ht q hq=>by rw [List.mem_singleton.1 ht] at hq;cases hq
theorem lm_ok {k t x n:Int} {a:List Int} {r:Rat} {q:Qt} (hs:StA k t x n a r) (hq:q.ok=true)
 (hp:q.norm.2≠0→hasQ x q.norm.1=true→0≤q.norm.1.a∧q.norm.1.a < n∧0≤q.norm.1.b∧q.norm.1.b < n∧0≤q.norm.1.c∧q.norm.1.c < n) (h0:(lmX k a r t x q).1=0):LmOk x (lmX k a r t x q).2:=by
 have one:XB [((1:Rat),[])] 245 5:=Zoi.mono zd zd;unfold lmX at *;split
 ·rename_i h;have ho:=Zd7 hq;refine⟨ho.x.mono zd zd,one,ZBs (Zjb q) zd,by show 1≤12;decide,?_,one_no x,by simp⟩;unfold ofX;split
  ·exact alQ.emp
  ·rename_i h1;rcases h with h | h
   ·exact absurd h h1
   ·intro u hu v hv;rw [List.mem_singleton.1 hu] at hv;rw [List.mem_singleton.1 hv];exact h
 ·rename_i h;rw [ZBl h] at h0;have h1:q.norm.2≠0:=λg=>h (.inl g)
  have h2:hasQ x q.norm.1=true:=by
   cases g:hasQ x q.norm.1 with
   | true=>rfl
   | false=>exact absurd (.inr g) h
  have hsg:q.norm.2=-1∨q.norm.2=1:=by
   rcases Zh6 q with g | g | g
   ·exact .inl g
   ·exact absurd g h1
   ·exact .inr g
  have hpl:=Ztl h1 (hp h1 h2) x;obtain⟨n1,n2,_⟩:=pl_no (Zyr hq h1) h2;have hxa:∀i,i < a.length→x≠gI a i:=λi hi=>by have:=hs.lt i hi;omega
  split
  ·rename_i hk;have l4:=hs.l4 hk;have g:=tu_xl hpl hs.n40 (hs.rg 0 zo) (hs.rg 1 zo) (hs.rg 2 zo);refine⟨xb_sg (g.x.mono zd zd) hsg,one,by show(sclT _ _).length≤_;rw [Zcy];exact ZBs g.l zd,by show 1≤12;decide,(tu_no n1 n2 (hxa 0 zo) (hxa 1 zo) (hxa 2 zo)).sg _,one_no x,by simp⟩
  ·rename_i hk;rw [ZBl hk] at h0
   cases hc:cbOf k a r t with
   | none=>rw [hc] at h0;exact absurd (show(8:Int)=0 from h0) zd
   | some c =>
     rw [hc] at h0;simp only at h0 ⊢;by_cases hb:c.be=[]
     ·rw [ZBm hb] at h0;exact absurd h0 zd
     ·rw [ZBl hb];have ok:=cb_ok hc hs.sz hs.rg hs.n40 hs.tr hs.l
      have hx0:x≠0∨4≤a.length:=by
       have hl:0 < a.length:=by
        rcases ZCo a.length with g | g
        ·obtain⟨l3,l11,l2,l7,l9⟩:=hs.l;exfalso;unfold cbOf at hc;split at hc
         ·have:=l2 (.inl ‹_›);omega
         split at hc
         ·have:=l3 ‹_›;omega
         split at hc
         ·have:=l2 (.inr ‹_›);omega
         split at hc
         ·have:=l9 ‹_›;omega
         split at hc
         ·have:=l7 (.inl ‹_›);omega
         split at hc
         ·have:=l7 (.inr (.inl ‹_›));omega
         split at hc
         ·have:=l7 (.inr (.inr ‹_›));omega
         split at hc
         ·have:=l11 ‹_›;omega
         ·cases hc
        ·exact g
       have:=hs.lt 0 hl;have:=hs.rg 0 hl;exact .inl zo
      obtain⟨c1,c2,c3⟩:=cb_no hc hxa hx0 hs.l;have hl:=af_len (plOf q.norm.1 x) (cb_len hc (λg=>by rcases g with g | g;exact hs.l.1 g;exact hs.l.2.1 g));have an:=afN_xl ok hpl hs.n40;have ad:=afD_xl (p:=plOf q.norm.1 x) ok;exact⟨xb_sg (an.x.mono zd zd) hsg,ad.x.mono zd zd,by show(sclT _ _).length≤_;rw [Zcy];exact hl.1,ZBs hl.2 zd,(afN_no c1 c2 c3 n1 n2).sg _,afD_no c2,afD_ne ok.be.x.1 hb⟩
structure EI (x:Int) (l:List Qt) (K N:Nat) (y:XX):Prop where
 x1:XB y.1 K N
 x2:XB y.2 K N
 l1:y.1.length≤4000
 l2:y.2.length≤4000
 c1:cntX x 2 y.1
 c2:cntX x 2 y.2
 a1:alQ (λu=>hasQ x u=true→u∈l) y.1
 a2:alQ (λu=>hasQ x u=true→u∈l) y.2
theorem EI.mo {x:Int} {l:List Qt} {K N:Nat} {y:XX} (h:EI x l K N y) {q:Qt} (hq:hasQ x q=true):moQ q y.1≤2∧moQ q y.2≤2:=⟨mo_cnt hq h.c1,mo_cnt hq h.c2⟩
theorem EI.step {x:Int} {l:List Qt} {K N:Nat} {y b:XX} {q:Qt} (h:EI x (q :: l) K N y) (hq:hasQ x q=true) (hb:LmOk x b) (l1:(elS q b y).1.length≤4000) (l2:(elS q b y).2.length≤4000) :
 EI x l (K+1472) (N+20) (elS q b y):=by
 obtain⟨m1,m2⟩:=h.mo hq;obtain⟨e1,e2⟩:=el_xb (x:=x) h.x1 h.x2 hb.xn hb.xd m1 m2;obtain⟨c1,c2⟩:=el_cnt (q:=q) h.c1 h.c2 hb.nn hb.nd;obtain⟨a1,a2⟩:=el_al (q:=q) h.a1 h.a2 hb.nn hb.nd
 have key:∀u,((hasQ x u=true→u∈q :: l)∧u≠q∨noP x u)→hasQ x u=true→u∈l:=by
  intro u hu hx;rcases hu with⟨h1,h2⟩ | h1
  ·rcases List.mem_cons.1 (h1 hx) with h3 | h3
   ·exact absurd h3 h2
   ·exact h3
  ·rw [h1] at hx;exact absurd hx zd
 exact⟨e1.mono zo zo,e2.mono zo zo,l1,l2,c1,c2,a1.imp key,a2.imp key⟩
theorem EI.fin {x:Int} {K N:Nat} {y:XX} (h:EI x [] K N y):alQ (noP x) y.1∧alQ (noP x) y.2:=by
 have key:∀u,(hasQ x u=true→u∈([]:List Qt))→noP x u:=λu hu=>by
  cases g:hasQ x u with
  | false=>exact g
  | true=>cases hu g
 exact⟨h.a1.imp key,h.a2.imp key⟩
theorem EI.beg {x:Int} {K N:Nat} {n d:QTs} (h1:XB n K N) (h2:XB d K N) (l1:n.length≤4000) (l2:d.length≤4000) (c1:∀t∈n,t.2.length≤2) (c2:∀t∈d,t.2.length≤2):EI x (hvL x (flQ n++flQ d)) K N (n,d) :=
 ⟨h1,h2,l1,l2,λt ht=>ZBs (ZF8 _ _) (c1 t ht),λt ht=>ZBs (ZF8 _ _) (c2 t ht),
  λt ht q hq hx=>Zrx.2 ⟨List.mem_append.2 (.inl (Zno.2 ⟨t,ht,hq⟩)),hx⟩,λt ht q hq hx=>Zrx.2 ⟨List.mem_append.2 (.inr (Zno.2 ⟨t,ht,hq⟩)),hx⟩⟩
theorem rs_len {d:QTs} {L:Nat} (hd:d.length≤L) (p:QTs):∀i,(rsX p d i).length≤p.length*L ^ i
 | 0=>by rw [ZFi,ZD8];exact ZBn _
 | i+1=>ZBs (Zmm (rs_len hd p i) hd) (by rw [ZCz,ZCv];exact ZBn _)
theorem Zxk {q:Qt} {p:QTs} {b:XX} (lp:p.length≤4000) (l1:b.1.length≤12) (l2:b.2.length≤12) {i:Nat} (hm:moQ q p+i≤2):(rsX (rpN q p b.1 b.2) b.2 i).length≤1728000:=by
 refine ZBs (rs_len l2 _ i) ?_;have g:=rf_len (P:=paQ q p) (LP:=4000) (λk=>ZBs (pa_len q p k) lp) l1 l2 (moQ q p) (moQ q p+1) (ZBn _);refine ZBs (ZB4 _ g) ?_;generalize moQ q p=m at hm;have hh:(m=0∧i=0)∨(m=0∧i=1)∨(m=0∧i=2)∨(m=1∧i=0)∨(m=1∧i=1)∨(m=2∧i=0):=zo;rcases hh with⟨rfl,rfl⟩ | ⟨rfl,rfl⟩ | ⟨rfl,rfl⟩ | ⟨rfl,rfl⟩ | ⟨rfl,rfl⟩ | ⟨rfl,rfl⟩<;>decide
theorem rs_xb {q:Qt} {p:QTs} {b:XX} {k n kb nb i:Nat} (hp:XB p k n) (hb:XB b.1 kb nb) (hd:XB b.2 kb nb) (hm:moQ q p≤2) (hi:i≤2):XB (rsX (rpN q p b.1 b.2) b.2 i) (k+2+6*kb) (n+4*nb):=by
 have g0:=rf_xb hp hb hd q (moQ q p) (moQ q p+1) zo (ZBn _);rw [rs_pw g0.1 hd.1];have g:=g0.mul (hd.pw i);have e1:moQ q p*(2*kb)≤2*(2*kb):=ZB4 _ hm;have e2:moQ q p*nb≤2*nb:=ZB4 _ hm;have e3:i*kb≤2*kb:=ZB4 _ hi;have e4:i*nb≤2*nb:=ZB4 _ hi;exact g.mono zo zo
def vwX (n:Qt) (x:Int):Int × Int × Bool :=
 if n.k=2∧n.a=n.c then (n.a+n.b - x,n.a+n.b - x,true)
 else if x=n.b then (if n.k=1 then (n.c,n.a,false) else (n.a,n.c,true))
 else if x=n.a then (n.b,n.c,false)
 else if n.k=1 then (n.a,n.b,false) else (n.b,n.a,false)
def prS (s:Int × Int) (k:Int):Int × Int:=if k=1 then (s.1+min s.2 2,s.2+1) else if k=5∨k=6 then (s.1+1,s.2) else s
def prN (ks:List Int):Int × Int:=ks.foldl prS (0,0)
theorem Ztf (ks:List Int) (k:Int):prN (ks++[k])=prS (prN ks) k:=by unfold prN;rw [ZFy];rfl
theorem prN_bd:∀ks:List Int,0≤(prN ks).1∧(prN ks).1≤2*ks.length∧0≤(prN ks).2∧(prN ks).2≤ks.length:=by
 refine Zf5 ⟨by decide,by decide,by decide,by decide⟩ λl a ih=>?_;rw [Ztf,ZCg];have h1:([a]:List Int).length=1:=rfl;unfold prS;obtain⟨i1,i2,i3,i4⟩:=ih;split
 ·refine⟨?_,?_,?_,?_⟩<;>simp only<;>omega
 ·split
  ·refine⟨?_,?_,?_,?_⟩<;>simp only<;>omega
  ·refine⟨?_,?_,?_,?_⟩<;>omega
def wtX (k:Int) (a:List Int) (r:Rat) (t:Int):Int × List Int × List XX :=
 match cbOf k a r t with
 | none=>(8,[],[])
 | some c=>if c.be=[] then (3,[],[]) else (0,c.ps,c.ab.map λw=>(w,c.be))
theorem exC {p:QTs} (h:(∀t∈p,t.1≠0∧(t.2.Pairwise λa b=>Qt.cmp a b≤0)∧∀q∈t.2,q.norm=(q,1))∧p.Pairwise λs t=>ordQ s.2 t.2 < 0):EX p :=
 ⟨λt ht=>⟨(h.1 t ht).1,(h.1 t ht).2.1,(h.1 t ht).2.2⟩,h.2⟩
abbrev hlX:QTs:=[((1/2:Rat),[])]
abbrev onX:QTs:=[((1:Rat),[])]
abbrev pM (a b:Int):List Qt:=[⟨2,a,b,a⟩]
abbrev arX (a b c:Int):QTs:=ofX ⟨1,a,b,c⟩
abbrev pyX (a b c:Int):QTs:=ofX ⟨2,a,b,c⟩
def crX (a b c d:Int):QTs:=subX (arX a b d) (arX a b c)
def doX (a b c d:Int):QTs:=subX (pyX b a d) (pyX b a c)
def leX (a b c d:Int) (r:Rat):QTs:=subX (pyX a b a) (mulX (cstT r) (pyX c d c))
def mdX (m a b:Int):QTs:=Za9 (Za9 (pyX m a m) (pyX m b m)) (mulX (cstT 2) (pyX a m b))
def xsX (a b c d:QTs):QTs:=subX (mulX a b) (mulX c d)
def goX (k:Int) (l:List Int) (r:Rat):QTs :=
 if k=1 then arX (gI l 0) (gI l 1) (gI l 2)
 else if k=2 then crX (gI l 0) (gI l 1) (gI l 2) (gI l 3)
 else if k=3 then doX (gI l 0) (gI l 1) (gI l 2) (gI l 3)
 else if k=4 then leX (gI l 0) (gI l 1) (gI l 2) (gI l 3) 1
 else if k=5 then mdX (gI l 0) (gI l 1) (gI l 2)
 else if k=6 then xsX (arX (gI l 1) (gI l 0) (gI l 2)) (pyX (gI l 0) (gI l 3) (gI l 2)) (arX (gI l 3) (gI l 0) (gI l 2)) (pyX (gI l 0) (gI l 1) (gI l 2))
 else if k=7 then xsX (crX (gI l 0) (gI l 1) (gI l 2) (gI l 3)) (doX (gI l 4) (gI l 5) (gI l 6) (gI l 7)) (crX (gI l 4) (gI l 5) (gI l 6) (gI l 7)) (doX (gI l 0) (gI l 1) (gI l 2) (gI l 3))
 else if k=8 then pyX (gI l 0) (gI l 1) (gI l 0)
 else leX (gI l 0) (gI l 1) (gI l 2) (gI l 3) r
section
variable {ps:List PQ} {rs:List Rat}
abbrev ptI (ps:List PQ) (i:Int):PQ:=ps.getD i.toNat (0,0)
abbrev vX (ps:List PQ) (rs:List Rat) (p:QTs):Rat:=evl (vlQ ps rs) p
theorem Zsp (p q:QTs):vX ps rs (subX p q)=vX ps rs p - vX ps rs q:=by
 show evl _ (Za9 p (sclT (-1) q))=_;rw [show evl (vlQ ps rs) (Za9 p (sclT (-1) q))=evl (vlQ ps rs) p+evl (vlQ ps rs) (sclT (-1) q) from Zlo Zbh _ _ _,Zn3]
 grind
theorem vX_add (p q:QTs):vX ps rs (Za9 p q)=vX ps rs p+vX ps rs q:=Zlo Zbh _ _ _
abbrev inP (ps:List PQ) (i:Int):Prop:=0≤i∧i < (ps.length:Int)
theorem vX_of (hl:ps.length≤40) {k a b c:Int} (hk:k=1∨k=2) (ha:inP ps a) (hb:inP ps b) (hc:inP ps c):vX ps rs (ofX ⟨k,a,b,c⟩)=Qt.val ⟨k,a,b,c⟩ ps rs:=by
 rcases Zjc (rs:=rs) (chk_mk hk ha hb hc hl) hl with⟨h1,h2⟩ | ⟨k1,a1,b1,c1,s,h1,hs,-,-,h2⟩
 ·rw [h2];unfold ofX;rw [h1];rfl
 ·rw [h2];unfold ofX;rw [h1];simp only;rw [ZBl (by rcases hs with rfl | rfl<;>decide)];show(s:Rat)*(Qt.val ⟨k1,a1,b1,c1⟩ ps rs*1)+0=_
  grind
theorem Zwi (hl:ps.length≤40) {a b c:Int} (ha:inP ps a) (hb:inP ps b) (hc:inP ps c):vX ps rs (arX a b c)=Zci (ptI ps a) (ptI ps b) (ptI ps a) (ptI ps c):=by
 rw [vX_of hl (.inl rfl) ha hb hc];rfl
theorem Zl2 (hl:ps.length≤40) {a b c:Int} (ha:inP ps a) (hb:inP ps b) (hc:inP ps c):vX ps rs (pyX a b c)=2*dotP (ptI ps b) (ptI ps a) (ptI ps b) (ptI ps c):=by
 rw [vX_of hl (.inr rfl) ha hb hc];rfl
end
theorem sq_sum {x y:Rat} (h:x*x+y*y=0):x=0∧y=0:=by
 have h1:∀z:Rat,0≤z*z:=λz=>by
  rcases Rat.le_total (a:=0) (b:=z) with g | g
  ·exact Rat.mul_nonneg g g
  ·have:=Rat.mul_nonneg (show(0:Rat)≤-z by grind) (show(0:Rat)≤-z by grind)
   grind
 have hx:=h1 x;have hy:=h1 y;have e1:x*x=0:=by grind
 have e2:y*y=0:=by grind
 exact⟨by grind,by grind⟩
def lnP (a b c d e f g h:PQ):Rat:=Zci a b c d*dotP e f g h - Zci e f g h*dotP a b c d
def prV (k:Int) (r:Rat) (p:Nat→PQ):List Rat :=
 if k=1 then [Zci (p 0) (p 1) (p 0) (p 2)]
 else if k=2 then [Zci (p 0) (p 1) (p 2) (p 3)]
 else if k=3 then [dotP (p 0) (p 1) (p 2) (p 3)]
 else if k=4 then [dotP (p 0) (p 1) (p 0) (p 1) - dotP (p 2) (p 3) (p 2) (p 3)]
 else if k=5 then [(p 1).1+(p 2).1 - 2*(p 0).1,(p 1).2+(p 2).2 - 2*(p 0).2]
 else if k=6 then [lnP (p 1) (p 0) (p 1) (p 2) (p 3) (p 0) (p 3) (p 2)]
 else if k=7 then [lnP (p 0) (p 1) (p 2) (p 3) (p 4) (p 5) (p 6) (p 7)]
 else if k=8 then [(p 0).1 - (p 1).1,(p 0).2 - (p 1).2]
 else [dotP (p 0) (p 1) (p 0) (p 1) - r*dotP (p 2) (p 3) (p 2) (p 3)]
def arN (k:Int):Nat:=if k=8 then 2 else if k=1∨k=5 then 3 else if k=7 then 8 else 4
section
variable {ps:List PQ} {rs:List Rat}
theorem vX_cr (hl:ps.length≤40) {a b c d:Int} (ha:inP ps a) (hb:inP ps b) (hc:inP ps c) (hd:inP ps d):vX ps rs (crX a b c d)=Zci (ptI ps a) (ptI ps b) (ptI ps c) (ptI ps d):=by
 unfold crX;rw [Zsp,Zwi hl ha hb hd,Zwi hl ha hb hc];unfold Zci;grind
theorem vX_do (hl:ps.length≤40) {a b c d:Int} (ha:inP ps a) (hb:inP ps b) (hc:inP ps c) (hd:inP ps d):vX ps rs (doX a b c d)=2*dotP (ptI ps a) (ptI ps b) (ptI ps c) (ptI ps d):=by
 unfold doX;rw [Zsp,Zl2 hl hb ha hd,Zl2 hl hb ha hc];unfold dotP;grind
theorem vX_le (hl:ps.length≤40) {a b c d:Int} {r:Rat} (ha:inP ps a) (hb:inP ps b) (hc:inP ps c) (hd:inP ps d):vX ps rs (leX a b c d r)=2*(dotP (ptI ps a) (ptI ps b) (ptI ps a) (ptI ps b) - r*dotP (ptI ps c) (ptI ps d) (ptI ps c) (ptI ps d)):=by
 unfold leX;rw [Zsp,Zl2 hl ha hb ha,show vX ps rs (mulX (cstT r) (pyX c d c))=_ from Zuf _ _,ZAl,show evl (vlQ ps rs) (pyX c d c)=_ from Zl2 hl hc hd hc];unfold dotP;grind
theorem vX_xs (a b c d:QTs):vX ps rs (xsX a b c d)=vX ps rs a*vX ps rs b - vX ps rs c*vX ps rs d:=by
 unfold xsX;rw [Zsp,show vX ps rs (mulX a b)=_ from Zuf _ _,show vX ps rs (mulX c d)=_ from Zuf _ _]
theorem vX_md (hl:ps.length≤40) {m a b:Int} (hm:inP ps m) (ha:inP ps a) (hb:inP ps b):vX ps rs (mdX m a b)=2*(((ptI ps a).1+(ptI ps b).1 - 2*(ptI ps m).1)*((ptI ps a).1+(ptI ps b).1 - 2*(ptI ps m).1)+((ptI ps a).2+(ptI ps b).2 - 2*(ptI ps m).2)*((ptI ps a).2+(ptI ps b).2 - 2*(ptI ps m).2)):=by
 unfold mdX;rw [vX_add,vX_add,Zl2 hl hm ha hm,Zl2 hl hm hb hm,show vX ps rs (mulX (cstT 2) (pyX a m b))=_ from Zuf _ _,ZAl,show evl (vlQ ps rs) (pyX a m b)=_ from Zl2 hl ha hm hb];unfold dotP;grind
theorem all2 {x y:Rat}:([x,y].all λa=>decide (a=0))=true↔x=0∧y=0:=by simp
theorem all1 {x:Rat}:([x].all λa=>decide (a=0))=true↔x=0:=by simp
theorem go_iff (hl:ps.length≤40) {k:Int} {l:List Int} {r:Rat} (hk:1≤k∧k≤9) (h:∀i,i < arN k→inP ps (gI l i)):vX ps rs (goX k l r)=0↔((prV k r λi=>ptI ps (gI l i)).all λa=>decide (a=0))=true:=by
 have hk':k=1∨k=2∨k=3∨k=4∨k=5∨k=6∨k=7∨k=8∨k=9:=zo;rcases hk' with rfl | rfl | rfl | rfl | rfl | rfl | rfl | rfl | rfl
 ·show vX ps rs (arX _ _ _)=0↔([_].all _)=true;rw [all1,Zwi hl (h 0 zd) (h 1 zd) (h 2 zd)]
 ·show vX ps rs (crX _ _ _ _)=0↔([_].all _)=true;rw [all1,vX_cr hl (h 0 zd) (h 1 zd) (h 2 zd) (h 3 zd)]
 ·show vX ps rs (doX _ _ _ _)=0↔([_].all _)=true;rw [all1,vX_do hl (h 0 zd) (h 1 zd) (h 2 zd) (h 3 zd)]
  grind
 ·show vX ps rs (leX _ _ _ _ 1)=0↔([_].all _)=true;rw [all1,vX_le hl (h 0 zd) (h 1 zd) (h 2 zd) (h 3 zd)]
  grind
 ·show vX ps rs (mdX _ _ _)=0↔([_,_].all _)=true;rw [all2,vX_md hl (h 0 zd) (h 1 zd) (h 2 zd)];constructor
  ·intro g;exact sq_sum (by grind)
  ·rintro ⟨g1,g2⟩;rw [g1,g2];grind
 ·show vX ps rs (xsX _ _ _ _)=0↔([_].all _)=true;rw [all1,vX_xs,Zwi hl (h 1 zd) (h 0 zd) (h 2 zd),Zl2 hl (h 0 zd) (h 3 zd) (h 2 zd),Zwi hl (h 3 zd) (h 0 zd) (h 2 zd),Zl2 hl (h 0 zd) (h 1 zd) (h 2 zd)];unfold lnP;grind
 ·show vX ps rs (xsX _ _ _ _)=0↔([_].all _)=true;rw [all1,vX_xs,vX_cr hl (h 0 zd) (h 1 zd) (h 2 zd) (h 3 zd),vX_do hl (h 4 zd) (h 5 zd) (h 6 zd) (h 7 zd),vX_cr hl (h 4 zd) (h 5 zd) (h 6 zd) (h 7 zd),vX_do hl (h 0 zd) (h 1 zd) (h 2 zd) (h 3 zd)];unfold lnP;grind
 ·show vX ps rs (pyX _ _ _)=0↔([_,_].all _)=true;rw [all2,Zl2 hl (h 0 zd) (h 1 zd) (h 0 zd)];unfold dotP;constructor
  ·intro g;obtain⟨g1,g2⟩:=sq_sum (x:=(ptI ps (gI l 0)).1 - (ptI ps (gI l 1)).1) (y:=(ptI ps (gI l 0)).2 - (ptI ps (gI l 1)).2) (by grind);exact⟨g1,g2⟩
  ·rintro ⟨g1,g2⟩;grind
 ·show vX ps rs (leX _ _ _ _ r)=0↔([_].all _)=true;rw [all1,vX_le hl (h 0 zd) (h 1 zd) (h 2 zd) (h 3 zd)]
  grind
end
end Go.Proofs.YtkefeinbjbeidaaGreatDoor
