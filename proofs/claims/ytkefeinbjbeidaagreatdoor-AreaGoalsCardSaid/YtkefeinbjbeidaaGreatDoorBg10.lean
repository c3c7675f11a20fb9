/- Contracts of the functions that the law reaches, and the rules by which they are walked. They say what a call hands back for every input within the bounds that each names; no other condition. -/
import Derived.Test.YtkefeinbjbeidaaGreatDoorBg9
set_option linter.unusedSimpArgs false
set_option linter.unusedVariables false
set_option maxRecDepth 20000
set_option maxHeartbeats 16000000
namespace Go.Proofs.YtkefeinbjbeidaaGreatDoor
open Go Go.RowKit Go.Pg Go.Pol Go.Proofs.Tryz
theorem Zyv {q:Qt} (h:q.ok=true) (hs:q.norm.2≠0):q.norm.1.norm=(q.norm.1,1):=by
 obtain⟨k,a,b,c⟩:=q
 have hk:(k=3∧0≤a∧a < 64∧b=0∧c=0)∨((k=1∨k=2)∧(0≤a∧a < 40)∧(0≤b∧b < 40)∧(0≤c∧c < 40)):=by
  unfold Qt.ok at h;simpa using h
 have hc:Qt.chk ⟨k,a,b,c⟩ (List.replicate 40 ((0:Rat),(0:Rat))).length (List.replicate 64 (0:Rat)).length=0:=by
  rw [ZFr,ZFr];unfold Qt.chk;rw [ZBo h];simp only;rcases hk with⟨rfl,h1,h2,_⟩ | ⟨h0,h1,h2,h3⟩
  ·rw [ZBo rfl,ZBn zo]
  ·rw [ZBn zo,ZBn zo]
 rcases Zvo (ps:=List.replicate 40 ((0:Rat),(0:Rat))) (rs:=List.replicate 64 (0:Rat)) hc (by rw [ZFr];exact ZBp _) with⟨hn,_⟩ | ⟨k1,a1,b1,e1,s,hn,_,hn2,_,_⟩
 ·rw [hn] at hs;exact absurd rfl hs
 ·rw [hn];exact hn2
structure XL (p:QTs) (k n l:Nat):Prop where
 x:XB p k n
 l:p.length≤l
theorem XL.mono {p:QTs} {k n l j m i:Nat} (h:XL p k n l) (hk:k≤j) (hn:n≤m) (hl:l≤i):XL p j m i:=⟨h.x.mono hk hn,ZBv h.l hl⟩
theorem XL.mul {p q:QTs} {k n l j m i:Nat} (h:XL p k n l) (g:XL q j m i):XL (mulX p q) (k+j) (n+m) (l*i):=⟨h.x.mul g.x,ZBv (Zd1 p q) (ZCy h.l g.l)⟩
theorem XL.add {p q:QTs} {k n l j m i:Nat} (h:XL p k n l) (g:XL q j m i):XL (Za1 p q) (k+j+1) (max n m) (l+i):=⟨h.x.add g.x,ZBv (Zet p q) (ZC2 h.l g.l)⟩
abbrev subX (p q:QTs):QTs:=Za1 p (sclT (-1) q)
theorem XL.neg {q:QTs} {j m i:Nat} (g:XL q j m i):XL (sclT (-1) q) j m i:=⟨g.x.neg,by rw [Zcy];exact g.l⟩
theorem XL.sub {p q:QTs} {k n l j m i:Nat} (h:XL p k n l) (g:XL q j m i):XL (subX p q) (k+j+1) (max n m) (l+i):=h.add g.neg
theorem XL.nil:XL [] 1 0 0:=⟨Zom,ZBp _⟩
def ofX (q:Qt):QTs:=if q.norm.2=0 then [] else [((q.norm.2:Rat),[q.norm.1])]
theorem of_ok {q:Qt} (h:q.ok=true):nrmR (ofE q)=qpA (ofX q):=by
 rw [Zyt (by show(RE.ok ⟨rawQ 1,[q]⟩ && true)=true;rw [ZF5];show((rawQ 1).ok && [q].all Qt.ok)=true;rw [Zrd,ZEu,ZFe,h];rfl)];congr 2;show gatM [RE.t ⟨rawQ 1,[q]⟩]=ofX q;have hs:sgP [q]=q.norm.2:=by show 1*q.norm.2=_;rw [Int.one_mul]
 have ht:RE.t ⟨rawQ 1,[q]⟩=((q.norm.2:Rat),putP [q]):=by
  show((rawQ 1).q*(sgP [q]:Rat),putP [q])=_;rw [Zxt,hs,ZFo]
 rw [ht,Zli];unfold ofX;by_cases h0:q.norm.2=0
 ·rw [ZBo h0,ZBo (by show(q.norm.2:Rat)=0;rw [h0];rfl)]
 ·have h1:¬(q.norm.2:Rat)=0:=by
   rcases Zgx q with h2 | h2 | h2
   ·rw [h2];decide +kernel
   ·exact absurd h2 h0
   ·rw [h2];decide +kernel
  rw [ZBn h0,ZBn h1];have hp:=putP_y [] (q:=q) h0;rw [ZF3] at hp;rw [hp];rfl
theorem Zdg {q:Qt} (h:q.ok=true):XL (ofX q) 1 1 1:=by
 unfold ofX;split
 ·exact XL.nil.mono (ZBp _) zo zo
 ·rename_i h0;have hn:=Zyv h h0
  have hs:(q.norm.2:Rat)≠0∧(q.norm.2:Rat).den ∣ 1∧cl (q.norm.2:Rat)≤65535:=by
   rcases Zgx q with h2 | h2 | h2
   ·rw [h2];decide +kernel
   ·exact absurd h2 h0
   ·rw [h2];decide +kernel
  refine⟨⟨⟨λt ht=>?_,ZGb _ _⟩,λt ht=>by rw [List.mem_singleton.1 ht];exact ZBp _,1,65535,by decide,by decide,by decide,λt ht=>by rw [List.mem_singleton.1 ht];exact hs.2.1,?_⟩,ZBp _⟩
  ·rw [List.mem_singleton.1 ht];exact⟨hs.1,ZGb _ _,λx hx=>by rw [List.mem_singleton.1 hx];exact hn⟩
  ·rw [Zbf];exact hs.2.2
theorem Zdv {u:Rat} {k:Nat} (h:Sz u k):XL (cstT u) (k+1) 0 1:=⟨cstT_xb h,Zi1 u⟩
theorem cstX_mul {c:Rat} {p:QTs} (h:EX p):mulX (cstT c) p=if c=0 then [] else sclT c p:=by
 unfold cstT;split
 ·exact Zrz p
 ·rename_i h0;refine Zia (D:=okQ) Zbq (Zbg rgQ ⟨λt ht=>by rw [List.mem_singleton.1 ht];exact⟨h0,rgQ.de⟩,ZGb _ _⟩ h) ⟨λt ht=>?_,List.pairwise_map.2 h.2⟩ λφ=>?_
  ·obtain⟨u,hu,rfl⟩:=List.mem_map.1 ht;exact⟨λh1=>(Rat.mul_eq_zero.1 h1).elim h0 (h.1 u hu).1,(h.1 u hu).2⟩
  ·rw [Zfo Zbq,Zsi];show c*evl (λk=>φ (muQ [] k)) p+0=_;rw [ZDx];congr 1
   have key:∀p:QTs,(∀t∈p,okQ t.2)→evl (λk=>φ (muQ [] k)) p=evl φ p:=by
    intro p
    induction p with
    | nil=>intro _;rfl
    | cons t p ih =>
      intro h;show t.1*φ (muQ [] t.2)+_=t.1*φ t.2+_;rw [ih λu hu=>h u (.tail _ hu),rgQ.comm,rgQ.one _ (h t (.head _))]
   exact key p h.dom
structure Cb where
 ps:List Int
 ab:List QTs
 be:QTs
abbrev aX (a b c:Int):QTs:=ofX ⟨1,a,b,c⟩
abbrev pX (a b c:Int):QTs:=ofX ⟨2,a,b,c⟩
abbrev nX (n:Rat):QTs:=cstT n
abbrev twX (p:QTs):QTs:=mulX (nX 2) p
def prC (a b:Int) (part below:QTs):Cb:=⟨[a,b],[subX below part,part],below⟩
def ctW (p q r:Int):QTs:=mulX (pX q r q) (pX q p r)
def cbOf (k:Int) (a:List Int) (r:Rat) (t:Int):Option Cb :=
 if k=2 then some (prC (gI a 0) (gI a 1) (nX r) (nX 1))
 else if k=3 then some ⟨a,[nX 1,nX (-1),nX 1],nX 1⟩
 else if k=5 then some (prC (gI a 0) (gI a 1) (ofX ⟨3,t,0,0⟩) (nX 1))
 else if k=9 then some (prC (gI a 0) (gI a 1) (aX (gI a 0) (gI a 2) (gI a 3)) (subX (aX (gI a 0) (gI a 2) (gI a 3)) (aX (gI a 1) (gI a 2) (gI a 3))))
 else if k=7 then some (prC (gI a 1) (gI a 2) (pX (gI a 0) (gI a 1) (gI a 2)) (pX (gI a 2) (gI a 1) (gI a 2)))
 else if k=8 then some ⟨[gI a 1,gI a 2,gI a 0],[twX (subX (pX (gI a 2) (gI a 1) (gI a 2)) (pX (gI a 0) (gI a 1) (gI a 2))),twX (pX (gI a 0) (gI a 1) (gI a 2)),subX [] (pX (gI a 2) (gI a 1) (gI a 2))],pX (gI a 2) (gI a 1) (gI a 2)⟩
 else if k=10 then some (prC (gI a 0) (gI a 1) (twX (pX (gI a 2) (gI a 0) (gI a 1))) (pX (gI a 1) (gI a 0) (gI a 1)))
 else if k=11 then some ⟨a,[ctW (gI a 0) (gI a 1) (gI a 2),ctW (gI a 1) (gI a 2) (gI a 0),ctW (gI a 2) (gI a 0) (gI a 1)],Za1 (Za1 (ctW (gI a 0) (gI a 1) (gI a 2)) (ctW (gI a 1) (gI a 2) (gI a 0))) (ctW (gI a 2) (gI a 0) (gI a 1))⟩
 else none
structure CbOk (c:Cb) (n:Int):Prop where
 len:c.ab.length=c.ps.length
 few:c.ps.length≤3
 ab:∀w∈c.ab,XL w 10 2 4
 be:XL c.be 10 2 4
 ps:∀x∈c.ps,0≤x∧x < n
theorem Zb3 {k a b c:Int} (hk:k=1∨k=2) (ha:0≤a∧a < 40) (hb:0≤b∧b < 40) (hc:0≤c∧c < 40):Qt.ok ⟨k,a,b,c⟩=true:=by
 unfold Qt.ok;rw [ZCr];exact .inr ⟨hk,ha,hb,hc⟩
theorem cb_ok {k t:Int} {a:List Int} {r:Rat} {n:Int} {c:Cb} (h:cbOf k a r t=some c) (hr:Sz r 2) (ha:∀i,i < a.length→0≤gI a i∧gI a i < n) (hn:n≤40) (ht:0≤t∧t < 64)
 (hl:(k=3→a.length=3)∧(k=11→a.length=3)∧(k=2∨k=5→2≤a.length)∧(k=7∨k=8∨k=10→3≤a.length)∧(k=9→4≤a.length)):CbOk c n:=by
 obtain⟨l3,l11,l2,l7,l9⟩:=hl;have g:∀i,i < a.length→0≤gI a i∧gI a i < 40:=λi hi=>by have:=ha i hi;omega
 have pA:∀i j m,i < a.length→j < a.length→m < a.length→XL (aX (gI a i) (gI a j) (gI a m)) 1 1 1:=λi j m h1 h2 h3=>Zdg (Zb3 (.inl rfl) (g i h1) (g j h2) (g m h3));have pP:∀i j m,i < a.length→j < a.length→m < a.length→XL (pX (gI a i) (gI a j) (gI a m)) 1 1 1:=λi j m h1 h2 h3=>Zdg (Zb3 (.inr rfl) (g i h1) (g j h2) (g m h3));have c1:XL (nX 1) 2 0 1:=Zdv Zii;have c2:XL (nX 2) 2 0 1:=Zdv Zjt;have cm:XL (nX (-1)) 2 0 1:=Zdv sz_m1;have cr:XL (nX r) 3 0 1:=Zdv hr
 have pr:∀{x y:Int} {p b:QTs} {j m i j' m' i':Nat},XL p j m i→XL b j' m' i'→j+j'+1≤10→m≤2→m'≤2→i+i'≤4→(0≤x∧x < n)→(0≤y∧y < n)→CbOk (prC x y p b) n:=by
  intro x y p b j m i j' m' i' hp hb h1 h2 h3 h4 hx hy;refine⟨rfl,by show 2≤3;decide,λw hw=>?_,hb.mono zo h3 zo,λz hz=>?_⟩
  ·rcases List.mem_cons.1 hw with rfl | hw
   ·exact(hb.sub hp).mono zo zo zo
   ·rw [List.mem_singleton.1 hw];exact hp.mono zo h2 zo
  ·rcases List.mem_cons.1 hz with rfl | hz
   ·exact hx
   ·rw [List.mem_singleton.1 hz];exact hy
 have hmem:∀x∈a,0≤x∧x < n:=λx hx=>by
  obtain⟨i,hi,rfl⟩:=List.getElem_of_mem hx;have:=ha i hi
  rwa [Zg2 hi] at this
 have tri:∀{x y z:QTs} {w:QTs},XL x 10 2 4→XL y 10 2 4→XL z 10 2 4→w∈[x,y,z]→XL w 10 2 4:=by
  intro x y z w hx hy hz hw;rcases List.mem_cons.1 hw with rfl | hw
  ·exact hx
  ·rcases List.mem_cons.1 hw with rfl | hw
   ·exact hy
   ·rw [List.mem_singleton.1 hw];exact hz
 unfold cbOf at h;split at h
 ·rename_i hk;cases h;have:=l2 (.inl hk);exact pr cr c1 zd zd zd zd (ha 0 zo) (ha 1 zo)
 split at h
 ·rename_i hk;cases h;have:=l3 hk;exact⟨this.symm,by show a.length≤3;omega,λw hw=>tri (c1.mono zd zd zd) (cm.mono zd zd zd) (c1.mono zd zd zd) hw,c1.mono zd zd zd,hmem⟩
 split at h
 ·rename_i hk;cases h;have:=l2 (.inr hk);have ho:XL (ofX ⟨3,t,0,0⟩) 1 1 1:=Zdg (by unfold Qt.ok;rw [ZCr];exact .inl ⟨rfl,ht.1,ht.2,rfl,rfl⟩);exact pr ho c1 zd zd zd zd (ha 0 zo) (ha 1 zo)
 split at h
 ·rename_i hk;cases h;have:=l9 hk;have p1:=pA 0 2 3 zo zo zo;have p2:=pA 1 2 3 zo zo zo;exact pr p1 (p1.sub p2) zd zd zd zd (ha 0 zo) (ha 1 zo)
 split at h
 ·rename_i hk;cases h;have:=l7 (.inl hk);exact pr (pP 0 1 2 zo zo zo) (pP 2 1 2 zo zo zo) zd zd zd zd (ha 1 zo) (ha 2 zo)
 split at h
 ·rename_i hk;cases h;have:=l7 (.inr (.inl hk));have p1:=pP 0 1 2 zo zo zo;have p2:=pP 2 1 2 zo zo zo;refine⟨rfl,by show 3≤3;decide,λw hw=>tri ((c2.mul (p2.sub p1)).mono zd zd zd) ((c2.mul p1).mono zd zd zd) ((XL.nil.sub p2).mono zd zd zd) hw,p2.mono zd zd zd,λx hx=>?_⟩;rcases List.mem_cons.1 hx with rfl | hx
  ·exact ha 1 zo
  ·rcases List.mem_cons.1 hx with rfl | hx
   ·exact ha 2 zo
   ·rw [List.mem_singleton.1 hx];exact ha 0 zo
 split at h
 ·rename_i hk;cases h;have:=l7 (.inr (.inr hk));exact pr (c2.mul (pP 2 0 1 zo zo zo)) (pP 1 0 1 zo zo zo) zd zd zd zd (ha 0 zo) (ha 1 zo)
 split at h
 ·rename_i hk;cases h;have:=l11 hk;have w1:=(pP 1 2 1 zo zo zo).mul (pP 1 0 2 zo zo zo);have w2:=(pP 2 0 2 zo zo zo).mul (pP 2 1 0 zo zo zo);have w3:=(pP 0 1 0 zo zo zo).mul (pP 0 2 1 zo zo zo);exact⟨this.symm,by show a.length≤3;omega,λw hw=>tri (w1.mono zd zd zd) (w2.mono zd zd zd) (w3.mono zd zd zd) hw,((w1.add w2).add w3).mono zd zd zd,hmem⟩
 ·cases h
structure Pl where
 k:Int
 q:Int
 r:Int
 mid:Bool
def plOf (n:Qt) (x:Int):Pl :=
 if n.k=1 then (if n.a=x then ⟨n.k,n.b,n.c,false⟩ else if n.b=x then ⟨n.k,n.c,n.a,false⟩ else ⟨n.k,n.a,n.b,false⟩)
 else if n.a=x∧n.c=x then ⟨n.k,n.b,n.b,true⟩
 else if n.b=x then ⟨n.k,n.a,n.c,true⟩
 else if n.a=x then ⟨n.k,n.b,n.c,false⟩
 else ⟨n.k,n.b,n.a,false⟩
def Pl.at (p:Pl) (x:Int):QTs:=if p.k=1 then aX x p.q p.r else if p.mid=true then pX p.q x p.r else pX x p.q p.r
def afS (c:Cb) (p:Pl):Nat→QTs
 | 0=>[]
 | i+1=>Za1 (afS c p i) (mulX (c.ab.getD i []) (p.at (gI c.ps i)))
def prT (c:Cb) (i j:Nat):QTs:=mulX (mulX (c.ab.getD i []) (c.ab.getD j [])) (pX (gI c.ps i) (gI c.ps j) (gI c.ps i))
def in2 (c:Cb) (i:Nat) (acc:QTs):Nat→QTs
 | 0=>acc
 | d+1=>subX (in2 c i acc d) (prT c i (i+1+d))
def out2 (c:Cb) (n:Nat) (acc:QTs):Nat→QTs
 | 0=>acc
 | i+1=>in2 c i (out2 c n acc i) (n - (i+1))
def afN (c:Cb) (p:Pl):QTs:=if p.mid=true then out2 c c.ps.length (mulX c.be (afS c p c.ps.length)) c.ps.length else afS c p c.ps.length
def afD (c:Cb) (p:Pl):QTs:=if p.mid=true then mulX c.be c.be else c.be
structure PlOk (p:Pl) (n:Int):Prop where
 q:0≤p.q∧p.q < n
 r:0≤p.r∧p.r < n
theorem pl_ok {q:Qt} {x n:Int} (ha:0≤q.a∧q.a < n) (hb:0≤q.b∧q.b < n) (hc:0≤q.c∧q.c < n):PlOk (plOf q x) n:=by
 unfold plOf;split
 ·split
  ·exact⟨hb,hc⟩
  ·split
   ·exact⟨hc,ha⟩
   ·exact⟨ha,hb⟩
 ·split
  ·exact⟨hb,hb⟩
  ·split
   ·exact⟨ha,hc⟩
   ·split
    ·exact⟨hb,hc⟩
    ·exact⟨hb,ha⟩
theorem Zl1 {c:Cb} {n:Int} (h:CbOk c n) {i:Nat} (hi:i < c.ps.length):XL (c.ab.getD i []) 10 2 4:=by
 rw [Zeh (show i < c.ab.length by rw [h.len];exact hi)];exact h.ab _ (ZB0 _)
theorem Zh5 {c:Cb} {n:Int} (h:CbOk c n) {i:Nat} (hi:i < c.ps.length):0≤gI c.ps i∧gI c.ps i < n:=by
 rw [Zg2 hi];exact h.ps _ (ZB0 _)
theorem at_xl {p:Pl} {x n:Int} (h:PlOk p n) (hx:0≤x∧x < n) (hn:n≤40):XL (p.at x) 1 1 1:=by
 have:=h.q;have:=h.r;unfold Pl.at;split
 ·exact Zdg (Zb3 (.inl rfl) zo zo zo)
 ·split
  ·exact Zdg (Zb3 (.inr rfl) zo zo zo)
  ·exact Zdg (Zb3 (.inr rfl) zo zo zo)
theorem Zqn {c:Cb} {p:Pl} {n:Int} (hc:CbOk c n) (hp:PlOk p n) (hn:n≤40):∀i,i≤c.ps.length→XL (afS c p i) (1+12*i) 3 (4*i)
 | 0,_=>XL.nil.mono zo zo zo
 | i+1,hi=>((Zqn hc hp hn i zo).add ((Zl1 hc (show i < _ by omega)).mul (at_xl hp (Zh5 hc zo) hn))).mono zo zo zo
theorem prT_xl {c:Cb} {n:Int} (hc:CbOk c n) (hn:n≤40) {i j:Nat} (hi:i < c.ps.length) (hj:j < c.ps.length):XL (prT c i j) 21 5 16:=by
 have h1:=Zh5 hc hi;have h2:=Zh5 hc hj;exact(((Zl1 hc hi).mul (Zl1 hc hj)).mul (Zdg (Zb3 (.inr rfl) zo zo zo))).mono zo zo zo
theorem Zzn {c:Cb} {n:Int} (hc:CbOk c n) (hn:n≤40) {i:Nat} {acc:QTs} {k l:Nat} (ha:XL acc k 5 l):∀d,i+d < c.ps.length→XL (in2 c i acc d) (k+22*d) 5 (l+16*d)
 | 0,_=>ha.mono zo zo zo
 | d+1,h=>((Zzn hc hn ha d zo).sub (prT_xl hc hn (show i < _ by omega) (show i+1+d < _ by omega))).mono zo zo zo
theorem Zrm {c:Cb} {n:Int} (hc:CbOk c n) (hn:n≤40) {acc:QTs} {k l:Nat} (ha:XL acc k 5 l):∀i,i≤c.ps.length→XL (out2 c c.ps.length acc i) (k+66*i) 5 (l+48*i)
 | 0,_=>ha.mono zo zo zo
 | i+1,h=>by
   have h3:=hc.few;have h1:=Zzn hc hn (Zrm hc hn ha i zo) (c.ps.length - (i+1)) (i:=i) zo;exact h1.mono zo (ZBp _) zo
theorem afM_xl {c:Cb} {p:Pl} {n:Int} (hc:CbOk c n) (hp:PlOk p n) (hn:n≤40):XL (mulX c.be (afS c p c.ps.length)) 47 5 48:=by
 have h3:=hc.few;have h1:=hc.be.mul (Zqn hc hp hn c.ps.length (ZBp _));exact h1.mono zo zo zo
theorem afN_xl {c:Cb} {p:Pl} {n:Int} (hc:CbOk c n) (hp:PlOk p n) (hn:n≤40):XL (afN c p) 245 5 192:=by
 have h3:=hc.few;unfold afN;split
 ·exact(Zrm hc hn (afM_xl hc hp hn) c.ps.length (ZBp _)).mono zo (ZBp _) zo
 ·exact(Zqn hc hp hn c.ps.length (ZBp _)).mono zo zo zo
theorem afD_xl {c:Cb} {p:Pl} {n:Int} (hc:CbOk c n):XL (afD c p) 20 4 16:=by
 unfold afD;split
 ·exact(hc.be.mul hc.be).mono zo zo zo
 ·exact hc.be.mono zo zo zo
abbrev hfX (p:QTs):QTs:=mulX (nX (1/2)) p
def tuX (s a b:Int) (p:Pl):QTs :=
 if p.k=1 then Za1 (aX s p.q p.r) (hfX (subX (pX p.r p.q b) (pX p.r p.q a)))
 else if p.mid=true then Za1 (pX p.q s p.r) (subX (pX a b a) (twX (subX (Za1 (aX a b p.q) (aX a b p.r)) (twX (aX a b s)))))
 else Za1 (pX s p.q p.r) (twX (subX (aX a b p.r) (aX a b p.q)))
def tuR (s a b:Int) (p:Pl):QTs :=
 if p.k=1 then Za1 (aX s p.q p.r) (sclT (1/2) (subX (pX p.r p.q b) (pX p.r p.q a)))
 else if p.mid=true then Za1 (subX (pX p.q s p.r) (sclT 2 (subX (Za1 (aX a b p.q) (aX a b p.r)) (sclT 2 (aX a b s))))) (pX a b a)
 else Za1 (pX s p.q p.r) (sclT 2 (subX (aX a b p.r) (aX a b p.q)))
theorem EX.sub {p q:QTs} (hp:EX p) (hq:EX q):EX (subX p q):=Zgg Zbq hp hq.neg
theorem EX.add {p q:QTs} (hp:EX p) (hq:EX q):EX (Za1 p q):=Zgg Zbq hp hq
theorem EX.scl {p:QTs} (hp:EX p) {c:Rat} (h0:c≠0):EX (sclT c p):=by
 refine⟨λt ht=>?_,List.pairwise_map.2 hp.2⟩;obtain⟨u,hu,rfl⟩:=List.mem_map.1 ht;exact⟨λh1=>(Rat.mul_eq_zero.1 h1).elim h0 (hp.1 u hu).1,(hp.1 u hu).2⟩
theorem sz_half:Sz (1/2:Rat) 1:=⟨by decide +kernel,by decide +kernel⟩
theorem tu_xl {s a b n:Int} {p:Pl} (hp:PlOk p n) (hn:n≤40) (hs:0≤s∧s < n) (ha:0≤a∧a < n) (hb:0≤b∧b < n):XL (tuX s a b p) 16 1 8:=by
 have hq:=hp.q;have hr:=hp.r;have eA:∀x y z:Int,(0≤x∧x < n)→(0≤y∧y < n)→(0≤z∧z < n)→XL (aX x y z) 1 1 1:=λx y z h1 h2 h3=>Zdg (Zb3 (.inl rfl) zo zo zo);have eP:∀x y z:Int,(0≤x∧x < n)→(0≤y∧y < n)→(0≤z∧z < n)→XL (pX x y z) 1 1 1:=λx y z h1 h2 h3=>Zdg (Zb3 (.inr rfl) zo zo zo);have c2:XL (nX 2) 2 0 1:=Zdv Zjt;have ch:XL (nX (1/2)) 2 0 1:=Zdv sz_half;unfold tuX;split
 ·exact((eA _ _ _ hs hq hr).add (ch.mul ((eP _ _ _ hr hq hb).sub (eP _ _ _ hr hq ha)))).mono zd zd zd
 ·split
  ·exact((eP _ _ _ hq hs hr).add ((eP _ _ _ ha hb ha).sub (c2.mul (((eA _ _ _ ha hb hq).add (eA _ _ _ ha hb hr)).sub (c2.mul (eA _ _ _ ha hb hs)))))).mono zd zd zd
  ·exact((eP _ _ _ hs hq hr).add (c2.mul ((eA _ _ _ ha hb hr).sub (eA _ _ _ ha hb hq)))).mono zd zd zd
section
variable {α:Type} {cmp:α→α→Int}
theorem Zy8 (o:CO cmp) (x:α):∀{l m:List α},Asc cmp l→Asc cmp m→l.length=m.length→lexL cmp l m < 0→lexL cmp (putQ cmp l x) (putQ cmp m x) < 0
 | [],[],_,_,_,h=>by exact absurd h (by simp [lexL])
 | [],_ :: _,_,_,h,_=>by simp at h
 | _ :: _,[],_,_,h,_=>by simp at h
 | a :: l,b :: m,hl,hm,hlen,h=>by
   rw [Zb8] at h;have fl:∀y z,¬cmp y z≤0→cmp z y < 0:=λy z h=>(o.flip z y).2 zo;by_cases hab:cmp a b=0
   ·rw [ZBo hab] at h;obtain rfl:=o.eqz _ _ hab;have ih:=Zy8 o x (List.pairwise_cons.1 hl).2 (List.pairwise_cons.1 hm).2 (by simpa using hlen) h;unfold putQ;by_cases hx:cmp a x≤0
    ·rw [ZBo hx,ZBo hx,Zb8,ZBo (o.refl a)];exact ih
    ·rw [ZBn hx,ZBn hx,Zb8,ZBo (o.refl x),Zb8,ZBo (o.refl a)];exact h
   ·rw [ZBn hab] at h;have hal:∀c∈l,cmp a c≤0:=(List.pairwise_cons.1 hl).1;unfold putQ;by_cases hx:cmp a x≤0
    ·rw [ZBo hx];by_cases hy:cmp b x≤0
     ·rw [ZBo hy,Zb8,ZBn hab];exact h
     ·rw [ZBn hy,Zb8];have hxb:=fl _ _ hy;by_cases hax:cmp a x=0
      ·rw [ZBo hax];obtain rfl:=o.eqz _ _ hax
       cases l with
       | nil =>
         show lexL cmp [a] (b :: m) < 0;rw [Zb8,ZBn hab];exact h
       | cons c l =>
         unfold putQ;by_cases hc:cmp c a≤0
         ·rw [ZBo hc,Zb8];have h1:=hal c (.head _)
          have h2:cmp a c=0:=by
           rcases Int.lt_or_eq_of_le h1 with h3 | h3
           ·have:=(o.flip a c).1 h3;omega
           ·exact h3
          obtain rfl:=o.eqz _ _ h2;rw [ZBn hab];exact h
         ·rw [ZBn hc,Zb8,ZBn hab];exact h
      ·rw [ZBn hax];omega
    ·rw [ZBn hx];have hxa:=fl _ _ hx;have hxb:=o.tr _ _ _ hxa h;have hb:¬cmp b x≤0:=by have:=(o.flip x b).1 hxb;omega
     rw [ZBn hb,Zb8,ZBo (o.refl x),Zb8,ZBn hab];exact h
theorem Zti (x:α) (l:List α):(putQ cmp l x).length=l.length+1:=(Zfs x l).length_eq
theorem ord_put (o:CO cmp) (x:α) {l m:List α} (hl:Asc cmp l) (hm:Asc cmp m) (h:ordL cmp l m < 0):ordL cmp (putQ cmp l x) (putQ cmp m x) < 0:=by
 unfold ordL at *;rw [Zti,Zti];by_cases h1:l.length < m.length
 ·rw [ZBo zo];decide
 ·rw [ZBn h1] at h;by_cases h2:m.length < l.length
  ·rw [ZBo h2] at h;exact absurd h zd
  ·rw [ZBn h2] at h;rw [ZBn zo,ZBn zo];exact Zy8 o x hl hm zo h
end
theorem mu_put (a c:List Qt) (x:Qt):muQ a (x :: c)=putQ Qt.cmp (muQ a c) x :=
 Ze6 qtO (Zb5 qtO.cp _) (Zkd qtO.cp x (Zb5 qtO.cp _)) ((Za3 _).trans ((List.perm_middle).trans (((Za3 (a++c)).symm.cons x).trans (Zfs x _).symm)))
theorem mu_nil {a:List Qt} (h:Asc Qt.cmp a):muQ a []=a:=Ze6 qtO (Zb5 qtO.cp _) h (by show(srtQ Qt.cmp (a++[])).Perm a;rw [ZC4];exact Za3 _)
theorem mu_lt {a b:List Qt} (ha:Asc Qt.cmp a) (hb:Asc Qt.cmp b) (h:ordQ a b < 0):∀c,ordQ (muQ a c) (muQ b c) < 0
 | []=>by rw [mu_nil ha,mu_nil hb];exact h
 | x :: c=>by
   rw [mu_put,mu_put];exact ord_put qtO x (Zb5 qtO.cp _) (Zb5 qtO.cp _) (mu_lt ha hb h c)
theorem Zkj {κ:Type} {f:κ→Rat}:∀{l:List (Rat × κ)},(∀t∈l,f t.2=0)→evl f l=0
 | [],_=>rfl
 | t :: l,h=>by
   show t.1*f t.2+evl f l=0;rw [h t (.head _),Zkj λu hu=>h u (.tail _ hu),ZF1,ZDx]
theorem mul_ne {p q:QTs} (hp:EX p) (hq:EX q) (h1:p≠[]) (h2:q≠[]):mulX p q≠[]:=by
 cases p with
 | nil=>exact absurd rfl h1
 | cons s p =>
   cases q with
   | nil=>exact absurd rfl h2
   | cons t q =>
     have dp:=hp.dom;have dq:=hq.dom;have op:∀u∈p,ordQ s.2 u.2 < 0:=(List.pairwise_cons.1 hp.2).1;have oq:∀u∈q,ordQ t.2 u.2 < 0:=(List.pairwise_cons.1 hq.2).1;intro h0;have ne:∀{a b:List Qt},ordQ a b < 0→b≠a:=λh e=>by rw [e,Zbq.refl] at h;omega
     have k1:∀u∈q,muQ s.2 u.2≠muQ s.2 t.2:=λu hu=>by
      rw [rgQ.comm s.2,rgQ.comm s.2];exact ne (mu_lt (dq t (.head _)).1 (dq u (.tail _ hu)).1 (oq u hu) s.2)
     have k2:∀u∈p,∀v∈t :: q,muQ u.2 v.2≠muQ s.2 t.2:=λu hu v hv=>by
      have a1:=mu_lt (dp s (.head _)).1 (dp u (.tail _ hu)).1 (op u hu) v.2;rcases List.mem_cons.1 hv with rfl | hv
      ·exact ne a1
      ·have a2:=mu_lt (dq t (.head _)).1 (dq v (.tail _ hv)).1 (oq v hv) s.2;rw [rgQ.comm t.2,rgQ.comm v.2] at a2;exact ne (Zbq.tr _ _ _ a2 a1)
     have e:=Zfo Zbq (λk:List Qt=>if k=muQ s.2 t.2 then (1:Rat) else 0) (s :: p) (t :: q) (mu:=muQ);have e0:mlG ordQ muQ (s :: p) (t :: q)=[]:=h0;rw [e0] at e
     have e1:evl (λk'=>if muQ s.2 k'=muQ s.2 t.2 then (1:Rat) else 0) (t :: q)=t.1:=by
      show t.1*(if muQ s.2 t.2=muQ s.2 t.2 then (1:Rat) else 0)+_=_;rw [ZBo rfl,Zkj λu hu=>ZBn (k1 u hu),ZF0,ZDx]
     have e2:evl (λk=>evl (λk'=>if muQ k k'=muQ s.2 t.2 then (1:Rat) else 0) (t :: q)) p=0:=Zkj λu hu=>Zkj λv hv=>ZBn (k2 u hu v hv);have e3:(0:Rat)=s.1*evl (λk'=>if muQ s.2 k'=muQ s.2 t.2 then (1:Rat) else 0) (t :: q)+evl (λk=>evl (λk'=>if muQ k k'=muQ s.2 t.2 then (1:Rat) else 0) (t :: q)) p:=e;rw [e1,e2,ZDx] at e3;rcases Rat.mul_eq_zero.1 e3.symm with h | h
     ·exact(hp.1 s (.head _)).1 h
     ·exact(hq.1 t (.head _)).1 h
abbrev noP (x:Int) (q:Qt):Prop:=hasQ x q=false
theorem Zp4 {q:Qt} {x:Int} (h:hasQ x q=true):q.ok=true∧q.k≠3∧(x=q.a∨x=q.b∨x=q.c):=by
 unfold hasQ Qt.pts at h;split at h
 ·rename_i hk;obtain⟨y,hy,hxy⟩:=List.any_eq_true.1 h;obtain⟨n,hn,rfl⟩:=List.mem_map.1 hy;have hp:=(List.mem_filter.1 hn).2;have hxy:x=(n:Int):=by simpa using hxy
  unfold isP at hp;simp at hp;exact⟨hk.1,hk.2,zo⟩
 ·simp at h
theorem Zt8 {q:Qt} {x:Int} (hok:q.ok=true) (hk:q.k≠3) (h:x=q.a∨x=q.b∨x=q.c):hasQ x q=true:=by
 have hr:0≤x∧x < 40:=by
  unfold Qt.ok at hok;simp at hok;omega
 unfold hasQ Qt.pts;rw [ZBo ⟨hok,hk⟩];refine List.any_eq_true.2 ⟨x,List.mem_map.2 ⟨x.toNat,List.mem_filter.2 ⟨List.mem_range.2 zo,?_⟩,zo⟩,by simp⟩;unfold isP;simp;omega
theorem Zkf {q:Qt} {x:Int} (hs:q.norm.2≠0) (h:hasQ x q.norm.1=true):x=q.a∨x=q.b∨x=q.c:=by
 obtain⟨_,_,h⟩:=Zp4 h;obtain⟨k,a,b,c⟩:=q;unfold Qt.norm at h hs;simp only at h hs ⊢;split at h
 ·rename_i hk;rw [ZBo hk] at hs;split at h
  ·rename_i h1;rw [ZBo h1] at hs;unfold Zeg at h hs;split at h
   ·rename_i h2;rw [ZBo h2] at hs;exact absurd rfl hs
   ·(repeat' split at h)<;>simp only at h<;>omega
  ·rename_i h1;rw [ZBn h1] at hs;split at h
   ·rename_i h3;rw [ZBo h3] at hs;unfold Zfl at h hs;split at h
    ·rename_i h2;rw [ZBo h2] at hs;exact absurd rfl hs
    ·(repeat' split at h)<;>simp only at h<;>omega
   ·exact h
 ·rename_i hk;rw [ZBn hk] at hs;exact absurd rfl hs
theorem of_no {q:Qt} {x:Int} (h:q.k=3∨(x≠q.a∧x≠q.b∧x≠q.c)):alQ (noP x) (ofX q):=by
 unfold ofX;split
 ·exact λt ht=>by cases ht
 ·rename_i hs;intro t ht r hr;rw [List.mem_singleton.1 ht] at hr;rw [List.mem_singleton.1 hr]
  cases hh:hasQ x q.norm.1 with
  | false=>exact hh
  | true =>
    exfalso;rcases h with h3 | ⟨h1,h2,h3⟩
    ·obtain⟨h4,h5,_⟩:=Zp4 hh;obtain⟨k,a,b,c⟩:=q;simp only at h3;subst h3;unfold Qt.norm at h5 hs;split at h5
     ·exact h5 rfl
     ·rename_i hk;rw [ZBn hk] at hs;exact hs rfl
    ·rcases Zkf hs hh with h4 | h4 | h4
     ·exact h1 h4
     ·exact h2 h4
     ·exact h3 h4
theorem a_no {x a b c:Int} (h1:x≠a) (h2:x≠b) (h3:x≠c):alQ (noP x) (aX a b c):=of_no (.inr ⟨h1,h2,h3⟩)
theorem p_no {x a b c:Int} (h1:x≠a) (h2:x≠b) (h3:x≠c):alQ (noP x) (pX a b c):=of_no (.inr ⟨h1,h2,h3⟩)
theorem alQ.sub {C:Qt→Prop} {p q:QTs} (hp:alQ C p) (hq:alQ C q):alQ C (subX p q):=hp.join (hq.scl _)
theorem alQ.emp {C:Qt→Prop}:alQ C []:=λt ht=>by cases ht
theorem cb_no {k t:Int} {a:List Int} {r:Rat} {x:Int} {c:Cb} (h:cbOf k a r t=some c) (ha:∀i,i < a.length→x≠gI a i) (h0:x≠0∨4≤a.length)
 (hl:(k=3→a.length=3)∧(k=11→a.length=3)∧(k=2∨k=5→2≤a.length)∧(k=7∨k=8∨k=10→3≤a.length)∧(k=9→4≤a.length)) :
 (∀w∈c.ab,alQ (noP x) w)∧alQ (noP x) c.be∧∀y∈c.ps,x≠y:=by
 obtain⟨l3,l11,l2,l7,l9⟩:=hl;have hmem:∀y∈a,x≠y:=λy hy=>by
  obtain⟨i,hi,rfl⟩:=List.getElem_of_mem hy;have:=ha i hi
  rwa [Zg2 hi] at this
 have nn:∀u:Rat,alQ (noP x) (nX u):=λu=>ZAo u
 have pr:∀{y z:Int} {p b:QTs},alQ (noP x) p→alQ (noP x) b→x≠y→x≠z→(∀w∈(prC y z p b).ab,alQ (noP x) w)∧alQ (noP x) (prC y z p b).be∧∀y'∈(prC y z p b).ps,x≠y':=by
  intro y z p b hp hb hy hz;refine⟨λw hw=>?_,hb,λv hv=>?_⟩
  ·rcases List.mem_cons.1 hw with rfl | hw
   ·exact hb.sub hp
   ·rw [List.mem_singleton.1 hw];exact hp
  ·rcases List.mem_cons.1 hv with rfl | hv
   ·exact hy
   ·rw [List.mem_singleton.1 hv];exact hz
 have tri:∀{u v z:QTs} {w:QTs},alQ (noP x) u→alQ (noP x) v→alQ (noP x) z→w∈[u,v,z]→alQ (noP x) w:=by
  intro u v z w hx hy hz hw;rcases List.mem_cons.1 hw with rfl | hw
  ·exact hx
  ·rcases List.mem_cons.1 hw with rfl | hw
   ·exact hy
   ·rw [List.mem_singleton.1 hw];exact hz
 unfold cbOf at h;split at h
 ·rename_i hk;cases h;have:=l2 (.inl hk);exact pr (nn _) (nn _) (ha 0 zo) (ha 1 zo)
 split at h
 ·rename_i hk;cases h;exact⟨λw hw=>tri (nn 1) (nn (-1)) (nn 1) hw,nn 1,hmem⟩
 split at h
 ·rename_i hk;cases h;have:=l2 (.inr hk);exact pr (of_no (.inl rfl)) (nn _) (ha 0 zo) (ha 1 zo)
 split at h
 ·rename_i hk;cases h;have:=l9 hk;have p1:=a_no (ha 0 zo) (ha 2 zo) (ha 3 zo);have p2:=a_no (ha 1 zo) (ha 2 zo) (ha 3 zo);exact pr p1 (p1.sub p2) (ha 0 zo) (ha 1 zo)
 split at h
 ·rename_i hk;cases h;have:=l7 (.inl hk);exact pr (p_no (ha 0 zo) (ha 1 zo) (ha 2 zo)) (p_no (ha 2 zo) (ha 1 zo) (ha 2 zo)) (ha 1 zo) (ha 2 zo)
 split at h
 ·rename_i hk;cases h;have:=l7 (.inr (.inl hk));have p1:=p_no (ha 0 zo) (ha 1 zo) (ha 2 zo);have p2:=p_no (ha 2 zo) (ha 1 zo) (ha 2 zo);refine⟨λw hw=>tri ((nn _).mul (p2.sub p1)) ((nn _).mul p1) (alQ.emp.sub p2) hw,p2,λy hy=>?_⟩;rcases List.mem_cons.1 hy with rfl | hy
  ·exact ha 1 zo
  ·rcases List.mem_cons.1 hy with rfl | hy
   ·exact ha 2 zo
   ·rw [List.mem_singleton.1 hy];exact ha 0 zo
 split at h
 ·rename_i hk;cases h;have:=l7 (.inr (.inr hk));exact pr ((nn _).mul (p_no (ha 2 zo) (ha 0 zo) (ha 1 zo))) (p_no (ha 1 zo) (ha 0 zo) (ha 1 zo)) (ha 0 zo) (ha 1 zo)
 split at h
 ·rename_i hk;cases h;have:=l11 hk;have g0:=ha 0 zo;have g1:=ha 1 zo;have g2:=ha 2 zo;have w1:=(p_no g1 g2 g1).mul (p_no g1 g0 g2);have w2:=(p_no g2 g0 g2).mul (p_no g2 g1 g0);have w3:=(p_no g0 g1 g0).mul (p_no g0 g2 g1);exact⟨λw hw=>tri w1 w2 w3 hw,(w1.join w2).join w3,hmem⟩
 ·cases h
theorem pl_no {n:Qt} {x:Int} (hn:n.norm=(n,1)) (hx:hasQ x n=true):x≠(plOf n x).q∧x≠(plOf n x).r∧(plOf n x).k=n.k:=by
 obtain⟨_,hk,hx⟩:=Zp4 hx;have hok:=Zrr hn;obtain⟨k,a,b,c⟩:=n;simp only at hk hx
 have h1:k=1∨k=2:=by
  unfold Qt.ok at hok;simp at hok;omega
 unfold Qt.norm at hn;rw [ZBo hok] at hn;simp only at hn;unfold plOf;simp only;rcases h1 with rfl | rfl
 ·rw [ZBo rfl] at hn
  have h3:a≠b∧b≠c∧a≠c:=by
   unfold Zeg at hn;split at hn
   ·simp [Qt.zero] at hn
   ·omega
  rw [ZBo rfl];split
  ·exact⟨by show x≠b;omega,by show x≠c;omega,rfl⟩
  ·split
   ·exact⟨by show x≠c;omega,by show x≠a;omega,rfl⟩
   ·exact⟨by show x≠a;omega,by show x≠b;omega,rfl⟩
 ·rw [ZBn zd,ZBo rfl] at hn
  have h3:a≠b∧b≠c:=by
   unfold Zfl at hn;split at hn
   ·simp [Qt.zero] at hn
   ·omega
  rw [ZBn zd];split
  ·exact⟨by show x≠b;omega,by show x≠b;omega,rfl⟩
  ·split
   ·exact⟨by show x≠a;omega,by show x≠c;omega,rfl⟩
   ·split
    ·exact⟨by show x≠b;omega,by show x≠c;omega,rfl⟩
    ·exact⟨by show x≠b;omega,by show x≠a;omega,rfl⟩
theorem at_no {p:Pl} {x y:Int} (h1:x≠p.q) (h2:x≠p.r) (h3:x≠y):alQ (noP x) (p.at y):=by
 unfold Pl.at;split
 ·exact a_no h3 h1 h2
 ·split
  ·exact p_no h1 h3 h2
  ·exact p_no h3 h1 h2
section
variable {c:Cb} {p:Pl} {x:Int}
theorem ab_no (ha:∀w∈c.ab,alQ (noP x) w) (i:Nat):alQ (noP x) (c.ab.getD i []):=by
 by_cases h:i < c.ab.length
 ·rw [Zeh h];exact ha _ (ZB0 h)
 ·rw [ZB8,ZDb zo];exact alQ.emp
theorem ZBa (ha:∀w∈c.ab,alQ (noP x) w) (hp:∀y∈c.ps,x≠y) (h1:x≠p.q) (h2:x≠p.r):∀i,i≤c.ps.length→alQ (noP x) (afS c p i)
 | 0,_=>alQ.emp
 | i+1,hi=>(ZBa ha hp h1 h2 i zo).join ((ab_no ha i).mul (at_no h1 h2 (by rw [Zg2 (show i < c.ps.length by omega)];exact hp _ (ZB0 _))))
theorem prT_no (ha:∀w∈c.ab,alQ (noP x) w) (hp:∀y∈c.ps,x≠y) {i j:Nat} (hi:i < c.ps.length) (hj:j < c.ps.length):alQ (noP x) (prT c i j):=by
 have g:∀{i:Nat},i < c.ps.length→x≠gI c.ps i:=λh=>by rw [Zg2 h];exact hp _ (ZB0 _)
 exact((ab_no ha i).mul (ab_no ha j)).mul (p_no (g hi) (g hj) (g hi))
theorem in2_no (ha:∀w∈c.ab,alQ (noP x) w) (hp:∀y∈c.ps,x≠y) {i:Nat} {acc:QTs} (hc:alQ (noP x) acc):∀d,i+d < c.ps.length→alQ (noP x) (in2 c i acc d)
 | 0,_=>hc
 | d+1,h=>(in2_no ha hp hc d zo).sub (prT_no ha hp zo zo)
theorem Zyi (ha:∀w∈c.ab,alQ (noP x) w) (hp:∀y∈c.ps,x≠y) {acc:QTs} (hc:alQ (noP x) acc):∀i,i≤c.ps.length→alQ (noP x) (out2 c c.ps.length acc i)
 | 0,_=>hc
 | i+1,h=>in2_no ha hp (Zyi ha hp hc i zo) _ zo
theorem afN_no (ha:∀w∈c.ab,alQ (noP x) w) (hb:alQ (noP x) c.be) (hp:∀y∈c.ps,x≠y) (h1:x≠p.q) (h2:x≠p.r):alQ (noP x) (afN c p):=by
 unfold afN;split
 ·exact Zyi ha hp (hb.mul (ZBa ha hp h1 h2 _ (ZBp _))) _ (ZBp _)
 ·exact ZBa ha hp h1 h2 _ (ZBp _)
theorem afD_no (hb:alQ (noP x) c.be):alQ (noP x) (afD c p):=by
 unfold afD;split
 ·exact hb.mul hb
 ·exact hb
theorem afD_ne (he:EX c.be) (h0:c.be≠[]):afD c p≠[]:=by
 unfold afD;split
 ·exact mul_ne he he h0 h0
 ·exact h0
theorem tu_no {s a b:Int} (h1:x≠p.q) (h2:x≠p.r) (hs:x≠s) (ha:x≠a) (hb:x≠b):alQ (noP x) (tuX s a b p):=by
 have nn:∀u:Rat,alQ (noP x) (nX u):=λu=>ZAo u;unfold tuX;split
 ·exact(a_no hs h1 h2).join ((nn _).mul ((p_no h2 h1 hb).sub (p_no h2 h1 ha)))
 ·split
  ·exact(p_no h1 hs h2).join ((p_no ha hb ha).sub ((nn _).mul (((a_no ha hb h1).join (a_no ha hb h2)).sub ((nn _).mul (a_no ha hb hs)))))
  ·exact(p_no hs h1 h2).join ((nn _).mul ((a_no ha hb h2).sub (a_no ha hb h1)))
end
theorem Zf7 {α:Type} {P:List α→Prop} (h0:P []) (h1:∀l a,P l→P (l++[a])):∀l,P l:=λl=>by
 have h:∀l:List α,P l.reverse:=λl=>by
  induction l with
  | nil=>exact h0
  | cons a l ih=>rw [List.reverse_cons];exact h1 _ _ ih
 have g:=h l.reverse
 rwa [List.reverse_reverse] at g
theorem Zqu {q:Qt} {l:List Qt}:tmQ q l=0↔q ∉ l:=by
 unfold tmQ;rw [List.length_eq_zero_iff,List.filter_eq_nil_iff];constructor
 ·intro h hq;exact h q hq zs
 ·intro h x hx hd;have:x=q:=by simpa using hd
  exact h (this ▸ hx)
def hvS (x:Int) (s:List Qt × List Qt) (q:Qt):List Qt × List Qt:=(s.1++[q],if tmQ q s.1=0∧hasQ x q=true then s.2++[q] else s.2)
def hvP (x:Int) (l:List Qt):List Qt:=(l.foldl (hvS x) ([],[])).2
def hvR (x:Int) (o:List Qt) (q:Qt):List Qt:=if hasQ x q=true∧tmQ q o=0 then putQ Qt.cmp o q else o
def hvL (x:Int) (l:List Qt):List Qt:=l.foldl (hvR x) []
theorem Zzp (x:Int):∀(l:List Qt) (s:List Qt × List Qt),(l.foldl (hvS x) s).1=s.1++l
 | [],s=>(ZC4 _).symm
 | q :: l,s=>by rw [ZGh,Zzp x l];show(s.1++[q])++l=_;rw [ZCz];rfl
theorem Ziw (x:Int) (l:List Qt) (q:Qt):hvP x (l++[q])=if tmQ q l=0∧hasQ x q=true then hvP x l++[q] else hvP x l:=by
 unfold hvP;rw [ZFp];show(hvS x (l.foldl (hvS x) ([],[])) q).2=_;unfold hvS;simp only;have h:=Zzp x l ([],[]);rw [ZF3] at h;unfold hvS at h;rw [h]
theorem Zt7 (x:Int) (l:List Qt) (q:Qt):hvL x (l++[q])=hvR x (hvL x l) q:=by
 unfold hvL;rw [ZFp];rfl
theorem Zy5 {x:Int} {q:Qt}:∀l,q∈hvP x l↔q∈l∧hasQ x q=true:=by
 refine Zf7 ?_ λl a ih=>?_
 ·show q∈([]:List Qt)↔_;simp
 ·rw [Ziw,ZEz,ZFa];split
  ·rename_i h;rw [ZEz,ZFa,ih];constructor
   ·rintro (⟨h1,h2⟩ | h1)
    ·exact⟨.inl h1,h2⟩
    ·exact⟨.inr h1,h1 ▸ h.2⟩
   ·rintro ⟨h1 | h1,h2⟩
    ·exact .inl ⟨h1,h2⟩
    ·exact .inr h1
  ·rename_i h;rw [ih];constructor
   ·rintro ⟨h1,h2⟩;exact⟨.inl h1,h2⟩
   ·rintro ⟨h1 | h1,h2⟩
    ·exact⟨h1,h2⟩
    ·subst h1;refine⟨Classical.byContradiction λh3=>h ⟨Zqu.2 h3,h2⟩,h2⟩
theorem Zr8 {x:Int}:∀l,(hvP x l).Perm (hvL x l):=by
 refine Zf7 (List.Perm.refl _) λl a ih=>?_;rw [Ziw,Zt7];unfold hvR
 have e:tmQ a l=0∧hasQ x a=true↔hasQ x a=true∧tmQ a (hvL x l)=0:=by
  rw [Zqu,Zqu,←ih.mem_iff,Zy5];constructor
  ·rintro ⟨h1,h2⟩;exact⟨h2,λh=>h1 h.1⟩
  ·rintro ⟨h1,h2⟩;exact⟨λh=>h2 ⟨h,h1⟩,h1⟩
 by_cases h:tmQ a l=0∧hasQ x a=true
 ·rw [ZBo h,ZBo (e.1 h)];exact((ih.append_right _).trans List.perm_append_comm).trans (Zfs a _).symm
 ·rw [ZBn h,ZBn λg=>h (e.2 g)];exact ih
theorem hvL_asc {x:Int}:∀l,Asc Qt.cmp (hvL x l):=by
 refine Zf7 List.Pairwise.nil λl a ih=>?_;rw [Zt7];unfold hvR;split
 ·exact Zkd qtO.cp a ih
 ·exact ih
theorem hv_eq (x:Int) (l:List Qt):srtQ Qt.cmp (hvP x l)=hvL x l:=Ze6 qtO (Zb5 qtO.cp _) (hvL_asc l) ((Za3 _).trans (Zr8 l))
theorem Zr1 {x:Int} {q:Qt} {l:List Qt}:q∈hvL x l↔q∈l∧hasQ x q=true:=by rw [←(Zr8 l).mem_iff,Zy5]
theorem Zr9 (x:Int):∀l,(hvP x l).length≤l.length:=by
 refine Zf7 (ZBp _) λl a ih=>?_;rw [Ziw,ZCh];split
 ·rw [ZCh];exact Nat.add_le_add_right ih _
 ·omega
theorem Zzq (x:Int) (l:List Qt):(hvL x l).length≤l.length:=by rw [←(Zr8 l).length_eq];exact Zr9 x l
def flQ (p:QTs):List Qt:=p.flatMap λt=>t.2
theorem Znt {p:QTs} {q:Qt}:q∈flQ p↔∃t∈p,q∈t.2:=List.mem_flatMap
def rsX (p q:QTs):Nat→QTs
 | 0=>p
 | n+1=>mulX (rsX p q n) q
theorem rs_pw {p q:QTs} (hp:EX p) (hq:EX q):∀n,rsX p q n=mulX p (pwX q n)
 | 0=>(Zy3 rgQ hp).symm
 | n+1=>by
   show mulX (rsX p q n) q=mulX p (mulX (pwX q n) q);rw [rs_pw hp hq n];exact Zip rgQ hp (Zh4 rgQ hq n) hq
abbrev XX:=QTs × QTs
def elS (q:Qt) (b x:XX):XX:=(mulX (rpN q x.1 b.1 b.2) (pwX b.2 (moQ q x.2 - moQ q x.1)),mulX (rpN q x.2 b.1 b.2) (pwX b.2 (moQ q x.1 - moQ q x.2)))
def elF (lem:Qt→Int × XX):List Qt→XX→Int × XX
 | [],x=>(0,x)
 | q :: l,x =>
   if (lem q).1≠0 then ((lem q).1,([],[]))
   else if 4000 < (elS q (lem q).2 x).1.length∨4000 < (elS q (lem q).2 x).2.length then (4,([],[]))
   else elF lem l (elS q (lem q).2 x)
def elT (r:Int × XX):Int × XX :=
 if r.1≠0 then (r.1,([],[]))
 else if r.2.2=[] then (3,([],[]))
 else if r.2.1=[] then (0,([],[((1:Rat),[])]))
 else (0,r.2)
def cntX (x:Int) (c:Nat) (p:QTs):Prop:=∀t∈p,(t.2.filter λq=>hasQ x q).length≤c
section
variable {x:Int} {c d:Nat} {p q:QTs}
theorem cntX.mono (h:cntX x c p) (hc:c≤d):cntX x d p:=λt ht=>ZBv (h t ht) hc
theorem cntX.join (hp:cntX x c p) (hq:cntX x c q):cntX x c (Za1 p q):=λt ht=>by
 obtain⟨s,hs,e⟩:=Ziq ht;rw [e];rcases List.mem_append.1 hs with h | h
 ·exact hp s h
 ·exact hq s h
theorem cntX.gat {l:QTs} (h:cntX x c l):cntX x c (gatM l):=by
 rw [←Zrv];intro t ht;exact Zjl (P:=λy=>(y.filter λq=>hasQ x q).length≤c) l [] (λt ht=>by cases ht) h t (List.mem_filter.1 ((Za3 _).mem_iff.1 ht)).1
theorem cntX.mul (hp:cntX x c p) (hq:cntX x d q):cntX x (c+d) (mulX p q):=cntX.gat λu hu=>by
 obtain⟨s,hs,t,ht,rfl⟩:=Zft hu;show((muQ s.2 t.2).filter _).length≤_;rw [((Za3 (cmp:=Qt.cmp) (s.2++t.2)).filter _).length_eq,ZEh,ZCh];exact ZC2 (hp s hs) (hq t ht)
theorem cntX.part {a:QTs} (h:cntX x c a) (q:Qt) (k:Nat):cntX x c (paQ q a k):=cntX.gat λu hu=>by
 obtain⟨t,ht,rfl⟩:=Zjx hu;refine ZBv ?_ (h t ht);show((woQ q t.2).filter _).length≤_;exact((List.filter_sublist (p:=λx=>decide (x≠q)) (l:=t.2)).filter _).length_le
theorem Zul (h:alQ (noP x) p):cntX x 0 p:=λt ht=>by
 rw [List.filter_eq_nil_iff.2 λq hq=>by rw [h t ht q hq];decide];exact ZBp _
theorem cntX.rf {P:Nat→QTs} {a d:QTs} (hP:∀k,cntX x c (P k)) (ha:alQ (noP x) a) (hd:alQ (noP x) d) (m:Nat):∀i,cntX x c (rfX P a d m i)
 | 0=>λt ht=>by cases ht
 | i+1=>(cntX.rf hP ha hd m i).join (((hP i).mul (Zul (ha.pw i))).mul (Zul (hd.pw (m - i))))
theorem tm_cnt {q:Qt} (hq:hasQ x q=true) (l:List Qt):tmQ q l≤(l.filter λq=>hasQ x q).length:=by
 unfold tmQ
 induction l with
 | nil=>exact ZBp _
 | cons a l ih =>
   by_cases h:a=q
   ·subst h;rw [ZE7 zs,ZE7 (by simpa using hq),ZB2,ZB2];omega
   ·rw [ZE6 (by simpa using h),ZEv];split
    ·rw [ZB2];omega
    ·exact ih
theorem mo_cnt {q:Qt} (hq:hasQ x q=true) {a:QTs} (h:cntX x c a):moQ q a≤c:=by
 have key:∀(a:QTs) (n:Nat),n≤c→(∀t∈a,tmQ q t.2≤c)→a.foldl (λn t=>max n (tmQ q t.2)) n≤c:=by
  intro a
  induction a with
  | nil=>intro n hn _;exact hn
  | cons t a ih=>intro n hn h;exact ih _ (Nat.max_le.2 ⟨hn,h t (.head _)⟩) λu hu=>h u (.tail _ hu)
 exact key a 0 (ZBx _) λt ht=>ZBv (tm_cnt hq t.2) (h t ht)
end
theorem Zyd {C:Qt→Prop} {a:QTs} (h:alQ C a) (q:Qt) (k:Nat):alQ (λu=>C u∧u≠q) (paQ q a k):=alQ.gat λu hu x hx=>by
 obtain⟨t,ht,rfl⟩:=Zjx hu;have g:=List.mem_filter.1 hx;exact⟨h t ht x g.1,by simpa using g.2⟩
theorem alQ.imp {C D:Qt→Prop} {p:QTs} (h:alQ C p) (g:∀q,C q→D q):alQ D p:=λt ht q hq=>g q (h t ht q hq)
theorem el_al {C:Qt→Prop} {x:Int} {q:Qt} {b y:XX} (h1:alQ C y.1) (h2:alQ C y.2) (hb:alQ (noP x) b.1) (hd:alQ (noP x) b.2) :
 alQ (λu=>C u∧u≠q∨noP x u) (elS q b y).1∧alQ (λu=>C u∧u≠q∨noP x u) (elS q b y).2:=by
 have g1:=hb.imp (D:=λu=>C u∧u≠q∨noP x u) λu h=>.inr h;have g2:=hd.imp (D:=λu=>C u∧u≠q∨noP x u) λu h=>.inr h;exact⟨(alQ.rf (λk=>(Zyd h1 q k).imp λu h=>.inl h) g1 g2 _ _).mul (g2.pw _),(alQ.rf (λk=>(Zyd h2 q k).imp λu h=>.inl h) g1 g2 _ _).mul (g2.pw _)⟩
theorem el_cnt {c:Nat} {x:Int} {q:Qt} {b y:XX} (h1:cntX x c y.1) (h2:cntX x c y.2) (hb:alQ (noP x) b.1) (hd:alQ (noP x) b.2):cntX x c (elS q b y).1∧cntX x c (elS q b y).2 :=
 ⟨(cntX.rf (λk=>h1.part q k) hb hd _ _).mul (Zul (hd.pw _)),(cntX.rf (λk=>h2.part q k) hb hd _ _).mul (Zul (hd.pw _))⟩
theorem el_xb {x:Int} {q:Qt} {b y:XX} {k n kb nb:Nat} (h1:XB y.1 k n) (h2:XB y.2 k n) (hb:XB b.1 kb nb) (hd:XB b.2 kb nb) (m1:moQ q y.1≤2) (m2:moQ q y.2≤2) :
 XB (elS q b y).1 (k+2+6*kb) (n+4*nb)∧XB (elS q b y).2 (k+2+6*kb) (n+4*nb):=by
 have key:∀{p:QTs} {i:Nat},XB p k n→moQ q p≤2→i≤2→XB (mulX (rpN q p b.1 b.2) (pwX b.2 i)) (k+2+6*kb) (n+4*nb):=by
  intro p i hp hm hi;have g:=(rf_xb hp hb hd q (moQ q p) (moQ q p+1) zo (ZBp _)).mul (hd.pw i);have e1:moQ q p*(2*kb)≤2*(2*kb):=ZB7 _ hm;have e2:moQ q p*nb≤2*nb:=ZB7 _ hm;have e3:i*kb≤2*kb:=ZB7 _ hi;have e4:i*nb≤2*nb:=ZB7 _ hi;exact g.mono zo zo
 exact⟨key h1 m1 zo,key h2 m2 zo⟩
theorem Zja (q:Qt):(ofX q).length≤1:=by unfold ofX;split<;>simp
theorem Zee (p q:QTs):(subX p q).length≤p.length+q.length:=ZBv (Zet _ _) (by rw [Zcy];exact ZBp _)
theorem Zmi {p q:QTs} {i j:Nat} (hp:p.length≤i) (hq:q.length≤j):(mulX p q).length≤i*j:=ZBv (Zd1 p q) (ZCy hp hq)
theorem Zsx {p:QTs} {i:Nat} (h:p.length≤i):(twX p).length≤i:=by have:=Zmi (Zi1 2) h;rwa [ZDr] at this
theorem at_len (p:Pl) (x:Int):(p.at x).length≤1:=by
 unfold Pl.at;split
 ·exact Zja _
 ·split<;>exact Zja _
def CbL (c:Cb):Prop :=
 c.be.length≤3∧((∃u v,c.ab=[u,v]∧c.ps.length=2∧u.length+v.length≤4∧c.be.length*(u.length+v.length)+u.length*v.length≤12) ∨
  (∃u v w,c.ab=[u,v,w]∧c.ps.length=3∧u.length+v.length+w.length≤4∧c.be.length*(u.length+v.length+w.length)+u.length*v.length+u.length*w.length+v.length*w.length≤12))
theorem cl2 {ps:List Int} {u v b:QTs} {i j m:Nat} (hp:ps.length=2) (hu:u.length≤i) (hv:v.length≤j) (hb:b.length≤m) (h1:m≤3) (h2:i+j≤4) (h3:m*(i+j)+i*j≤12):CbL ⟨ps,[u,v],b⟩:=by
 refine⟨ZBv hb h1,.inl ⟨u,v,rfl,hp,zo,?_⟩⟩;exact ZBv (ZC2 (ZCy hb (ZC2 hu hv)) (ZCy hu hv)) h3
theorem cl3 {ps:List Int} {u v w b:QTs} {i j k m:Nat} (hp:ps.length=3) (hu:u.length≤i) (hv:v.length≤j) (hw:w.length≤k) (hb:b.length≤m) (h1:m≤3) (h2:i+j+k≤4) (h3:m*(i+j+k)+i*j+i*k+j*k≤12):CbL ⟨ps,[u,v,w],b⟩:=by
 refine⟨ZBv hb h1,.inr ⟨u,v,w,rfl,hp,zo,?_⟩⟩;exact ZBv (ZC2 (ZC2 (ZC2 (ZCy hb (ZC2 (ZC2 hu hv) hw)) (ZCy hu hv)) (ZCy hu hw)) (ZCy hv hw)) h3
theorem cb_len {k t:Int} {a:List Int} {r:Rat} {c:Cb} (h:cbOf k a r t=some c) (h3:k=3∨k=11→a.length=3):CbL c:=by
 have o:=Zja;have n1:∀u,(nX u).length≤1:=λu=>Zi1 u;have ct:∀p q r,(ctW p q r).length≤1:=λp q r=>Zmi (o _) (o _);unfold cbOf at h;split at h
 ·cases h;exact cl2 (i:=2) (j:=1) (m:=1) rfl (ZBv (Zee _ _) (ZC2 (n1 _) (n1 _))) (n1 _) (n1 _) zd zd zd
 split at h
 ·rename_i hk;cases h;exact cl3 (i:=1) (j:=1) (k:=1) (m:=1) (h3 (.inl hk)) (n1 _) (n1 _) (n1 _) (n1 _) zd zd zd
 split at h
 ·cases h;exact cl2 (i:=2) (j:=1) (m:=1) rfl (ZBv (Zee _ _) (ZC2 (n1 _) (o _))) (o _) (n1 _) zd zd zd
 split at h
 ·cases h;have hs:=ZBv (Zee (aX (gI a 0) (gI a 2) (gI a 3)) (aX (gI a 1) (gI a 2) (gI a 3))) (ZC2 (o _) (o _));exact cl2 (i:=3) (j:=1) (m:=2) rfl (ZBv (Zee _ _) (ZC2 hs (o _))) (o _) hs zd zd zd
 split at h
 ·cases h;exact cl2 (i:=2) (j:=1) (m:=1) rfl (ZBv (Zee _ _) (ZC2 (o _) (o _))) (o _) (o _) zd zd zd
 split at h
 ·cases h;exact cl3 (i:=2) (j:=1) (k:=1) (m:=1) rfl (Zsx (ZBv (Zee _ _) (ZC2 (o _) (o _)))) (Zsx (o _)) (ZBv (Zee _ _) (ZC2 (ZBp 0) (o _))) (o _) zd zd zd
 split at h
 ·cases h;exact cl2 (i:=2) (j:=1) (m:=1) rfl (ZBv (Zee _ _) (ZC2 (o _) (Zsx (o _)))) (Zsx (o _)) (o _) zd zd zd
 split at h
 ·rename_i hk;cases h;exact cl3 (i:=1) (j:=1) (k:=1) (m:=3) (h3 (.inr hk)) (ct _ _ _) (ct _ _ _) (ct _ _ _) (ZBv (Zet _ _) (ZC2 (ZBv (Zet _ _) (ZC2 (ct _ _ _) (ct _ _ _))) (ct _ _ _))) zd zd zd
 ·cases h
theorem Zfp (c:Cb) (p:Pl) (i:Nat):(afS c p (i+1)).length≤(afS c p i).length+(c.ab.getD i []).length :=
 ZBv (Zet _ _) (Nat.add_le_add_left (by have:=Zmi (ZBp (c.ab.getD i []).length) (at_len p (gI c.ps i));rwa [ZEb] at this) _)
theorem Znl (c:Cb) (i j:Nat):(prT c i j).length≤(c.ab.getD i []).length*(c.ab.getD j []).length:=by
 have:=Zmi (Zd1 (c.ab.getD i []) (c.ab.getD j [])) (Zja ⟨2,gI c.ps i,gI c.ps j,gI c.ps i⟩)
 rwa [ZEb] at this
theorem af_len {c:Cb} (p:Pl) (h:CbL c):(afN c p).length≤12∧(afD c p).length≤9:=by
 obtain⟨hb,h⟩:=h;refine⟨?_,?_⟩
 ·rcases h with⟨u,v,e,hp,h1,h2⟩ | ⟨u,v,w,e,hp,h1,h2⟩
  ·have s1:=Zfp c p 0;have s2:=Zfp c p 1;rw [e] at s1 s2;have s0:(afS c p 0).length=0:=rfl;have s1:(afS c p 1).length≤(afS c p 0).length+u.length:=s1;have s2:(afS c p 2).length≤(afS c p 1).length+v.length:=s2;unfold afN;rw [hp];split
   ·have t1:=Znl c 0 1;rw [e] at t1;have t1:(prT c 0 1).length≤u.length*v.length:=t1;have m1:(mulX c.be (afS c p 2)).length≤c.be.length*(u.length+v.length):=ZBv (Zd1 _ _) (ZDw _ zo);have g:=Zee (mulX c.be (afS c p 2)) (prT c 0 1);show(subX (mulX c.be (afS c p 2)) (prT c 0 1)).length≤12;omega
   ·omega
  ·have s1:=Zfp c p 0;have s2:=Zfp c p 1;have s3:=Zfp c p 2;rw [e] at s1 s2 s3;have s0:(afS c p 0).length=0:=rfl;have s1:(afS c p 1).length≤(afS c p 0).length+u.length:=s1;have s2:(afS c p 2).length≤(afS c p 1).length+v.length:=s2;have s3:(afS c p 3).length≤(afS c p 2).length+w.length:=s3;unfold afN;rw [hp];split
   ·have t1:=Znl c 0 1;have t2:=Znl c 0 2;have t3:=Znl c 1 2;rw [e] at t1 t2 t3;have t1:(prT c 0 1).length≤u.length*v.length:=t1;have t2:(prT c 0 2).length≤u.length*w.length:=t2;have t3:(prT c 1 2).length≤v.length*w.length:=t3;have m1:(mulX c.be (afS c p 3)).length≤c.be.length*(u.length+v.length+w.length):=ZBv (Zd1 _ _) (ZDw _ zo);have g1:=Zee (mulX c.be (afS c p 3)) (prT c 0 1);have g2:=Zee (subX (mulX c.be (afS c p 3)) (prT c 0 1)) (prT c 0 2);have g3:=Zee (subX (subX (mulX c.be (afS c p 3)) (prT c 0 1)) (prT c 0 2)) (prT c 1 2);show(subX (subX (subX (mulX c.be (afS c p 3)) (prT c 0 1)) (prT c 0 2)) (prT c 1 2)).length≤12
    omega
   ·omega
 ·unfold afD;split
  ·exact ZBv (Zmi hb hb) zd
  ·omega
def lmX (k:Int) (a:List Int) (r:Rat) (t x:Int) (q:Qt):Int × XX :=
 if q.norm.2=0∨hasQ x q.norm.1=false then (0,(ofX q,[((1:Rat),[])]))
 else if k=4 then (0,(sclT (q.norm.2:Rat) (tuX (gI a 0) (gI a 1) (gI a 2) (plOf q.norm.1 x)),[((1:Rat),[])]))
 else match cbOf k a r t with
  | none=>(8,([],[]))
  | some c=>if c.be=[] then (3,([],[])) else (0,(sclT (q.norm.2:Rat) (afN c (plOf q.norm.1 x)),afD c (plOf q.norm.1 x)))
structure LmOk (x:Int) (b:XX):Prop where
 xn:XB b.1 245 5
 xd:XB b.2 245 5
 ln:b.1.length≤12
 ld:b.2.length≤12
 nn:alQ (noP x) b.1
 nd:alQ (noP x) b.2
 ne:b.2≠[]
structure StA (k t x n:Int) (a:List Int) (r:Rat):Prop where
 n40:n≤40
 sz:Sz r 2
 rg:∀i,i < a.length→0≤gI a i∧gI a i < n
 lt:∀i,i < a.length→gI a i < x
 tr:0≤t∧t < 64
 l:(k=3→a.length=3)∧(k=11→a.length=3)∧(k=2∨k=5→2≤a.length)∧(k=7∨k=8∨k=10→3≤a.length)∧(k=9→4≤a.length)
 l4:k=4→a.length=3
theorem Zto {q:Qt} {n:Int} (hs:q.norm.2≠0) (h:0≤q.norm.1.a∧q.norm.1.a < n∧0≤q.norm.1.b∧q.norm.1.b < n∧0≤q.norm.1.c∧q.norm.1.c < n) (x:Int):PlOk (plOf q.norm.1 x) n:=pl_ok ⟨h.1,h.2.1⟩ ⟨h.2.2.1,h.2.2.2.1⟩ ⟨h.2.2.2.2.1,h.2.2.2.2.2⟩
theorem alQ.sg {C:Qt→Prop} {p:QTs} (h:alQ C p) (s:Int):alQ C (sclT (s:Rat) p):=h.scl _
theorem xb_sg {p:QTs} {k n:Nat} (h:XB p k n) {s:Int} (hs:s=-1∨s=1):XB (sclT (s:Rat) p) k n:=by
 rcases hs with rfl | rfl
 ·exact h.neg
 ·show XB (sclT 1 p) k n;rw [Zi9];exact h
theorem one_no (x:Int):alQ (noP x) [((1:Rat),[])]:=λt ht q hq=>by rw [List.mem_singleton.1 ht] at hq;cases hq
theorem lm_ok {k t x n:Int} {a:List Int} {r:Rat} {q:Qt} (hs:StA k t x n a r) (hq:q.ok=true)
 (hp:q.norm.2≠0→hasQ x q.norm.1=true→0≤q.norm.1.a∧q.norm.1.a < n∧0≤q.norm.1.b∧q.norm.1.b < n∧0≤q.norm.1.c∧q.norm.1.c < n) (h0:(lmX k a r t x q).1=0):LmOk x (lmX k a r t x q).2:=by
 have one:XB [((1:Rat),[])] 245 5:=Zol.mono zd zd;unfold lmX at *;split
 ·rename_i h;have ho:=Zdg hq;refine⟨ho.x.mono zd zd,one,ZBv (Zja q) zd,by show 1≤12;decide,?_,one_no x,by simp⟩;unfold ofX;split
  ·exact alQ.emp
  ·rename_i h1;rcases h with h | h
   ·exact absurd h h1
   ·intro u hu v hv;rw [List.mem_singleton.1 hu] at hv;rw [List.mem_singleton.1 hv];exact h
 ·rename_i h;rw [ZBn h] at h0;have h1:q.norm.2≠0:=λg=>h (.inl g)
  have h2:hasQ x q.norm.1=true:=by
   cases g:hasQ x q.norm.1 with
   | true=>rfl
   | false=>exact absurd (.inr g) h
  have hsg:q.norm.2=-1∨q.norm.2=1:=by
   rcases Zgx q with g | g | g
   ·exact .inl g
   ·exact absurd g h1
   ·exact .inr g
  have hpl:=Zto h1 (hp h1 h2) x;obtain⟨n1,n2,_⟩:=pl_no (Zyv hq h1) h2;have hxa:∀i,i < a.length→x≠gI a i:=λi hi=>by have:=hs.lt i hi;omega
  split
  ·rename_i hk;have l4:=hs.l4 hk;have g:=tu_xl hpl hs.n40 (hs.rg 0 zo) (hs.rg 1 zo) (hs.rg 2 zo);refine⟨xb_sg (g.x.mono zd zd) hsg,one,by show(sclT _ _).length≤_;rw [Zcy];exact ZBv g.l zd,by show 1≤12;decide,(tu_no n1 n2 (hxa 0 zo) (hxa 1 zo) (hxa 2 zo)).sg _,one_no x,by simp⟩
  ·rename_i hk;rw [ZBn hk] at h0
   cases hc:cbOf k a r t with
   | none=>rw [hc] at h0;exact absurd (show(8:Int)=0 from h0) zd
   | some c =>
     rw [hc] at h0;simp only at h0 ⊢;by_cases hb:c.be=[]
     ·rw [ZBo hb] at h0;exact absurd h0 zd
     ·rw [ZBn hb];have ok:=cb_ok hc hs.sz hs.rg hs.n40 hs.tr hs.l
      have hx0:x≠0∨4≤a.length:=by
       have hl:0 < a.length:=by
        rcases ZCv a.length with g | g
        ·obtain⟨l3,l11,l2,l7,l9⟩:=hs.l;exfalso;unfold cbOf at hc;split at hc
         ·have:=l2 (.inl ‹_›);omega
         split at hc
         ·have:=l3 ‹_›;omega
         split at hc
         ·have:=l2 (.inr ‹_›);omega
         split at hc
         ·have:=l9 ‹_›;omega
         split at hc
         ·have:=l7 (.inl ‹_›);omega
         split at hc
         ·have:=l7 (.inr (.inl ‹_›));omega
         split at hc
         ·have:=l7 (.inr (.inr ‹_›));omega
         split at hc
         ·have:=l11 ‹_›;omega
         ·cases hc
        ·exact g
       have:=hs.lt 0 hl;have:=hs.rg 0 hl;exact .inl zo
      obtain⟨c1,c2,c3⟩:=cb_no hc hxa hx0 hs.l;have hl:=af_len (plOf q.norm.1 x) (cb_len hc (λg=>by rcases g with g | g;exact hs.l.1 g;exact hs.l.2.1 g));have an:=afN_xl ok hpl hs.n40;have ad:=afD_xl (p:=plOf q.norm.1 x) ok;exact⟨xb_sg (an.x.mono zd zd) hsg,ad.x.mono zd zd,by show(sclT _ _).length≤_;rw [Zcy];exact hl.1,ZBv hl.2 zd,(afN_no c1 c2 c3 n1 n2).sg _,afD_no c2,afD_ne ok.be.x.1 hb⟩
structure EI (x:Int) (l:List Qt) (K N:Nat) (y:XX):Prop where
 x1:XB y.1 K N
 x2:XB y.2 K N
 l1:y.1.length≤4000
 l2:y.2.length≤4000
 c1:cntX x 2 y.1
 c2:cntX x 2 y.2
 a1:alQ (λu=>hasQ x u=true→u∈l) y.1
 a2:alQ (λu=>hasQ x u=true→u∈l) y.2
theorem EI.mo {x:Int} {l:List Qt} {K N:Nat} {y:XX} (h:EI x l K N y) {q:Qt} (hq:hasQ x q=true):moQ q y.1≤2∧moQ q y.2≤2:=⟨mo_cnt hq h.c1,mo_cnt hq h.c2⟩
theorem EI.step {x:Int} {l:List Qt} {K N:Nat} {y b:XX} {q:Qt} (h:EI x (q :: l) K N y) (hq:hasQ x q=true) (hb:LmOk x b) (l1:(elS q b y).1.length≤4000) (l2:(elS q b y).2.length≤4000) :
 EI x l (K+1472) (N+20) (elS q b y):=by
 obtain⟨m1,m2⟩:=h.mo hq;obtain⟨e1,e2⟩:=el_xb (x:=x) h.x1 h.x2 hb.xn hb.xd m1 m2;obtain⟨c1,c2⟩:=el_cnt (q:=q) h.c1 h.c2 hb.nn hb.nd;obtain⟨a1,a2⟩:=el_al (q:=q) h.a1 h.a2 hb.nn hb.nd
 have key:∀u,((hasQ x u=true→u∈q :: l)∧u≠q∨noP x u)→hasQ x u=true→u∈l:=by
  intro u hu hx;rcases hu with⟨h1,h2⟩ | h1
  ·rcases List.mem_cons.1 (h1 hx) with h3 | h3
   ·exact absurd h3 h2
   ·exact h3
  ·rw [h1] at hx;exact absurd hx zd
 exact⟨e1.mono zo zo,e2.mono zo zo,l1,l2,c1,c2,a1.imp key,a2.imp key⟩
theorem EI.fin {x:Int} {K N:Nat} {y:XX} (h:EI x [] K N y):alQ (noP x) y.1∧alQ (noP x) y.2:=by
 have key:∀u,(hasQ x u=true→u∈([]:List Qt))→noP x u:=λu hu=>by
  cases g:hasQ x u with
  | false=>exact g
  | true=>cases hu g
 exact⟨h.a1.imp key,h.a2.imp key⟩
theorem EI.beg {x:Int} {K N:Nat} {n d:QTs} (h1:XB n K N) (h2:XB d K N) (l1:n.length≤4000) (l2:d.length≤4000) (c1:∀t∈n,t.2.length≤2) (c2:∀t∈d,t.2.length≤2):EI x (hvL x (flQ n++flQ d)) K N (n,d) :=
 ⟨h1,h2,l1,l2,λt ht=>ZBv (ZGa _ _) (c1 t ht),λt ht=>ZBv (ZGa _ _) (c2 t ht),
  λt ht q hq hx=>Zr1.2 ⟨List.mem_append.2 (.inl (Znt.2 ⟨t,ht,hq⟩)),hx⟩,λt ht q hq hx=>Zr1.2 ⟨List.mem_append.2 (.inr (Znt.2 ⟨t,ht,hq⟩)),hx⟩⟩
theorem rs_len {d:QTs} {L:Nat} (hd:d.length≤L) (p:QTs):∀i,(rsX p d i).length≤p.length*L ^ i
 | 0=>by rw [ZFj,ZEb];exact ZBp _
 | i+1=>ZBv (Zmi (rs_len hd p i) hd) (by rw [ZC0,ZC1];exact ZBp _)
theorem Zxk {q:Qt} {p:QTs} {b:XX} (lp:p.length≤4000) (l1:b.1.length≤12) (l2:b.2.length≤12) {i:Nat} (hm:moQ q p+i≤2):(rsX (rpN q p b.1 b.2) b.2 i).length≤1728000:=by
 refine ZBv (rs_len l2 _ i) ?_;have g:=rf_len (P:=paQ q p) (LP:=4000) (λk=>ZBv (pa_len q p k) lp) l1 l2 (moQ q p) (moQ q p+1) (ZBp _);refine ZBv (ZB7 _ g) ?_;generalize moQ q p=m at hm;have hh:(m=0∧i=0)∨(m=0∧i=1)∨(m=0∧i=2)∨(m=1∧i=0)∨(m=1∧i=1)∨(m=2∧i=0):=zo;rcases hh with⟨rfl,rfl⟩ | ⟨rfl,rfl⟩ | ⟨rfl,rfl⟩ | ⟨rfl,rfl⟩ | ⟨rfl,rfl⟩ | ⟨rfl,rfl⟩<;>decide
theorem rs_xb {q:Qt} {p:QTs} {b:XX} {k n kb nb i:Nat} (hp:XB p k n) (hb:XB b.1 kb nb) (hd:XB b.2 kb nb) (hm:moQ q p≤2) (hi:i≤2):XB (rsX (rpN q p b.1 b.2) b.2 i) (k+2+6*kb) (n+4*nb):=by
 have g0:=rf_xb hp hb hd q (moQ q p) (moQ q p+1) zo (ZBp _);rw [rs_pw g0.1 hd.1];have g:=g0.mul (hd.pw i);have e1:moQ q p*(2*kb)≤2*(2*kb):=ZB7 _ hm;have e2:moQ q p*nb≤2*nb:=ZB7 _ hm;have e3:i*kb≤2*kb:=ZB7 _ hi;have e4:i*nb≤2*nb:=ZB7 _ hi;exact g.mono zo zo
def vwX (n:Qt) (x:Int):Int × Int × Bool :=
 if n.k=2∧n.a=n.c then (n.a+n.b - x,n.a+n.b - x,true)
 else if x=n.b then (if n.k=1 then (n.c,n.a,false) else (n.a,n.c,true))
 else if x=n.a then (n.b,n.c,false)
 else if n.k=1 then (n.a,n.b,false) else (n.b,n.a,false)
def prS (s:Int × Int) (k:Int):Int × Int:=if k=1 then (s.1+min s.2 2,s.2+1) else if k=5∨k=6 then (s.1+1,s.2) else s
def prN (ks:List Int):Int × Int:=ks.foldl prS (0,0)
theorem Ztk (ks:List Int) (k:Int):prN (ks++[k])=prS (prN ks) k:=by unfold prN;rw [ZFp];rfl
theorem prN_bd:∀ks:List Int,0≤(prN ks).1∧(prN ks).1≤2*ks.length∧0≤(prN ks).2∧(prN ks).2≤ks.length:=by
 refine Zf7 ⟨by decide,by decide,by decide,by decide⟩ λl a ih=>?_;rw [Ztk,ZCh];have h1:([a]:List Int).length=1:=rfl;unfold prS;obtain⟨i1,i2,i3,i4⟩:=ih;split
 ·refine⟨?_,?_,?_,?_⟩<;>simp only<;>omega
 ·split
  ·refine⟨?_,?_,?_,?_⟩<;>simp only<;>omega
  ·refine⟨?_,?_,?_,?_⟩<;>omega
def wtX (k:Int) (a:List Int) (r:Rat) (t:Int):Int × List Int × List XX :=
 match cbOf k a r t with
 | none=>(8,[],[])
 | some c=>if c.be=[] then (3,[],[]) else (0,c.ps,c.ab.map λw=>(w,c.be))
theorem exC {p:QTs} (h:(∀t∈p,t.1≠0∧(t.2.Pairwise λa b=>Qt.cmp a b≤0)∧∀q∈t.2,q.norm=(q,1))∧p.Pairwise λs t=>ordQ s.2 t.2 < 0):EX p :=
 ⟨λt ht=>⟨(h.1 t ht).1,(h.1 t ht).2.1,(h.1 t ht).2.2⟩,h.2⟩
abbrev hlX:QTs:=[((1/2:Rat),[])]
abbrev onX:QTs:=[((1:Rat),[])]
abbrev pM (a b:Int):List Qt:=[⟨2,a,b,a⟩]
abbrev arX (a b c:Int):QTs:=ofX ⟨1,a,b,c⟩
abbrev pyX (a b c:Int):QTs:=ofX ⟨2,a,b,c⟩
def crX (a b c d:Int):QTs:=subX (arX a b d) (arX a b c)
def doX (a b c d:Int):QTs:=subX (pyX b a d) (pyX b a c)
def leX (a b c d:Int) (r:Rat):QTs:=subX (pyX a b a) (mulX (cstT r) (pyX c d c))
def mdX (m a b:Int):QTs:=Za1 (Za1 (pyX m a m) (pyX m b m)) (mulX (cstT 2) (pyX a m b))
def xsX (a b c d:QTs):QTs:=subX (mulX a b) (mulX c d)
def goX (k:Int) (l:List Int) (r:Rat):QTs :=
 if k=1 then arX (gI l 0) (gI l 1) (gI l 2)
 else if k=2 then crX (gI l 0) (gI l 1) (gI l 2) (gI l 3)
 else if k=3 then doX (gI l 0) (gI l 1) (gI l 2) (gI l 3)
 else if k=4 then leX (gI l 0) (gI l 1) (gI l 2) (gI l 3) 1
 else if k=5 then mdX (gI l 0) (gI l 1) (gI l 2)
 else if k=6 then xsX (arX (gI l 1) (gI l 0) (gI l 2)) (pyX (gI l 0) (gI l 3) (gI l 2)) (arX (gI l 3) (gI l 0) (gI l 2)) (pyX (gI l 0) (gI l 1) (gI l 2))
 else if k=7 then xsX (crX (gI l 0) (gI l 1) (gI l 2) (gI l 3)) (doX (gI l 4) (gI l 5) (gI l 6) (gI l 7)) (crX (gI l 4) (gI l 5) (gI l 6) (gI l 7)) (doX (gI l 0) (gI l 1) (gI l 2) (gI l 3))
 else if k=8 then pyX (gI l 0) (gI l 1) (gI l 0)
 else leX (gI l 0) (gI l 1) (gI l 2) (gI l 3) r
section
variable {ps:List PQ} {rs:List Rat}
abbrev ptI (ps:List PQ) (i:Int):PQ:=ps.getD i.toNat (0,0)
abbrev vX (ps:List PQ) (rs:List Rat) (p:QTs):Rat:=evl (vlQ ps rs) p
abbrev inP (ps:List PQ) (i:Int):Prop:=0≤i∧i < (ps.length:Int)
end
def lnP (a b c d e f g h:PQ):Rat:=Zdw a b c d*dotP e f g h - Zdw e f g h*dotP a b c d
def prV (k:Int) (r:Rat) (p:Nat→PQ):List Rat :=
 if k=1 then [Zdw (p 0) (p 1) (p 0) (p 2)]
 else if k=2 then [Zdw (p 0) (p 1) (p 2) (p 3)]
 else if k=3 then [dotP (p 0) (p 1) (p 2) (p 3)]
 else if k=4 then [dotP (p 0) (p 1) (p 0) (p 1) - dotP (p 2) (p 3) (p 2) (p 3)]
 else if k=5 then [(p 1).1+(p 2).1 - 2*(p 0).1,(p 1).2+(p 2).2 - 2*(p 0).2]
 else if k=6 then [lnP (p 1) (p 0) (p 1) (p 2) (p 3) (p 0) (p 3) (p 2)]
 else if k=7 then [lnP (p 0) (p 1) (p 2) (p 3) (p 4) (p 5) (p 6) (p 7)]
 else if k=8 then [(p 0).1 - (p 1).1,(p 0).2 - (p 1).2]
 else [dotP (p 0) (p 1) (p 0) (p 1) - r*dotP (p 2) (p 3) (p 2) (p 3)]
def arN (k:Int):Nat:=if k=8 then 2 else if k=1∨k=5 then 3 else if k=7 then 8 else 4
section
variable {ps:List PQ} {rs:List Rat}
end
end Go.Proofs.YtkefeinbjbeidaaGreatDoor
namespace Go.Proofs.YtkefeinbjbeidaaGreatDoor
open Go Go.RowKit Go.Pg Go.Pol Go.Proofs.Tryz
attribute [-bool_to_prop] Bool.and_eq_decide Bool.or_eq_decide Bool.decide_beq_decide decide_eq_decide
attribute [go_sem] underlying353 underlying363 underlying350 underlying361 zCmb zSch szFn zFn zPlc
attribute [local go_sem] Zas Zav Zau Zag Zar Zah Bool.and_self Zal Zbb Za8 Zch Zck Zbt Za7 Zbw Za9 Zba Zca Zcd Zcc Zcb Zbp Zbr Zct Zcu Ze9 Zfb Ze7 Ze8
theorem prN_take {ss:List RS} {k:Nat} (h:k < ss.length):prN ((ss.take (k+1)).map RS.k)=prS (prN ((ss.take k).map RS.k)) ss[k].k:=by
 rw [ZEd h,ZCb];exact Ztk _ _
theorem prN_in (ss:List RS) {k n:Nat} (hk:ss.length≤n):0≤(prN ((ss.take k).map RS.k)).1∧(prN ((ss.take k).map RS.k)).1≤2*n∧0≤(prN ((ss.take k).map RS.k)).2∧(prN ((ss.take k).map RS.k)).2≤n:=by
 have h:=prN_bd ((ss.take k).map RS.k);rw [ZBr,ZB9] at h;omega
theorem prS_1 {s:Int × Int} {k:Int} (h:k=1):prS s k=(s.1+min s.2 2,s.2+1):=by unfold prS;rw [ZBo h]
theorem prS_5 {s:Int × Int} {k:Int} (h1:¬k=1) (h:k=5∨k=6):prS s k=(s.1+1,s.2):=by unfold prS;rw [ZBn h1,ZBo h]
theorem prS_0 {s:Int × Int} {k:Int} (h1:¬k=1) (h:¬(k=5∨k=6)):prS s k=s:=by unfold prS;rw [ZBn h1,ZBn h]
theorem elParam (ss:List RS) (gs:List RG) (i:Nat) (hi:i≤ss.length) (hl:ss.length≤100):Pure prog 362 [figA ss gs,iv i] (iv (prN ((ss.take i).map RS.k)).1):=by
 have hg:∀k (h:k < ss.length),k < i→((ss.map RS.av).take i).getD k .u=.agg [iv ss[k].k,strA ss[k].nm,ivs ss[k].ar,.v (.bool ss[k].r.s),lim ss[k].r.l,lim ss[k].r.d]:=λk h hk=>by
  rw [ZB8,List.getElem?_take_of_lt hk,←ZB8];exact Zao RS.av h
 have hlm:((ss.map RS.av).take i).length=i:=by rw [ZB9,ZBr];omega
 have hll:(ss.map RS.av).length=ss.length:=ZBr ..;have hb:∀k,0≤(prN ((ss.take k).map RS.k)).1∧(prN ((ss.take k).map RS.k)).1≤200∧0≤(prN ((ss.take k).map RS.k)).2∧(prN ((ss.take k).map RS.k)).2≤100:=λk=>prN_in ss hl;have hs:∀k (h:k < ss.length),prN ((ss.take (k+1)).map RS.k)=prS (prN ((ss.take k).map RS.k)) ss[k].k:=λk h=>prN_take h;show Pure _ _ [.agg [.sl 6 (ss.map RS.av),.sl 5 (gs.map RG.av)],iv i] _;generalize hMT:(ss.map RS.av).take i=MT at *;generalize ss.map RS.av=M at *;generalize gs.map RG.av=G at *;refine pI func362 rfl ntmps362 results362 call362 ?_
 (refine wkap (w_4 hll hi hMT hlm) w_t (w_r 0) (w_s ?_);intros)
 refine Zad (ι:=Nat) (λk e m=>k≤i∧(e 5=iv (prN ((ss.take k).map RS.k)).1∧e 6=iv (prN ((ss.take k).map RS.k)).2)∧e 12=.sl 6 MT∧e 13=iv i∧e 14=iv k) (λk=>i - k) 0 zr ?_ ?_
 ·rintro k e m ⟨hk,⟨e5,e6⟩,e12,e13,e14⟩
  by_cases hlt:k < i
  ·have hgk:=hg k zo hlt;have ps:=hs k zo;have hbk:=hb k;have hlk:k < ss.length:=zo;clear hg hs hb;generalize ss[k]=s at *;obtain⟨kk,nm,ar,⟨rb,rl,rd⟩⟩:=s;simp only at hgk ps;generalize prN ((ss.take k).map RS.k)=pr at *;obtain⟨p1,p2⟩:=pr;simp only at *;have hgk:MT.getD k .u=.agg [iv kk,strA nm,.sl 1 (ar.map iv),.v (.bool rb),lim rl,lim rd]:=hgk;generalize ar.map iv=AR at *;have hmi:(if (2:Int) < p2 then (2:Int) else p2)=min p2 2:=zo;have hmj:p2+1 - 1=p2:=zo;by_cases h1:kk=1
   ·rw [prS_1 h1] at ps
    (refine wkap (w_10 e5 e6 e12 e13 e14 hlm hgk h1 hmj hmi) w_t (w_r 0) (w_s ?_);intros)
    exact⟨k+1,⟨zo,⟨by rw [ps];exact gW hmi,by rw [ps];exact gC⟩,gW e12,gW e13,gS⟩,zo⟩
   ·by_cases h5:kk=5∨kk=6
    ·rw [prS_5 h1 h5] at ps;rcases h5 with h5 | h5
     ·(refine wkap (w_9 e5 e6 e12 e13 e14 hlm hgk h1 h5) w_t (w_r 0) (w_s ?_);intros)
      exact⟨k+1,⟨zo,⟨by rw [ps];exact gW e5,by rw [ps];exact gW e6⟩,gW e12,gW e13,gS⟩,zo⟩
     ·(refine wkap (w_9 e5 e6 e12 e13 e14 hlm hgk h1 h5) w_t (w_r 0) (w_s ?_);intros)
      exact⟨k+1,⟨zo,⟨by rw [ps];exact gW e5,by rw [ps];exact gW e6⟩,gW e12,gW e13,gS⟩,zo⟩
    ·rw [prS_0 h1 h5] at ps;have h6:¬kk=6:=λh=>h5 (.inr h);have h5:¬kk=5:=λh=>h5 (.inl h)
     (refine wkap (w_10 e5 e6 e12 e13 e14 hlm hgk h1 h5 h6) w_t (w_r 0) (w_s ?_);intros)
     exact⟨k+1,⟨zo,⟨by rw [ps];exact gW e5,by rw [ps];exact gW e6⟩,gW e12,gW e13,gS⟩,zo⟩
  ·have:k=i:=zo;subst this;generalize (prN ((ss.take k).map RS.k)).1=z at *
   (refine wkap (w_6 e5 e6 e12 e13 e14 hlm) w_t (w_r 0) (w_s ?_);intros)
   all_goals exact gL
 ·exact⟨ZBx _,⟨gC,gC⟩,by(simp (disch:=omega) only [go_sem,hMT]<;>repeat' first|rfl|refine⟨?_,?_⟩),gW hlm,gC⟩
abbrev XS (p:QTs):Prop:=XL p 400 6 400
theorem Zj1 {p q:QTs} (hp:XS p) (hq:XS q) (h12:p.length*q.length≤12):Pure prog 66 [qpA p,qpA q] (qpA (mulX p q)):=by
 have:=Zzf;have:=Zze;have:=hp.l;have:=hq.l;exact exMulT p q hp.x hq.x zo zo zo zo zo zo
theorem Zz4 {p q:QTs} (hp:XS p) (hq:XS q):Pure prog 69 [qpA p,qpA q] (qpA (Za1 p q)):=by
 have:=hp.l;have:=hq.l;exact exPlus p q hp.x.qk hq.x.qk hp.x.nz hq.x.nz zo zo zo zo zo
theorem Zmq {p q:QTs} (hp:XS p) (hq:XS q):Pure prog 65 [qpA p,qpA q] (qpA (subX p q)):=by
 have:=hp.l;have:=hq.l;exact exMinus p q hp.x.qk hq.x.qk hp.x.nz hq.x.nz zo zo zo zo zo
theorem Zs6 {p q:QTs} (hp:XS p) (hq:XS q):Pure prog 40 [qpA p,qpA q] (qpA (mulX p q)):=by
 have h:=ZCy hp.l hq.l;have:=hp.l;have:=hq.l;exact rxMul p q hp.x hq.x zo zo zo zo zo zo zo
theorem rxAddS {p q:QTs} (hp:XS p) (hq:XS q):Pure prog 37 [qpA p,qpA q] (qpA (Za1 p q)):=by
 have:=hp.l;have:=hq.l;exact rxPlus p q hp.x.qk hq.x.qk zo zo zo zo zo
theorem Zma {p q:QTs} (hp:XS p) (hq:XS q):Pure prog 35 [qpA p,qpA q] (qpA (subX p q)):=by
 have:=hp.l;have:=hq.l;exact rxMinus p q hp.x.qk hq.x.qk zo zo zo zo zo
theorem rxSclS {p:QTs} (hp:XS p) {s:Rat} (hs:Sz s 2) (h0:s≠0):Pure prog 38 [qpA p,ratQ s] (qpA (sclT s p)):=by
 have:=hp.l;have c:=Zxg p s hp.x.qk hs h0 zo zo zo
 rwa [Zxe] at c
theorem Zz0 {q:Qt} (h:q.ok=true):Pure prog 64 [q.av] (qpA (ofX q)):=by
 have c:=exOf q
 rwa [of_ok h] at c
theorem rxOfS {q:Qt} (h:q.ok=true):Pure prog 73 [q.av] (qpA (ofX q)):=by
 have c:=rxOf q
 rwa [of_ok h] at c
theorem cst_qp (u:Rat):nrmR (cstE u)=qpA (cstT u):=cst_ok u
theorem Zmr {u:Rat} (h:Sz u 2):Pure prog 55 [ratQ u] (qpA (cstT u)):=by
 have c:=Zsg u h zo
 rwa [cst_qp] at c
theorem xs_of {q:Qt} (h:q.ok=true):XS (ofX q):=(Zdg h).mono zd zd zd
theorem xs_cst {u:Rat} (h:Sz u 2):XS (nX u):=(Zdv h).mono zd zd zd
theorem XL.xs {p:QTs} {k n l:Nat} (h:XL p k n l) (hk:k≤400) (hn:n≤6) (hl:l≤400):XS p:=h.mono hk hn hl
abbrev Cb.av (c:Cb):AV:=.agg [ivs c.ps,.sl 1 (c.ab.map qpA),qpA c.be]
theorem Zgf {P:Program} {σs:Mem} {all:List Oper} {op:Op} {ty:TypeId} {pos:String} {af:Array Edge} {r:Res} {K:St→Prop} {e:Nat→AV} {m:Mem} (h:Zai P ⟨e,m⟩ op=r) (hkp:Za0 σs r) (hk:aRes P 0 none r K ⟨e,m⟩):Zfc P 0 σs all true false ⟨none,op,ty,pos,af,none⟩ K ⟨e,m⟩:=by
 refine⟨?_,λ_=>⟨rfl,by rw [h];exact hkp,λh=>by cases h⟩⟩;unfold Zf0;rw [Zde,h,Option.getD_none];exact hk
abbrev Pl.av (p:Pl):AV:=.agg [iv p.k,iv p.q,iv p.r,.v (.bool p.mid)]
theorem elPlaced (k a b c x:Int):Pure prog 337 [.agg [iv k,iv a,iv b,iv c],iv x] (Pl.av (plOf ⟨k,a,b,c⟩ x)):=by
 unfold plOf;simp only
 repeat' split
 ·refine pI func337 rfl ntmps337 results337 call337 ?_
  (refine wkad w_t w_t (w_1 (w_d 4 [] [5,7,1005,1007] [5])) (w_s ?_);intros)
  refine Zgf (by simp (disch:=omega) only [go_sem];rfl) (by simp (disch:=omega) [Za0,cutM,go_sem]) ?_
  (refine wkad w_t w_t w_t (w_s ?_);intros)
  refine Zgf (by simp (disch:=omega) only [go_sem];rfl) (by simp (disch:=omega) [Za0,cutM,go_sem]) ?_
  (refine wkad w_t w_t w_t (w_s ?_);intros)
  all_goals exact gL
 ·refine pI func337 rfl ntmps337 results337 call337 ?_
  (refine wkad w_t w_t (w_1 (w_d 6 [] [5,7,1005,1007] [5])) (w_s ?_);intros)
  refine Zgf (by simp (disch:=omega) only [go_sem];rfl) (by simp (disch:=omega) [Za0,cutM,go_sem]) ?_
  (refine wkad w_t w_t w_t (w_s ?_);intros)
  refine Zgf (by simp (disch:=omega) only [go_sem];rfl) (by simp (disch:=omega) [Za0,cutM,go_sem]) ?_
  (refine wkad w_t w_t w_t (w_s ?_);intros)
  all_goals exact gL
 ·refine pI func337 rfl ntmps337 results337 call337 ?_
  (refine wkad w_t w_t (w_1 (w_d 8 [] [5,7,1005,1007] [5])) (w_s ?_);intros)
  refine Zgf (by simp (disch:=omega) only [go_sem];rfl) (by simp (disch:=omega) [Za0,cutM,go_sem]) ?_
  (refine wkad w_t w_t w_t (w_s ?_);intros)
  refine Zgf (by simp (disch:=omega) only [go_sem];rfl) (by simp (disch:=omega) [Za0,cutM,go_sem]) ?_
  (refine wkad w_t w_t w_t (w_s ?_);intros)
  all_goals exact gL
 ·refine pI func337 rfl ntmps337 results337 call337 ?_
  (refine wkad w_t w_t (w_1 (w_d 10 [] [5,7,9,1005,1007,1009] [5])) (w_s ?_);intros)
  refine Zgf (by simp (disch:=omega) only [go_sem];rfl) (by simp (disch:=omega) [Za0,cutM,go_sem]) ?_
  (refine wkad w_t w_t w_t (w_s ?_);intros)
  refine Zgf (by simp (disch:=omega) only [go_sem];rfl) (by simp (disch:=omega) [Za0,cutM,go_sem]) ?_
  (refine wkad w_t w_t w_t (w_s ?_);intros)
  refine Zgf (by simp (disch:=omega) only [go_sem];rfl) (by simp (disch:=omega) [Za0,cutM,go_sem]) ?_
  (refine wkad w_t w_t w_t (w_s ?_);intros)
  all_goals exact gL
 ·rename_i h1 h2 h3;by_cases ha:a=x
  ·subst ha;have hc:¬c=a:=λh=>h2 ⟨rfl,h⟩;refine pI func337 rfl ntmps337 results337 call337 ?_
   (refine wkad (w_3 h1 h3 hc) w_t (w_1 (w_d 12 [] [5,7,9,1005,1007,1009] [5])) (w_s ?_);intros)
   refine Zgf (by simp (disch:=omega) only [go_sem];rfl) (by simp (disch:=omega) [Za0,cutM,go_sem]) ?_
   (refine wkad w_t w_t w_t (w_s ?_);intros)
   refine Zgf (by simp (disch:=omega) only [go_sem];rfl) (by simp (disch:=omega) [Za0,cutM,go_sem]) ?_
   (refine wkad w_t w_t w_t (w_s ?_);intros)
   refine Zgf (by simp (disch:=omega) only [go_sem];rfl) (by simp (disch:=omega) [Za0,cutM,go_sem]) ?_
   (refine wkad w_t w_t w_t (w_s ?_);intros)
   all_goals exact gL
  ·refine pI func337 rfl ntmps337 results337 call337 ?_
   (refine wkad (w_3 h1 h3 ha) w_t (w_1 (w_d 12 [] [5,7,9,1005,1007,1009] [5])) (w_s ?_);intros)
   refine Zgf (by simp (disch:=omega) only [go_sem];rfl) (by simp (disch:=omega) [Za0,cutM,go_sem]) ?_
   (refine wkad w_t w_t w_t (w_s ?_);intros)
   refine Zgf (by simp (disch:=omega) only [go_sem];rfl) (by simp (disch:=omega) [Za0,cutM,go_sem]) ?_
   (refine wkad w_t w_t w_t (w_s ?_);intros)
   refine Zgf (by simp (disch:=omega) only [go_sem];rfl) (by simp (disch:=omega) [Za0,cutM,go_sem]) ?_
   (refine wkad w_t w_t w_t (w_s ?_);intros)
   all_goals exact gL
 ·refine pI func337 rfl ntmps337 results337 call337 ?_
  (refine wkad w_t w_t (w_1 (w_d 14 [] [5,7,1005,1007] [5])) (w_s ?_);intros)
  refine Zgf (by simp (disch:=omega) only [go_sem];rfl) (by simp (disch:=omega) [Za0,cutM,go_sem]) ?_
  (refine wkad w_t w_t w_t (w_s ?_);intros)
  refine Zgf (by simp (disch:=omega) only [go_sem];rfl) (by simp (disch:=omega) [Za0,cutM,go_sem]) ?_
  (refine wkad w_t w_t w_t (w_s ?_);intros)
  all_goals exact gL
 ·refine pI func337 rfl ntmps337 results337 call337 ?_
  (refine wkad w_t w_t (w_1 (w_d 2 [] [5,7,1005,1007] [5])) (w_s ?_);intros)
  refine Zgf (by simp (disch:=omega) only [go_sem];rfl) (by simp (disch:=omega) [Za0,cutM,go_sem]) ?_
  (refine wkad w_t w_t w_t (w_s ?_);intros)
  refine Zgf (by simp (disch:=omega) only [go_sem];rfl) (by simp (disch:=omega) [Za0,cutM,go_sem]) ?_
  (refine wkad w_t w_t w_t (w_s ?_);intros)
  all_goals exact gL
theorem XL.s {p:QTs} {k n l:Nat} (h:XL p k n l) (hk:k≤400:=by decide) (hn:n≤6:=by decide) (hl:l≤400:=by decide):XS p:=h.mono hk hn hl
theorem elArea (a b c:Int) (h:Qt.ok ⟨1,a,b,c⟩=true):Pure prog 345 [iv a,iv b,iv c] (.sl 4 ((ofX ⟨1,a,b,c⟩).map qtA)):=by
 have c1:Pure prog 64 [.agg [iv 1,iv a,iv b,iv c]] (.sl 4 ((ofX ⟨1,a,b,c⟩).map qtA)):=Zz0 h;show Pure _ _ [iv a,iv b,iv c] (.sl 4 ((ofX ⟨1,a,b,c⟩).map qtA));generalize (ofX ⟨1,a,b,c⟩).map qtA=G at *;refine pI func345 rfl ntmps345 results345 call345 ?_
 (refine wkap w_t (w_1 c1) (w_r 0) (w_s ?_);intros)
 all_goals exact gL
theorem ZAa (a b c:Int) (h:Qt.ok ⟨2,a,b,c⟩=true):Pure prog 344 [iv a,iv b,iv c] (.sl 4 ((ofX ⟨2,a,b,c⟩).map qtA)):=by
 have c1:Pure prog 64 [.agg [iv 2,iv a,iv b,iv c]] (.sl 4 ((ofX ⟨2,a,b,c⟩).map qtA)):=Zz0 h;show Pure _ _ [iv a,iv b,iv c] (.sl 4 ((ofX ⟨2,a,b,c⟩).map qtA));generalize (ofX ⟨2,a,b,c⟩).map qtA=G at *;refine pI func344 rfl ntmps344 results344 call344 ?_
 (refine wkap w_t (w_1 c1) (w_r 0) (w_s ?_);intros)
 all_goals exact gL
theorem elNumV (z:Int) (b:Bool) (n d:List Nat) (G:List AV) (c1:Pure prog 27 [iv z] (.agg [.v (.bool b),lim n,lim d])) (c2:Pure prog 55 [.agg [.v (.bool b),lim n,lim d]] (.sl 4 G)):Pure prog 335 [iv z] (.sl 4 G):=by
 refine pI func335 rfl ntmps335 results335 call335 ?_
 (refine wkap w_t (w_2 c1 c2) (w_r 0) (w_s ?_);intros)
 all_goals exact gL
theorem Zqc:Pure prog 335 [iv 1] (qpA (nX 1)):=elNumV 1 _ _ _ _ (Zmd (z:=1) (.inr (.inr rfl))) (Zmr (Zii.mono zd))
theorem elNumM:Pure prog 335 [iv (-1)] (qpA (nX (-1))):=elNumV (-1) _ _ _ _ (Zmd (z:=-1) (.inl rfl)) (Zmr (sz_m1.mono zd))
theorem Zue {p q:QTs} {k n l j m i:Nat} (x:XL p k n l) (y:XL q j m i) (h:l*i≤12:=by decide) (hk:k≤400:=by decide) (hn:n≤6:=by decide) (hl:l≤400:=by decide) (hj:j≤400:=by decide) (hm:m≤6:=by decide) (hi:i≤400:=by decide):Pure prog 66 [qpA p,qpA q] (qpA (mulX p q)):=Zj1 (x.mono hk hn hl) (y.mono hj hm hi) (ZBv (ZCy x.l y.l) h)
theorem elParts (a b:Int) (p q:QTs) (hp:XS p) (hq:XS q):Pure prog 361 [iv a,iv b,.sl 4 (p.map qtA),.sl 4 (q.map qtA)] (.agg [.sl 1 [iv a,iv b],.sl 1 [.sl 4 ((subX q p).map qtA),.sl 4 (p.map qtA)],.sl 4 (q.map qtA)]):=by
 have c1:Pure prog 65 [.sl 4 (q.map qtA),.sl 4 (p.map qtA)] (.sl 4 ((subX q p).map qtA)):=Zmq hq hp;generalize (subX q p).map qtA=G at *;generalize p.map qtA=A at *;generalize q.map qtA=B at *;refine pI func361 rfl ntmps361 results361 call361 ?_
 (refine wkap w_t (w_1 c1) (w_r 0) (w_s ?_);intros)
 all_goals exact gL
theorem elAt (k q r x:Int) (m:Bool) (h:(k=1→Qt.ok ⟨1,x,q,r⟩=true)∧(k≠1→m=true→Qt.ok ⟨2,q,x,r⟩=true)∧(k≠1→m=false→Qt.ok ⟨2,x,q,r⟩=true)) :
 Pure prog 347 [.agg [iv k,iv q,iv r,.v (.bool m)],iv x] (.sl 4 ((Pl.at ⟨k,q,r,m⟩ x).map qtA)):=by
 unfold Pl.at;simp only;split
 ·rename_i hk;have c1:=elArea x q r (h.1 hk);generalize (ofX ⟨1,x,q,r⟩).map qtA=G at *;refine pI func347 rfl ntmps347 results347 call347 ?_
  (refine wkap w_t (w_1 c1) (w_r 0) (w_s ?_);intros)
  all_goals exact gL
 ·split
  ·rename_i hk hm;subst hm;have c1:=ZAa q x r (h.2.1 hk rfl);generalize (ofX ⟨2,q,x,r⟩).map qtA=G at *;refine pI func347 rfl ntmps347 results347 call347 ?_
   (refine wkap w_t (w_1 c1) (w_r 0) (w_s ?_);intros)
   all_goals exact gL
  ·rename_i hk hm;obtain rfl:m=false:=by simpa using hm
   have c1:=ZAa x q r (h.2.2 hk rfl);generalize (ofX ⟨2,x,q,r⟩).map qtA=G at *;refine pI func347 rfl ntmps347 results347 call347 ?_
   (refine wkap w_t (w_1 c1) (w_r 0) (w_s ?_);intros)
   all_goals exact gL
theorem Zv1 (M GG:List AV) (i:Nat) (a0 a1:Int) (V0 V1 V2:List AV) (k:Int) (nm A0:AV) (rb:Bool) (rn rd:List Nat) (hl:i < M.length) (hs:M.getD i .u=.agg [iv k,nm,A0,.v (.bool rb),lim rn,lim rd]) (c1:Pure prog 55 [.agg [.v (.bool rb),lim rn,lim rd]] (.sl 4 V0)) (c2:Pure prog 335 [iv 1] (.sl 4 V1)) (c3:Pure prog 361 [iv a0,iv a1,.sl 4 V0,.sl 4 V1] (.agg [.sl 1 [iv a0,iv a1],.sl 1 [.sl 4 V2,.sl 4 V0],.sl 4 V1])):Pure prog 352 [.agg [.sl 6 M,.sl 5 GG],iv i,.sl 1 [iv a0,iv a1]] (.agg [.sl 1 [iv a0,iv a1],.sl 1 [.sl 4 V2,.sl 4 V0],.sl 4 V1]):=by
 refine pI func352 rfl ntmps352 results352 call352 ?_
 (refine wkad (w_2 hl hs) (w_3 c1 c2 c3) (w_1 (w_d 1 [(12,.sl 4 V0),(13,.sl 4 V1),(14,.agg [.sl 1 [iv a0,iv a1],.sl 1 [.sl 4 V2,.sl 4 V0],.sl 4 V1])] [] [6])) (w_s ?_);intros)
 all_goals exact gL
theorem ZAd (M GG:List AV) (i:Nat) (a0 a1:Int) (k:Int) (nm A0:AV) (r:Rat) (hl:i < M.length) (hs:M.getD i .u=.agg [iv k,nm,A0,.v (.bool (decide (r.num < 0))),lim (toL r.num.natAbs),lim (toL r.den)]) (hr:Sz r 2) (h0:0≤a0∧a0 < 40) (h1:0≤a1∧a1 < 40):Pure prog 352 [.agg [.sl 6 M,.sl 5 GG],iv i,.sl 1 [iv a0,iv a1]] (.agg [.sl 1 [iv a0,iv a1],.sl 1 [qpA (subX (nX 1) (nX r)),qpA (nX r)],qpA (nX 1)]):=by
 have x0:=Zdv hr;have x1:=Zdv Zii;exact Zv1 M GG i a0 a1 _ _ _ k nm A0 _ _ _ hl hs (Zmr hr) (Zqc) (elParts _ _ _ _ (x0.s) (x1.s))
theorem elSch2:Pure prog 348 [iv 2] (.tup [.agg [.fn 352 []],.v (.bool true)]):=by
 refine pI func348 rfl ntmps348 results348 call348 ?_
 (refine wkap w_t w_t (w_r 0) (w_s ?_);intros)
 all_goals exact gL
theorem slClone (a b:Int) (l:List Int) (hl:l.length≤1000000):Pure prog 349 [.sl 1 (iv a :: iv b :: l.map iv)] (.sl 1 (iv a :: iv b :: l.map iv)):=by
 have hl:(l.map iv).length≤1000000:=by rw [ZBr];exact hl
 generalize l.map iv=L at *;refine pI func349 rfl ntmps349 results349 call349 ?_
 (refine wkap (w_1 hl) w_t (w_r 0) (w_s ?_);intros)
 all_goals exact gL
theorem elComb1 (M G:List AV) (i:Nat) (k:Int) (nm:AV) (A0:List AV) (rb rn rd:AV) (f:Nat) (ps ab be:List AV) (hi:i < M.length) (hs:M.getD i .u=.agg [iv k,nm,.sl 1 A0,rb,rn,rd]) (c0:Pure prog 348 [iv k] (.tup [.agg [.fn f []],.v (.bool true)]))
 (c1:Pure prog 349 [.sl 1 A0] (.sl 1 A0)) (c2:Pure prog f [.agg [.sl 6 M,.sl 5 G],iv i,.sl 1 A0] (.agg [.sl 1 ps,.sl 1 ab,.sl 4 be])) (hb:be.length≤100) :
 Pure prog 338 [.agg [.sl 6 M,.sl 5 G],iv i] (if be.length=0 then .tup [.agg [.v (.slice none 0 0),.v (.slice none 0 0),.v (.slice none 0 0)],iv 3] else .tup [.agg [.sl 1 ps,.sl 1 ab,.sl 4 be],iv 0]):=by
 by_cases h0:be.length=0
 ·rw [ZBo h0];refine pI func338 rfl ntmps338 results338 call338 ?_
  (refine wkad (w_3 hi hs h0) (w_3 c0 c1 c2) (w_1 (w_d 4 [(10,.sl 1 A0),(11,.agg [.sl 1 ps,.sl 1 ab,.sl 4 be])] [] [])) (w_s ?_);intros)
  all_goals exact gL
 ·rw [ZBn h0];refine pI func338 rfl ntmps338 results338 call338 ?_
  (refine wkad (w_3 hi hs h0) (w_3 c0 c1 c2) (w_1 (w_d 4 [(10,.sl 1 A0),(11,.agg [.sl 1 ps,.sl 1 ab,.sl 4 be])] [] [])) (w_s ?_);intros)
  all_goals exact gL
section
attribute [local go_sem] underlying3 underlying4 underlying161 underlying24 underlying26 underlying28 underlying91 underlying76 underlying78 underlying33 underlying34 sz3 by3 z3 szB zB Zas zRat Zav zInt Zau zNat Zag Zar Zah Bool.and_self Zal Zbb zSlQ szQT byQT zQT Za8 zSlT szQP zQP underlying346 underlying47 szFr byFr zFr Zch Zck zSQP underlying9 underlying22 underlying35 underlying81 underlying39 underlying42 underlying30 underlying40 Zbt zErr Za7 Zbw zStr szL byL zL Za9 Zba Zca Zcd zFig Zcc zSlI Zcb zSlS Zbp Zbr Zct Zcu zSlF underlying353 underlying363 underlying350 underlying361 Ze9 Zfb zCmb Ze7 zSch szFn zFn Ze8 zPlc
end
section
attribute [local go_sem] underlying3 underlying4 underlying161 underlying24 underlying26 underlying28 underlying91 underlying76 underlying78 underlying33 underlying34 sz3 by3 z3 szB zB Zas zRat Zav zInt Zau zNat Zag Zar Zah Bool.and_self Zal Zbb zSlQ szQT byQT zQT Za8 zSlT szQP zQP underlying346 underlying47 szFr byFr zFr Zch Zck zSQP underlying9 underlying22 underlying35 underlying81 underlying39 underlying42 underlying30 underlying40 Zbt zErr Za7 Zbw zStr szL byL zL Za9 Zba Zca Zcd zFig Zcc zSlI Zcb zSlS Zbp Zbr Zct Zcu zSlF underlying353 underlying363 underlying350 underlying361 Ze9 Zfb zCmb Ze7 zSch szFn zFn Ze8 zPlc
end
section
attribute [local go_sem] underlying3 underlying4 underlying161 underlying24 underlying26 underlying28 underlying91 underlying76 underlying78 underlying33 underlying34 sz3 by3 z3 szB zB Zas zRat Zav zInt Zau zNat Zag Zar Zah Bool.and_self Zal Zbb zSlQ szQT byQT zQT Za8 zSlT szQP zQP underlying346 underlying47 szFr byFr zFr Zch Zck zSQP underlying9 underlying22 underlying35 underlying81 underlying39 underlying42 underlying30 underlying40 Zbt zErr Za7 Zbw zStr szL byL zL Za9 Zba Zca Zcd zFig Zcc zSlI Zcb zSlS Zbp Zbr Zct Zcu zSlF underlying353 underlying363 underlying350 underlying361 Ze9 Zfb zCmb Ze7 zSch szFn zFn Ze8 zPlc
end
theorem l2 {l:List Int} (h:l.length=2):∃a b,l=[a,b]:=by
 match l,h with
 | [a,b],_=>exact⟨a,b,rfl⟩
theorem l3 {l:List Int} (h:l.length=3):∃a b c,l=[a,b,c]:=by
 match l,h with
 | [a,b,c],_=>exact⟨a,b,c,rfl⟩
theorem l4 {l:List Int} (h:l.length=4):∃a b c d,l=[a,b,c,d]:=by
 match l,h with
 | [a,b,c,d],_=>exact⟨a,b,c,d,rfl⟩
abbrev tOf (ss:List RS) (i:Nat):Int:=(prN ((ss.take i).map RS.k)).1
theorem none_q {r:RQ} (h:r.none=true):Sz r.q 2:=by
 unfold RQ.none at h;simp only [ZCj,ZD6,ZCr] at h;obtain⟨s,l,d⟩:=r;simp only at h;obtain⟨rfl,hl,hd⟩:=h;obtain rfl:=List.length_eq_zero_iff.1 hl;obtain rfl:=List.length_eq_zero_iff.1 hd;exact⟨by decide +kernel,by decide +kernel⟩
theorem errS_r {ss:List RS} {i:Nat} (hi:i < ss.length) (h:errS ss i=0):(ss[i].k=2∧ss[i].r.ok=true)∨(ss[i].k≠2∧ss[i].r.none=true):=by
 unfold errS at h;rw [show ss.getD i RS.zero=ss[i] from by rw [ZB8,ZBz hi];rfl] at h;generalize ss[i]=s at *;simp only at h;split at h
 ·omega
 ·split at h
  ·omega
  ·split at h
   ·omega
   ·split at h
    ·omega
    ·rename_i hn;by_cases hk:s.k=2
     ·left;refine⟨hk,?_⟩
      cases hr:s.r.ok with
      | true=>rfl
      | false=>exact absurd (.inl ⟨hk,hr⟩) hn
     ·right;refine⟨hk,?_⟩
      cases hr:s.r.none with
      | true=>rfl
      | false=>exact absurd (.inr ⟨hk,hr⟩) hn
theorem st_a {ss:List RS} {i:Nat} (hi:i < ss.length) (hl:ss.length≤8) (he:errS ss i=0) (hr:ss[i].r.lm 2):StA ss[i].k (tOf ss i) i ss.length ss[i].ar ss[i].r.q:=by
 obtain⟨h1,h2,h3,h4⟩:=Zn6 hi he;have ht:0≤tOf ss i∧tOf ss i≤16:=by have h:=prN_in ss (k:=i) hl;exact⟨h.1,h.2.1⟩
 have hz:Sz ss[i].r.q 2:=by
  rcases errS_r hi he with⟨_,h⟩ | ⟨_,h⟩
  ·exact(RQ.ok_av hr h).2
  ·exact none_q h
 generalize ss[i]=s at *;unfold arS at h1 h2;refine⟨zo,hz,λk hk=>by have:=h3 k hk;omega,λk hk=>(h3 k hk).2,zo,⟨?_,?_,?_,?_,?_⟩,?_⟩<;>intro hk
 ·rw [hk] at h2;simp at h2;omega
 ·rw [hk] at h2;simp at h2;omega
 ·rcases hk with hk | hk<;>rw [hk] at h2<;>simp at h2<;>omega
 ·rcases hk with hk | hk | hk<;>rw [hk] at h2<;>simp at h2<;>omega
 ·rw [hk] at h2;simp at h2;omega
 ·rw [hk] at h2;simp at h2;omega
def cmR:Option Cb→AV
 | none=>.tup [.agg [.v (.slice none 0 0),.v (.slice none 0 0),.v (.slice none 0 0)],iv 8]
 | some c=>if c.be.length=0 then .tup [.agg [.v (.slice none 0 0),.v (.slice none 0 0),.v (.slice none 0 0)],iv 3] else .tup [c.av,iv 0]
def rpR:Option Cb→AV
 | none=>.tup [.v (.slice none 0 0),.v (.slice none 0 0),.v (.slice none 0 0),iv 8]
 | some c=>.tup [ivs c.ps,.sl 1 (c.ab.map qpA),qpA c.be,iv 0]
theorem elCombS {ss:List RS} {gs:List RG} {i f:Nat} {k:Int} {nm rb rn rd:AV} {A0 A1:List AV} {c:Cb} (hi:i < ss.length) (hs:(ss.map RS.av).getD i .u=.agg [iv k,nm,.sl 1 A0,rb,rn,rd]) (c0:Pure prog 348 [iv k] (.tup [.agg [.fn f []],.v (.bool true)]))
 (c1:Pure prog 349 [.sl 1 A1] (.sl 1 A1)) (h01:A0=A1) (c2:Pure prog f [figA ss gs,iv i,.sl 1 A1] c.av) (hb:c.be.length≤4):Pure prog 338 [figA ss gs,iv i] (cmR (some c)):=by
 subst h01;have h:=elComb1 (ss.map RS.av) (gs.map RG.av) i k nm A0 rb rn rd f _ _ _ (by rw [ZBr];exact hi) hs c0 c1 c2 (by rw [ZBr];omega);rw [ZBr] at h;exact h
theorem elComb2 (ss:List RS) (gs:List RG) (i:Nat) (hi:i < ss.length) (h8:ss.length≤8) (he:errS ss i=0) (hr:ss[i].r.lm 2) (k2:ss[i].k=2):Pure prog 338 [figA ss gs,iv i] (cmR (cbOf ss[i].k ss[i].ar ss[i].r.q (tOf ss i))):=by
 have hM:(ss.map RS.av).getD i .u=.agg [iv ss[i].k,strA ss[i].nm,ivs ss[i].ar,.v (.bool ss[i].r.s),lim ss[i].r.l,lim ss[i].r.d]:=Zao RS.av hi;have hl:i < (ss.map RS.av).length:=by rw [ZBr];exact hi
 have hA:=st_a hi h8 he hr;obtain⟨h1,h2,h3,h4⟩:=Zn6 hi he;have hg:∀k,k < ss[i].ar.length→0≤gI ss[i].ar k∧gI ss[i].ar k < 40:=λk hk=>by have:=h3 k hk;omega
 have ht:=hA.tr;have cp:Pure prog 362 [.agg [.sl 6 (ss.map RS.av),.sl 5 (gs.map RG.av)],iv i] (iv (tOf ss i)):=elParam ss gs i zo zo;generalize tOf ss i=t at *;generalize ss[i]=s at *;obtain⟨k,nm,ar,r⟩:=s;simp only at hM hA h1 h2 h3 h4 hg hr k2 ⊢;subst k2;obtain⟨a0,a1,rfl⟩:=l2 (show ar.length=2 by simp [arS] at h2;omega);have g0:0≤a0∧a0 < 40:=hg 0 zs;have g1:0≤a1∧a1 < 40:=hg 1 zs;obtain⟨hv,hz⟩:=RQ.ok_av hr (h4 rfl);have hv:AV.agg [.v (.bool r.s),lim r.l,lim r.d]=.agg [.v (.bool (decide (r.q.num < 0))),lim (toL r.q.num.natAbs),lim (toL r.q.den)]:=hv;simp only [AV.agg.injEq,List.cons.injEq,and_true] at hv
 rw [hv.1,hv.2.1,hv.2.2] at hM;exact elCombS hi hM elSch2 (slClone _ _ [] zs) rfl (ZAd _ _ i a0 a1 2 _ _ r.q hl hM hz g0 g1) (cb_ok (show cbOf 2 [a0,a1] r.q t=some _ from rfl) hA.sz hA.rg hA.n40 hA.tr hA.l).be.l
section
attribute [local go_sem] underlying3 underlying4 underlying161 underlying24 underlying26 underlying28 underlying91 underlying76 underlying78 underlying33 underlying34 sz3 by3 z3 szB zB Zas zRat Zav zInt Zau zNat Zag Zar Zah Bool.and_self Zal Zbb zSlQ szQT byQT zQT Za8 zSlT szQP zQP underlying346 underlying47 szFr byFr zFr Zch Zck zSQP underlying9 underlying22 underlying35 underlying81 underlying39 underlying42 underlying30 underlying40 Zbt zErr Za7 Zbw zStr szL byL zL Za9 Zba Zca Zcd zFig Zcc zSlI Zcb zSlS Zbp Zbr Zct Zcu zSlF underlying353 underlying363 underlying350 underlying361 Ze9 Zfb zCmb Ze7 zSch szFn zFn Ze8 zPlc
end
theorem ZAe (k q r:Int) (mid:Bool) (ps:List Int) (hn:ps.length≤100) (AB AT MU AS OT:Nat→List AV) (W PY PR IN:Nat→Nat→List AV) (BE DD AA:List AV) (hA:∀i,i < ps.length→AA.getD i .u=.sl 4 (AB i)) (hlA:AA.length=ps.length)
 (cAt:∀i,i < ps.length→Pure prog 347 [.agg [iv k,iv q,iv r,.v (.bool mid)],iv (gI ps i)] (.sl 4 (AT i)))
 (cMu:∀i,i < ps.length→Pure prog 66 [.sl 4 (AB i),.sl 4 (AT i)] (.sl 4 (MU i)))
 (cAd:∀i,i < ps.length→Pure prog 69 [.sl 4 (AS i),.sl 4 (MU i)] (.sl 4 (AS (i+1)))) (h0:AS 0=[])
 (cB:mid=true→Pure prog 66 [.sl 4 (BE),.sl 4 (AS ps.length)] (.sl 4 (OT 0))) (cW:∀i j,mid=true→i < j→j < ps.length→Pure prog 66 [.sl 4 (AB i),.sl 4 (AB j)] (.sl 4 (W i j)))
 (cP:∀i j,mid=true→i < j→j < ps.length→Pure prog 344 [iv (gI ps i),iv (gI ps j),iv (gI ps i)] (.sl 4 (PY i j)))
 (cT:∀i j,mid=true→i < j→j < ps.length→Pure prog 66 [.sl 4 (W i j),.sl 4 (PY i j)] (.sl 4 (PR i j)))
 (cS:∀i d,mid=true→i+1+d < ps.length→Pure prog 65 [.sl 4 (IN i d),.sl 4 (PR i (i+1+d))] (.sl 4 (IN i (d+1))))
 (hI:∀i,IN i 0=OT i) (hO:∀i,i < ps.length→IN i (ps.length - (i+1))=OT (i+1)) (cD:mid=true→Pure prog 66 [.sl 4 (BE),.sl 4 (BE)] (.sl 4 (DD))) :
 Pure prog 339 [.agg [.sl 1 (ps.map iv),.sl 1 AA,.sl 4 BE],.agg [iv k,iv q,iv r,.v (.bool mid)]] (if mid=true then .agg [.sl 4 (OT ps.length),.sl 4 DD] else .agg [.sl 4 (AS ps.length),.sl 4 BE]):=by
 have hlp:(ps.map iv).length=ps.length:=ZBr ..;have hg:∀i,i < ps.length→(ps.map iv).getD i .u=iv (gI ps i):=λi h=>by rw [Zg2 h];exact Zao iv h
 generalize ps.map iv=PS at *;refine pI func339 rfl ntmps339 results339 call339 ?_
 (refine wkad (w_1 hlp) w_t w_t (w_s ?_);intros)
 rename_i g2 g3 g4;refine Zea (Frz.nil (d:=5) 4 (gC)) ?_;refine Zad (ι:=Nat) (λi e m=>i≤ps.length∧((e 2=.pbox 2 g2 0∧m 2=some (.box g2 353 [.sl 1 PS,.sl 1 AA,.sl 4 BE] false))∧(e 3=.pbox 3 g3 0∧m 3=some (.box g3 350 [iv k,iv q,iv r,.v (.bool mid)] false))∧(e 4=.pbox 4 g4 0∧m 4=some (.box g4 47 [.v (.slice none 0 0),.v (.slice none 0 0)] false)))∧(e 12=.sl 1 PS∧e 13=iv ps.length∧e 14=iv i)∧e 5=.sl 4 (AS i)) (λi=>ps.length - i) 0 zr ?_ ?_
 ·rintro i e m ⟨hi,⟨⟨e2,m2⟩,⟨e3,m3⟩,⟨e4,m4⟩⟩,⟨e12,e13,e14⟩,e5⟩
  by_cases hlt:i < ps.length
  ·have hgi:=hg i hlt;have hai:=hA i hlt;have c1:=cAt i hlt;have c2:=cMu i hlt;have c3:=cAd i hlt;clear cAt cMu cAd cB cW cP cT cS hI hO cD hA hg h0
   (refine wkad (w_14 e2 m2 e3 m3 e4 m4 e12 e13 e14 e5 hlp hgi hai hlA) (w_3 c1 c2 c3) (w_1 (w_d 5 [(8,.sl 4 (AT i)),(9,.sl 4 (MU i)),(10,.sl 4 (AS (i+1)))] [] [])) (w_s ?_);intros)
   exact⟨i+1,⟨zo,⟨⟨gW e2,gW m2⟩,⟨gW e3,gW m3⟩,⟨gW e4,gW m4⟩⟩,⟨gW e12,gW e13,gS⟩,gC⟩,zo⟩
  ·have:i=ps.length:=zo;subst this
   cases mid with
   | false =>
     rw [ZBn zs];clear cAt cMu cAd cB cW cP cT cS hI hO cD hA hg h0
     (refine wkad (w_11 e2 m2 e3 m3 e4 m4 e12 e13 e14 e5 hlp) w_t w_t (w_s ?_);intros)
     all_goals exact gM (w_2 e4 m4)
   | true =>
     rw [ZBo rfl];have cb:=cB rfl;have cd:=cD rfl;clear cAt cMu cAd cB cD h0
     (refine wkad (w_11 e2 m2 e3 m3 e4 m4 e12 e13 e14 e5 hlp) (w_1 cb) w_t (w_s ?_);intros)
     refine Zad (ι:=Nat) (λi e m=>i≤ps.length∧((e 2=.pbox 2 g2 0∧m 2=some (.box g2 353 [.sl 1 PS,.sl 1 AA,.sl 4 BE] false))∧(e 3=.pbox 3 g3 0∧m 3=some (.box g3 350 [iv k,iv q,iv r,.v (.bool true)] false))∧(e 4=.pbox 4 g4 0∧m 4=some (.box g4 47 [.v (.slice none 0 0),.v (.slice none 0 0)] false)))∧(e 44=iv ps.length∧e 45=iv i)∧e 5=.sl 4 (OT i)) (λi=>ps.length - i) 0 zr ?_ ?_
     ·clear e2 m2 e3 m3 e4 m4 e12 e13 e14 e5 cb
      rintro i e m ⟨hi,⟨⟨e2,m2⟩,⟨e3,m3⟩,⟨e4,m4⟩⟩,⟨e44,e45⟩,e5⟩
      by_cases hlt:i < ps.length
      ·have hai:=hA i hlt;have hgi:=hg i hlt
       (refine wkax (w_10 e2 m2 e3 m3 e4 m4 e44 e45 e5 hlp) w_t w_t w_t w_t w_t w_t (w_r 0) (w_s ?_);intros)
       rw [←hI i] at e5;refine Zad (ι:=Nat) (λd e m=>i+1+d≤ps.length∧((e 2=.pbox 2 g2 0∧m 2=some (.box g2 353 [.sl 1 PS,.sl 1 AA,.sl 4 BE] false))∧(e 3=.pbox 3 g3 0∧m 3=some (.box g3 350 [iv k,iv q,iv r,.v (.bool true)] false))∧(e 4=.pbox 4 g4 0∧m 4=some (.box g4 47 [.v (.slice none 0 0),.v (.slice none 0 0)] false)))∧(e 44=iv ps.length∧e 45=iv i∧e 8=iv i∧e 9=iv ((i+1+d:Nat):Int))∧e 5=.sl 4 (IN i d)) (λd=>ps.length - (i+1+d)) 0 zr ?_ ?_
       ·clear e2 m2 e3 m3 e4 m4 e44 e45 e5
        rintro d e m ⟨hd,⟨⟨e2,m2⟩,⟨e3,m3⟩,⟨e4,m4⟩⟩,⟨e44,e45,e8,e9⟩,e5⟩
        by_cases hld:i+1+d < ps.length
        ·have haj:=hA (i+1+d) hld;have hgj:=hg (i+1+d) hld;have c1:=cW i (i+1+d) rfl zo hld;have c2:=cP i (i+1+d) rfl zo hld;have c3:=cT i (i+1+d) rfl zo hld;have c4:=cS i d rfl hld;have hs:((i+1+d:Nat):Int)+1=((i+1+(d+1):Nat):Int):=zo;clear cW cP cT cS hI hO hA hg;generalize hj:i+1+d=j at *
         (refine wkad (w_18 e2 m2 e3 m3 e4 m4 e44 e45 e8 e9 e5 hlp hlA hai hgi haj hgj hs) (w_4 c1 c2 c3 c4) (w_2 (w_d 16 [(10,.sl 4 (W i j))] [] []) (w_d 17 [(17,.sl 4 (PY i j)),(18,.sl 4 (PR i j)),(19,.sl 4 (IN i (d+1)))] [] [])) (w_s ?_);intros)
         exact⟨d+1,⟨zo,⟨⟨gW e2,gW m2⟩,⟨gW e3,gW m3⟩,⟨gW e4,gW m4⟩⟩,⟨gW e44,gW e45,gW e8,gW hs⟩,gC⟩,zo⟩
        ·have hd2:d=ps.length - (i+1):=zo;rw [hd2,hO i hlt] at e5;have hjN:((i+1+d:Nat):Int)=(ps.length:Int):=zo;rw [hjN] at e9;clear cW cP cT cS hI hO hA hg
         (refine wkad (w_12 e2 m2 e3 m3 e4 m4 e44 e45 e8 e9 e5 hlp) w_t w_t (w_s ?_);intros)
         exact⟨i+1,⟨zo,⟨⟨gW e2,gW m2⟩,⟨gW e3,gW m3⟩,⟨gW e4,gW m4⟩⟩,⟨gW e44,gS⟩,gW e5⟩,zo⟩
       ·exact⟨zo,⟨⟨gW e2,gW m2⟩,⟨gW e3,gW m3⟩,⟨gW e4,gW m4⟩⟩,⟨gW e44,gW e45,gC,gS⟩,gW e5⟩
      ·have:i=ps.length:=zo;subst this;clear cW cP cT cS hI hO hA hg
       (refine wkad (w_10 e2 m2 e3 m3 e4 m4 e44 e45 e5 hlp) (w_1 cd) w_t (w_s ?_);intros)
       all_goals exact gM (w_2 e4 m4)
     ·exact⟨ZBx _,⟨⟨gW e2,gW m2⟩,⟨gW e3,gW m3⟩,⟨gW e4,gW m4⟩⟩,⟨gW hlp,gC⟩,gC⟩
 ·exact⟨ZBx _,⟨⟨gC,gC⟩,⟨gC,gC⟩,⟨gC,gC⟩⟩,⟨gC,gW hlp,gC⟩,by rw [h0];exact gC⟩
section
attribute [local go_sem] underlying3 underlying4 underlying161 underlying24 underlying26 underlying28 underlying91 underlying76 underlying78 underlying33 underlying34 sz3 by3 z3 szB zB Zas zRat Zav zInt Zau zNat Zag Zar Zah Bool.and_self Zal Zbb zSlQ szQT byQT zQT Za8 zSlT szQP zQP underlying346 underlying47 szFr byFr zFr Zch Zck zSQP underlying9 underlying22 underlying35 underlying81 underlying39 underlying42 underlying30 underlying40 Zbt zErr Za7 Zbw zStr szL byL zL Za9 Zba Zca Zcd zFig Zcc zSlI Zcb zSlS Zbp Zbr Zct Zcu zSlF underlying353 underlying363 underlying350 underlying361 Ze9 Zfb zCmb Ze7 zSch szFn zFn Ze8 zPlc
end
theorem cbl_b {c:Cb} (h:CbL c) (p:Pl):c.be.length*(afS c p c.ps.length).length≤12:=by
 obtain⟨hb,h⟩:=h;rcases h with⟨u,v,e,hp,h1,h2⟩ | ⟨u,v,w,e,hp,h1,h2⟩
 ·have s1:=Zfp c p 0;have s2:=Zfp c p 1;rw [e] at s1 s2;have s0:(afS c p 0).length=0:=rfl;have s1:(afS c p 1).length≤(afS c p 0).length+u.length:=s1;have s2:(afS c p 2).length≤(afS c p 1).length+v.length:=s2;rw [hp];have:=ZDw c.be.length (show(afS c p 2).length≤u.length+v.length by omega);omega
 ·have s1:=Zfp c p 0;have s2:=Zfp c p 1;have s3:=Zfp c p 2;rw [e] at s1 s2 s3;have s0:(afS c p 0).length=0:=rfl;have s1:(afS c p 1).length≤(afS c p 0).length+u.length:=s1;have s2:(afS c p 2).length≤(afS c p 1).length+v.length:=s2;have s3:(afS c p 3).length≤(afS c p 2).length+w.length:=s3;rw [hp];have:=ZDw c.be.length (show(afS c p 3).length≤u.length+v.length+w.length by omega);omega
theorem cbl_w {c:Cb} (h:CbL c) {i j:Nat} (hij:i < j) (hj:j < c.ps.length):(c.ab.getD i []).length*(c.ab.getD j []).length≤12:=by
 obtain⟨hb,h⟩:=h;rcases h with⟨u,v,e,hp,h1,h2⟩ | ⟨u,v,w,e,hp,h1,h2⟩
 ·rw [e];obtain rfl:i=0:=zo;obtain rfl:j=1:=zo;show u.length*v.length≤12;omega
 ·rw [e];have:(i=0∧j=1)∨(i=0∧j=2)∨(i=1∧j=2):=zo;rcases this with⟨rfl,rfl⟩ | ⟨rfl,rfl⟩ | ⟨rfl,rfl⟩
  ·show u.length*v.length≤12;omega
  ·show u.length*w.length≤12;omega
  ·show v.length*w.length≤12;omega
theorem af_res (c:Cb) (p:Pl):(if p.mid=true then AV.agg [.sl 4 ((out2 c c.ps.length (mulX c.be (afS c p c.ps.length)) c.ps.length).map qtA),.sl 4 ((mulX c.be c.be).map qtA)] else .agg [.sl 4 ((afS c p c.ps.length).map qtA),.sl 4 (c.be.map qtA)])=.agg [qpA (afN c p),qpA (afD c p)]:=by
 unfold afN afD;split<;>rfl
theorem aa_at (c:Cb) {i:Nat} (h:i < c.ab.length):(c.ab.map qpA).getD i .u=.sl 4 ((c.ab.getD i []).map qtA):=by
 rw [Zeh h];exact Zao qpA h
theorem elAffine (c:Cb) (p:Pl) {n:Int} (hc:CbOk c n) (hl:CbL c) (hp:PlOk p n) (hn:n≤40):Pure prog 339 [c.av,p.av] (.agg [qpA (afN c p),qpA (afD c p)]):=by
 have h3:=hc.few;have b40:∀{z:Int},(0≤z∧z < n)→0≤z∧z < 40:=λh=>zo;have hq:=b40 hp.q;have hr:=b40 hp.r;have key:=ZAe p.k p.q p.r p.mid c.ps zo (λi=>(c.ab.getD i []).map qtA) (λi=>(p.at (gI c.ps i)).map qtA) (λi=>(mulX (c.ab.getD i []) (p.at (gI c.ps i))).map qtA) (λi=>(afS c p i).map qtA) (λi=>(out2 c c.ps.length (mulX c.be (afS c p c.ps.length)) i).map qtA)
  (λi j=>(mulX (c.ab.getD i []) (c.ab.getD j [])).map qtA) (λi j=>(pX (gI c.ps i) (gI c.ps j) (gI c.ps i)).map qtA) (λi j=>(prT c i j).map qtA) (λi d=>(in2 c i (out2 c c.ps.length (mulX c.be (afS c p c.ps.length)) i) d).map qtA) (c.be.map qtA) ((mulX c.be c.be).map qtA) (c.ab.map qpA) (λi hi=>aa_at c (by rw [hc.len];exact hi)) (by rw [ZBr];exact hc.len)
  (λi hi=>elAt p.k p.q p.r (gI c.ps i) p.mid ⟨λ_=>Zb3 (.inl rfl) (b40 (Zh5 hc hi)) hq hr,λ_ _=>Zb3 (.inr rfl) hq (b40 (Zh5 hc hi)) hr,λ_ _=>Zb3 (.inr rfl) (b40 (Zh5 hc hi)) hq hr⟩)
  (λi hi=>Zj1 (Zl1 hc hi).s (at_xl hp (Zh5 hc hi) hn).s (ZBv (ZCy (Zl1 hc hi).l (at_xl hp (Zh5 hc hi) hn).l) zd)) (λi hi=>Zz4 ((Zqn hc hp hn i zo).mono zo zd zo) ((Zl1 hc hi).mul (at_xl hp (Zh5 hc hi) hn)).s) rfl
  (λ_=>Zj1 hc.be.s ((Zqn hc hp hn _ (ZBp _)).mono zo zd zo) (cbl_b hl p)) (λi j _ hij hj=>Zj1 (Zl1 hc zo).s (Zl1 hc hj).s (cbl_w hl hij hj))
  (λi j _ hij hj=>ZAa _ _ _ (Zb3 (.inr rfl) (b40 (Zh5 hc zo)) (b40 (Zh5 hc hj)) (b40 (Zh5 hc zo))))
  (λi j _ hij hj=>Zj1 ((Zl1 hc (show i < _ by omega)).mul (Zl1 hc hj)).s (xs_of (Zb3 (.inr rfl) (b40 (Zh5 hc zo)) (b40 (Zh5 hc hj)) (b40 (Zh5 hc zo)))) (ZBv (ZCy (ZBv (Zd1 _ _) (cbl_w hl hij hj)) (Zja _)) zd))
  (λi d _ hd=>Zmq ((Zzn hc hn (Zrm hc hn (afM_xl hc hp hn) i zo) d zo).mono zo zd zo) (prT_xl hc hn zo hd).s)
  (λ_=>rfl) (λ_ _=>rfl) (λ_=>Zj1 hc.be.s hc.be.s (ZBv (ZCy hl.1 hl.1) zd))
 rw [af_res] at key;exact key
abbrev wA (be:QTs) (w:QTs):AV:=.agg [qpA w,qpA be]
theorem elLmA (M G:List AV) (i:Nat) (k a b c:Int) (hi:i < M.length) (c1:Pure prog 151 [.agg [iv k,iv a,iv b,iv c]] (.v (.bool false))):Pure prog 333 [.agg [.sl 6 M,.sl 5 G],iv i,.agg [iv k,iv a,iv b,iv c]] (.tup [.agg [.v (.slice none 0 0),.v (.slice none 0 0)],iv 1]):=by
 refine pI func333 rfl ntmps333 results333 call333 ?_
 (refine wkad (w_1 hi) (w_1 c1) w_t (w_s ?_);intros)
 all_goals exact gL
theorem elLmV (M G:List AV) (i:Nat) (k a b c:Int) (R:AV) (pq:List Int) (nk na nb nc sg sk:Int) (nm:ByteArray) (A0:List AV) (rb:Bool) (rn rd:List Nat) (hi:i < M.length) (hs:M.getD i .u=.agg [iv sk,strA nm,.sl 1 A0,.v (.bool rb),lim rn,lim rd]) (hpl:pq.length≤100)
 (c1:Pure prog 151 [.agg [iv k,iv a,iv b,iv c]] (.v (.bool true))) (c2:Pure prog 231 [.agg [iv k,iv a,iv b,iv c]] (.sl 1 (pq.map iv))) (c3:Pure prog 162 [.agg [iv k,iv a,iv b,iv c]] (.tup [.agg [iv nk,iv na,iv nb,iv nc],iv sg]))
 (hP:∀j,j < pq.length→(M.length:Int)≤gI pq j→R=.tup [.agg [.v (.slice none 0 0),.v (.slice none 0 0)],iv 2])
 (hD:(∀j,j < pq.length→gI pq j < (M.length:Int)) →
  (sg=0∧∃O N,Pure prog 64 [.agg [iv k,iv a,iv b,iv c]] (.sl 4 O)∧Pure prog 335 [iv 1] (.sl 4 N)∧R=.tup [.agg [.sl 4 O,.sl 4 N],iv 0])
  ∨ (¬sg=0∧∃PN O N,Pure prog 231 [.agg [iv nk,iv na,iv nb,iv nc]] (.sl 1 PN)∧Pure prog 230 [.sl 1 PN,iv i] (.v (.bool false))∧Pure prog 64 [.agg [iv k,iv a,iv b,iv c]] (.sl 4 O)∧Pure prog 335 [iv 1] (.sl 4 N)∧R=.tup [.agg [.sl 4 O,.sl 4 N],iv 0])
  ∨ (¬sg=0∧∃PN,Pure prog 231 [.agg [iv nk,iv na,iv nb,iv nc]] (.sl 1 PN)∧Pure prog 230 [.sl 1 PN,iv i] (.v (.bool true)) ∧
    ((sk=4∧∃a0 a1 a2 pk pq pr pm T N SG TT,A0=[iv a0,iv a1,iv a2]∧Pure prog 337 [.agg [iv nk,iv na,iv nb,iv nc],iv i] (.agg [iv pk,iv pq,iv pr,.v (.bool pm)])∧Pure prog 336 [iv a0,iv a1,iv a2,.agg [iv pk,iv pq,iv pr,.v (.bool pm)]] (.agg [.sl 4 T,.sl 4 N])∧Pure prog 335 [iv sg] (.sl 4 SG)∧Pure prog 66 [.sl 4 SG,.sl 4 T] (.sl 4 TT)∧R=.tup [.agg [.sl 4 TT,.sl 4 N],iv 0])
    ∨ (¬sk=4∧∃z,¬z=0∧Pure prog 338 [.agg [.sl 6 M,.sl 5 G],iv i] (.tup [.agg [.v (.slice none 0 0),.v (.slice none 0 0),.v (.slice none 0 0)],iv z])∧R=.tup [.agg [.v (.slice none 0 0),.v (.slice none 0 0)],iv z])
    ∨ (¬sk=4∧∃PS AB BE pk pq pr pm T N SG TT,Pure prog 338 [.agg [.sl 6 M,.sl 5 G],iv i] (.tup [.agg [.sl 1 PS,.sl 1 AB,.sl 4 BE],iv 0])∧Pure prog 337 [.agg [iv nk,iv na,iv nb,iv nc],iv i] (.agg [iv pk,iv pq,iv pr,.v (.bool pm)])∧Pure prog 339 [.agg [.sl 1 PS,.sl 1 AB,.sl 4 BE],.agg [iv pk,iv pq,iv pr,.v (.bool pm)]] (.agg [.sl 4 T,.sl 4 N])∧Pure prog 335 [iv sg] (.sl 4 SG)∧Pure prog 66 [.sl 4 SG,.sl 4 T] (.sl 4 TT)∧R=.tup [.agg [.sl 4 TT,.sl 4 N],iv 0])))) :
 Pure prog 333 [.agg [.sl 6 M,.sl 5 G],iv i,.agg [iv k,iv a,iv b,iv c]] (R):=by
 have hlp:(pq.map iv).length=pq.length:=ZBr ..;have hg:∀j,j < pq.length→(pq.map iv).getD j .u=iv (gI pq j):=λj h=>by rw [Zg2 h];exact Zao iv h
 generalize pq.map iv=PQ at *;refine pI func333 rfl ntmps333 results333 call333 ?_
 (refine wkad (w_2 hi hlp) (w_2 c1 c2) w_t (w_s ?_);intros)
 rename_i g3 g5 g6;refine Zad (ι:=Nat) (λj e m=>j≤pq.length∧(e 1=iv i∧(e 3=.pbox 3 g3 0∧m 3=some (.box g3 42 [.sl 6 M,.sl 5 G] false))∧(e 5=.pbox 5 g5 0∧m 5=some (.box g5 91 [iv k,iv a,iv b,iv c] false))∧(e 6=.pbox 6 g6 0∧m 6=some (.box g6 47 [.v (.slice none 0 0),.v (.slice none 0 0)] false)))∧(e 31=.sl 1 PQ∧e 32=iv pq.length∧e 33=iv j)∧∀j',j' < j→gI pq j' < (M.length:Int)) (λj=>pq.length - j) 0 zr ?_ ?_
 ·rintro j e m ⟨hj,⟨e1,⟨e3,m3⟩,⟨e5,m5⟩,⟨e6,m6⟩⟩,⟨e31,e32,e33⟩,hall⟩
  by_cases hlt:j < pq.length
  ·have hgj:=hg j hlt;have hPj:=hP j hlt;clear hP hD hg c1 c2 c3;by_cases hb:(M.length:Int)≤gI pq j
   ·obtain rfl:=hPj hb;clear hall;generalize gI pq j=z at *
    (refine wkad (w_13 e1 e3 m3 e5 m5 e6 m6 e31 e32 e33 hlp hgj hb) w_t w_t (w_s ?_);intros)
    all_goals exact gM (w_2 e6 m6)
   ·have hall2:∀j',j' < j+1→gI pq j' < (M.length:Int):=λj' h'=>by
     by_cases h2:j'=j
     ·rw [h2];omega
     ·exact hall j' zo
    clear hall hPj;have hb':¬(M.length:Int)≤gI pq j:=hb;generalize hz:gI pq j=z at hgj hb'
    (refine wkad (w_13 e1 e3 m3 e5 m5 e6 m6 e31 e32 e33 hlp hgj hb') w_t w_t (w_s ?_);intros)
    exact⟨j+1,⟨zo,⟨gW e1,⟨gW e3,gW m3⟩,⟨gW e5,gW m5⟩,⟨gW e6,gW m6⟩⟩,⟨gW e31,gW e32,gS⟩,hall2⟩,zo⟩
  ·have hjn:j=pq.length:=zo;subst hjn;have hD:=hD hall;clear hP hall hg c1 c2;rcases hD with⟨hg0,O,N,d1,d2,rfl⟩ | ⟨hg0,PN,O,N,d1,d2,d3,d4,rfl⟩ | ⟨hg0,PN,d1,d2,hD⟩
   ·(refine wkad (w_12 e1 e3 m3 e5 m5 e6 m6 e31 e32 e33 hlp hg0) (w_3 c3 d1 d2) w_t (w_s ?_);intros)
    all_goals exact gM (w_2 e6 m6)
   ·(refine wkad (w_12 e1 e3 m3 e5 m5 e6 m6 e31 e32 e33 hlp hg0) (w_5 c3 d1 d2 d3 d4) w_t (w_s ?_);intros)
    all_goals exact gM (w_2 e6 m6)
   ·rcases hD with⟨h4,a0,a1,a2,pk,pq,pr,pm,T,N,SG,TT,rfl,f1,f2,f3,f4,rfl⟩ | ⟨h4,z,hz,f1,rfl⟩ | ⟨h4,PS,AB,BE,pk,pq,pr,pm,T,N,SG,TT,f0,f1,f2,f3,f4,rfl⟩
    ·(refine wkad (w_15 e1 e3 m3 e5 m5 e6 m6 e31 e32 e33 hlp hg0 h4 hi hs) (w_7 c3 d1 d2 f1 f2 f3 f4) (w_2 (w_d 17 [(14,.agg [iv pk,iv pq,iv pr,.v (.bool pm)]),(15,.agg [.sl 4 T,.sl 4 N])] [] [13]) (w_d 22 [(1,.sl 4 SG),(4,.sl 4 TT)] [6] [])) (w_s ?_);intros)
     all_goals exact gM (w_2 e6 m6)
    ·(refine wkad (w_16 e1 e3 m3 e5 m5 e6 m6 e31 e32 e33 hlp hg0 h4 hz hi hs) (w_4 c3 d1 d2 f1) w_t (w_s ?_);intros)
     all_goals exact gM (w_2 e6 m6)
    ·(refine wkad (w_15 e1 e3 m3 e5 m5 e6 m6 e31 e32 e33 hlp hg0 h4 hi hs) (w_8 c3 d1 d2 f0 f1 f2 f3 f4) (w_2 (w_d 21 [(3,.agg [iv pk,iv pq,iv pr,.v (.bool pm)]),(4,.agg [.sl 4 T,.sl 4 N])] [] [13]) (w_d 22 [(1,.sl 4 SG),(4,.sl 4 TT)] [6] [])) (w_s ?_);intros)
     all_goals exact gM (w_2 e6 m6)
 ·exact⟨ZBx _,⟨gC,⟨gC,gC⟩,⟨gC,gC⟩,⟨gC,gC⟩⟩,⟨gC,gW hlp,gC⟩,λj' h=>absurd h zo⟩
section
attribute [local go_sem] underlying3 underlying4 underlying161 underlying24 underlying26 underlying28 underlying91 underlying76 underlying78 underlying33 underlying34 sz3 by3 z3 szB zB Zas zRat Zav zInt Zau zNat Zag Zar Zah Bool.and_self Zal Zbb zSlQ szQT byQT zQT Za8 zSlT szQP zQP underlying346 underlying47 szFr byFr zFr Zch Zck zSQP underlying9 underlying22 underlying35 underlying81 underlying39 underlying42 underlying30 underlying40 Zbt zErr Za7 Zbw zStr szL byL zL Za9 Zba Zca Zcd zFig Zcc zSlI Zcb zSlS Zbp Zbr Zct Zcu zSlF underlying353 underlying363 underlying350 underlying361 Ze9 Zfb zCmb Ze7 zSch szFn zFn Ze8 zPlc
end
theorem chk_0 {q:Qt} {n:Int} (hok:q.ok=true) (h:∀j,j < q.pts.length→gI q.pts j < n):q.chk n 64=0:=by
 unfold Qt.chk;rw [ZBo hok];have hr:=hok;unfold Qt.ok at hr;simp at hr;by_cases h3:q.k=3
 ·rw [ZBo h3,ZBn zo]
 ·rw [ZBn h3,ZBn λhb=>?_]
  obtain⟨y,hy,hn⟩:∃y,(y=q.a∨y=q.b∨y=q.c)∧n≤y:=by
   rcases hb with hb | hb | hb
   ·exact⟨q.a,.inl rfl,hb⟩
   ·exact⟨q.b,.inr (.inl rfl),hb⟩
   ·exact⟨q.c,.inr (.inr rfl),hb⟩
  have:=Zt8 hok h3 hy;obtain⟨t,ht,e⟩:=List.any_eq_true.1 this;obtain rfl:y=t:=by simpa using e
  obtain⟨j,hj,e⟩:=List.mem_iff_getElem.1 ht;have:=h j hj;rw [Zg2 hj,e] at this;omega
theorem chk_2 {q:Qt} {n:Int} {j:Nat} (hj:j < q.pts.length) (h:n≤gI q.pts j):q.chk n 64=2:=by
 have hm:gI q.pts j∈q.pts:=by rw [Zg2 hj];exact ZB0 hj
 have hh:hasQ (gI q.pts j) q=true:=List.any_eq_true.2 ⟨_,hm,by simp⟩;obtain⟨hok,h3,ho⟩:=Zp4 hh;unfold Qt.chk;rw [ZBo hok,ZBn h3,ZBo zo]
theorem Zyu {q:Qt} {n x:Int} (hc:q.chk n 64=0) (hs:q.norm.2≠0) (hx:hasQ x q.norm.1=true):0≤q.norm.1.a∧q.norm.1.a < n∧0≤q.norm.1.b∧q.norm.1.b < n∧0≤q.norm.1.c∧q.norm.1.c < n:=by
 obtain⟨h1,h2,_⟩:=Zp4 hx;have ha:=Zkf hs (Zt8 h1 h2 (.inl rfl));have hb:=Zkf hs (Zt8 h1 h2 (.inr (.inl rfl)));have hcc:=Zkf hs (Zt8 h1 h2 (.inr (.inr rfl)))
 have hok:q.ok=true:=by
  cases h:q.ok with
  | true=>rfl
  | false=>unfold Qt.norm at hs;rw [ZBn (by rw [h];simp)] at hs;exact absurd rfl hs
 have h3:¬q.k=3:=λh=>by
  unfold Qt.norm at h2;rw [ZBo hok,ZBn zo,ZBn zo] at h2;exact h2 h
 unfold Qt.chk at hc;rw [ZBo hok,ZBn h3] at hc;have hr:=hok;unfold Qt.ok at hr;simp at hr;split at hc
 ·omega
 ·omega
theorem sg_sz2 {s:Int} (h:s=-1∨s=1):Sz (s:Rat) 2:=by
 rcases h with rfl | rfl
 ·exact sz_m1.mono zd
 ·exact Zii.mono zd
def lmA (q:Qt) (n:Int) (z:Int × XX) (N:AV):AV:=if q.chk n 64=0 then (if z.1=0 then .tup [.agg [qpA z.2.1,qpA z.2.2],iv 0] else .tup [.agg [N,.v (.slice none 0 0)],iv z.1]) else .tup [.agg [.v (.slice none 0 0),.v (.slice none 0 0)],iv (q.chk n 64)]
abbrev lmS (ss:List RS) (i:Nat) (hi:i < ss.length) (q:Qt):Int × XX:=lmX ss[i].k ss[i].ar ss[i].r.q (tOf ss i) i q
theorem nx1:nX 1=onX:=by decide +kernel
theorem scl_no (s:Int) (p:QTs) (h:EX p) (hs:s=-1∨s=1):mulX (nX (s:Rat)) p=sclT (s:Rat) p:=by
 show mulX (cstT (s:Rat)) p=_;rw [cstX_mul h,ZBn (by rcases hs with rfl | rfl<;>decide +kernel)]
theorem sg_of {q:Qt} (h:q.norm.2≠0):q.norm.2=-1∨q.norm.2=1:=by
 rcases Zgx q with g | g | g
 ·exact .inl g
 ·exact absurd g h
 ·exact .inr g
theorem XS.l12 {p q:QTs} (hp:p.length≤1) (hq:q.length≤12):p.length*q.length≤12:=ZBv (ZCy hp hq) zd
theorem elNumS {s:Int} (h:s=-1∨s=1):Pure prog 335 [iv s] (qpA (nX (s:Rat))):=by
 rcases h with rfl | rfl
 ·exact elNumM
 ·exact Zqc
theorem elLemmaG (ss:List RS) (gs:List RG) (i:Nat) (hi:i < ss.length) (h8:ss.length≤8) (he:errS ss i=0) (hr:ss[i].r.lm 2) (cc:Pure prog 338 [figA ss gs,iv i] (cmR (cbOf ss[i].k ss[i].ar ss[i].r.q (tOf ss i)))) (ct:ss[i].k=4→∀(p:Pl) (a0 a1 a2:Int),(0≤a0∧a0 < 40)→(0≤a1∧a1 < 40)→(0≤a2∧a2 < 40)→(0≤p.q∧p.q < 40)→(0≤p.r∧p.r < 40)→Pure prog 336 [iv a0,iv a1,iv a2,p.av] (.agg [qpA (tuX a0 a1 a2 p),qpA (nX 1)])) (k a b c:Int):Pure prog 333 [figA ss gs,iv i,.agg [iv k,iv a,iv b,iv c]] (lmA ⟨k,a,b,c⟩ ss.length (lmS ss i hi ⟨k,a,b,c⟩) (.v (.slice none 0 0))):=by
 have hM:(ss.map RS.av).getD i .u=.agg [iv ss[i].k,strA ss[i].nm,ivs ss[i].ar,.v (.bool ss[i].r.s),lim ss[i].r.l,lim ss[i].r.d]:=Zao RS.av hi;have hl:i < (ss.map RS.av).length:=by rw [ZBr];exact hi
 have hlm:((ss.map RS.av).length:Int)=ss.length:=by rw [ZBr]
 have hA:=st_a hi h8 he hr;have c1:=Zk7 k a b c;generalize hq:(⟨k,a,b,c⟩:Qt)=q at *;have hqv:q.av=.agg [iv k,iv a,iv b,iv c]:=by rw [←hq]
 cases hok:q.ok with
 | false =>
   rw [hok] at c1;have h1:q.chk ss.length 64=1:=by unfold Qt.chk;rw [ZBn (by rw [hok];simp)]
   unfold lmA;rw [ZBn (by rw [h1];decide),h1];exact elLmA _ _ i k a b c hl (by rw [←hqv];exact c1)
 | true =>
   rw [hok] at c1;have c2:Pure prog 231 [q.av] (ivs q.pts):=by rw [←hq];exact Zkc k a b c
   have c3:Pure prog 162 [q.av] (.tup [q.norm.1.av,iv q.norm.2]):=by rw [←hq];exact Zx2 k a b c
   have co:=Zz0 hok;have cN:Pure prog 231 [q.norm.1.av] (ivs q.norm.1.pts):=Zkc q.norm.1.k q.norm.1.a q.norm.1.b q.norm.1.c;have cs:=Zw7 q.norm.1.pts i (by have:=Ztj q.norm.1;omega);have cs:Pure prog 230 [ivs q.norm.1.pts,iv i] (.v (.bool (hasQ i q.norm.1))):=cs;have cp:Pure prog 337 [q.norm.1.av,iv i] (Pl.av (plOf q.norm.1 i)):=elPlaced q.norm.1.k q.norm.1.a q.norm.1.b q.norm.1.c i;rw [hqv] at c1 c2 c3 co;refine elLmV _ _ i k a b c _ q.pts q.norm.1.k q.norm.1.a q.norm.1.b q.norm.1.c q.norm.2 ss[i].k ss[i].nm (ss[i].ar.map iv) ss[i].r.s ss[i].r.l ss[i].r.d hl hM (by have:=Ztj q;omega) c1 c2 c3 (λj hj hle=>?_) (λhall=>?_)
   ·rw [hlm] at hle;have h2:=chk_2 hj hle;unfold lmA;rw [ZBn (by rw [h2];decide),h2]
   ·rw [hlm] at hall;have h0:=chk_0 hok hall;have hlA:∀z N,lmA q ss.length z N=if z.1=0 then .tup [.agg [qpA z.2.1,qpA z.2.2],iv 0] else .tup [.agg [N,.v (.slice none 0 0)],iv z.1]:=λz N=>by unfold lmA;rw [ZBo h0]
    rw [hlA];by_cases hs:q.norm.2=0
    ·refine .inl ⟨hs,_,_,co,Zqc,?_⟩;rw [show lmS ss i hi q=(0,(ofX q,[((1:Rat),[])])) from by unfold lmS lmX;rw [ZBo (Or.inl hs)],ZBo rfl,nx1]
    ·cases hh:hasQ i q.norm.1 with
     | false =>
       rw [hh] at cs;refine .inr (.inl ⟨hs,_,_,_,cN,cs,co,Zqc,?_⟩);rw [show lmS ss i hi q=(0,(ofX q,[((1:Rat),[])])) from by unfold lmS lmX;rw [ZBo (Or.inr hh)],ZBo rfl,nx1]
     | true =>
       rw [hh] at cs;have hsg:=sg_of hs;have hpl:=Zto hs (Zyu h0 hs hh) (i:Int);have hln:lmS ss i hi q=if ss[i].k=4 then ((0:Int),(sclT (q.norm.2:Rat) (tuX (gI ss[i].ar 0) (gI ss[i].ar 1) (gI ss[i].ar 2) (plOf q.norm.1 i)),[((1:Rat),[])]))
        else match cbOf ss[i].k ss[i].ar ss[i].r.q (tOf ss i) with
         | none=>((8:Int),(([]:QTs),([]:QTs)))
         | some c=>if c.be=[] then (3,([],[])) else (0,(sclT (q.norm.2:Rat) (afN c (plOf q.norm.1 i)),afD c (plOf q.norm.1 i))):=by
        show lmX _ _ _ _ _ _=_;unfold lmX;exact ZBn (by rintro (h | h);exact hs h;rw [hh] at h;cases h)
       refine .inr (.inr ⟨hs,_,cN,cs,?_⟩);rw [hln];have b40:∀{z:Int},(0≤z∧z < (ss.length:Int))→0≤z∧z < 40:=λh=>zo;by_cases h4:ss[i].k=4
       ·refine .inl ⟨h4,?_⟩;have h3:=hA.l4 h4;obtain⟨a0,a1,a2,har⟩:=l3 h3;have g:∀j,j < 3→0≤gI ss[i].ar j∧gI ss[i].ar j < 40:=λj hj=>b40 (hA.rg j zo);rw [har] at g;have g0:0≤a0∧a0 < 40:=g 0 zd;have g1:0≤a1∧a1 < 40:=g 1 zd;have g2:0≤a2∧a2 < 40:=g 2 zd;have hx:=tu_xl hpl hA.n40 (by have:=hA.rg 0 zo;rw [har] at this;exact this:0≤a0∧a0 < (ss.length:Int)) (by have:=hA.rg 1 zo;rw [har] at this;exact this:0≤a1∧a1 < (ss.length:Int)) (by have:=hA.rg 2 zo;rw [har] at this;exact this:0≤a2∧a2 < (ss.length:Int));refine⟨a0,a1,a2,_,_,_,_,_,_,_,_,by rw [har];rfl,cp,ct h4 (plOf q.norm.1 i) a0 a1 a2 g0 g1 g2 (b40 hpl.q) (b40 hpl.r),elNumS hsg,Zj1 (xs_cst (sg_sz2 hsg)) hx.s (XS.l12 (Zi1 _) (ZBv hx.l zd)),?_⟩
        rw [ZBo h4,ZBo rfl,har];show AV.tup [.agg [qpA (sclT (q.norm.2:Rat) (tuX a0 a1 a2 (plOf q.norm.1 i))),qpA onX],iv 0]=_;rw [←scl_no _ _ hx.x.1 hsg,nx1]
       ·refine .inr ?_;rw [ZBn h4]
        cases hc:cbOf ss[i].k ss[i].ar ss[i].r.q (tOf ss i) with
        | none =>
          rw [hc] at cc;exact .inl ⟨h4,8,by decide,cc,by simp only;rw [ZBn zd]⟩
        | some cb =>
          rw [hc] at cc;have ok:=cb_ok hc hA.sz hA.rg hA.n40 hA.tr hA.l;have cl:=cb_len hc (λg=>by rcases g with g | g;exact hA.l.1 g;exact hA.l.2.1 g);simp only;by_cases hb:cb.be=[]
          ·have cc:Pure prog 338 [figA ss gs,iv i] (.tup [.agg [.v (.slice none 0 0),.v (.slice none 0 0),.v (.slice none 0 0)],iv 3]):=by
            have h:=cc;unfold cmR at h;simp only at h;rw [ZBo (by rw [hb];rfl)] at h;exact h
           rw [ZBo hb];exact .inl ⟨h4,3,by decide,cc,by simp only;rw [ZBn zd]⟩
          ·have cc:Pure prog 338 [figA ss gs,iv i] (.tup [cb.av,iv 0]):=by
            have h:=cc;unfold cmR at h;simp only at h;rw [ZBn (λh=>hb (List.length_eq_zero_iff.1 h))] at h;exact h
           rw [ZBn hb,ZBo rfl];have hl12:=af_len (plOf q.norm.1 i) cl;have hx:=afN_xl ok hpl hA.n40;refine .inr ⟨h4,_,_,_,_,_,_,_,_,_,_,_,cc,cp,elAffine cb (plOf q.norm.1 i) ok cl hpl hA.n40,elNumS hsg,Zj1 (xs_cst (sg_sz2 hsg)) hx.s (XS.l12 (Zi1 _) hl12.1),?_⟩;rw [←scl_no _ _ hx.x.1 hsg]
attribute [local go_sem] Zl4 Zux
abbrev midS:List RS:=[⟨1,⟨#[65]⟩,[],⟨false,[],[]⟩⟩,⟨1,⟨#[66]⟩,[],⟨false,[],[]⟩⟩,⟨1,⟨#[67]⟩,[],⟨false,[],[]⟩⟩,⟨2,⟨#[77]⟩,[1,2],⟨false,[1],[2]⟩⟩]
def midL:Nat→List AV
 | 0=>[.agg [iv 1,strA .empty,.v (.slice none 0 0),.v (.bool false),.v (.slice none 0 0),.v (.slice none 0 0)],.agg [iv 1,strA .empty,.v (.slice none 0 0),.v (.bool false),.v (.slice none 0 0),.v (.slice none 0 0)],.agg [iv 1,strA .empty,.v (.slice none 0 0),.v (.bool false),.v (.slice none 0 0),.v (.slice none 0 0)],.agg [iv 2,strA .empty,.sl 1 [iv 1,iv 2],.v (.bool false),lim [1],lim [2]]]
 | 1=>[.agg [iv 1,strA ⟨#[65]⟩,.v (.slice none 0 0),.v (.bool false),.v (.slice none 0 0),.v (.slice none 0 0)],.agg [iv 1,strA .empty,.v (.slice none 0 0),.v (.bool false),.v (.slice none 0 0),.v (.slice none 0 0)],.agg [iv 1,strA .empty,.v (.slice none 0 0),.v (.bool false),.v (.slice none 0 0),.v (.slice none 0 0)],.agg [iv 2,strA .empty,.sl 1 [iv 1,iv 2],.v (.bool false),lim [1],lim [2]]]
 | 2=>[.agg [iv 1,strA ⟨#[65]⟩,.v (.slice none 0 0),.v (.bool false),.v (.slice none 0 0),.v (.slice none 0 0)],.agg [iv 1,strA ⟨#[66]⟩,.v (.slice none 0 0),.v (.bool false),.v (.slice none 0 0),.v (.slice none 0 0)],.agg [iv 1,strA .empty,.v (.slice none 0 0),.v (.bool false),.v (.slice none 0 0),.v (.slice none 0 0)],.agg [iv 2,strA .empty,.sl 1 [iv 1,iv 2],.v (.bool false),lim [1],lim [2]]]
 | 3=>[.agg [iv 1,strA ⟨#[65]⟩,.v (.slice none 0 0),.v (.bool false),.v (.slice none 0 0),.v (.slice none 0 0)],.agg [iv 1,strA ⟨#[66]⟩,.v (.slice none 0 0),.v (.bool false),.v (.slice none 0 0),.v (.slice none 0 0)],.agg [iv 1,strA ⟨#[67]⟩,.v (.slice none 0 0),.v (.bool false),.v (.slice none 0 0),.v (.slice none 0 0)],.agg [iv 2,strA .empty,.sl 1 [iv 1,iv 2],.v (.bool false),lim [1],lim [2]]]
 | _=>[.agg [iv 1,strA ⟨#[65]⟩,.v (.slice none 0 0),.v (.bool false),.v (.slice none 0 0),.v (.slice none 0 0)],.agg [iv 1,strA ⟨#[66]⟩,.v (.slice none 0 0),.v (.bool false),.v (.slice none 0 0),.v (.slice none 0 0)],.agg [iv 1,strA ⟨#[67]⟩,.v (.slice none 0 0),.v (.bool false),.v (.slice none 0 0),.v (.slice none 0 0)],.agg [iv 2,strA ⟨#[77]⟩,.sl 1 [iv 1,iv 2],.v (.bool false),lim [1],lim [2]]]
attribute [local go_sem] Zks Zoj
theorem szAS:szOf prog 49=some 3:=by kernel_rfl
theorem byAS:Zd5 prog 49=some 56:=by kernel_rfl
theorem zAS:Zan prog 49=some (.agg #[.int .i64 0,.slice none 0 0,.slice none 0 0]):=by kernel_rfl
theorem Zsz:szOf prog 43=some 1:=by kernel_rfl
theorem zSlAS:Zan prog 43=some (.slice none 0 0):=by kernel_rfl
def nmAt (i:Nat) (s:RS):ByteArray:=if s.nm.size=0 then ⟨#[36]⟩++decS i else s.nm
def nmK (ss:List RS) (i:Nat):List ByteArray:=(List.range i).map λj=>nmAt j (ss.getD j ⟨0,.empty,[],⟨false,[],[]⟩⟩)
theorem nmK_len (ss:List RS) (i:Nat):((nmK ss i).map strA).length=i:=by unfold nmK;rw [ZBr,ZBr,List.length_range]
theorem nmK_s {ss:List RS} {i:Nat} (h:i < ss.length):(nmK ss (i+1)).map strA=(nmK ss i).map strA++[strA (nmAt i ss[i])]:=by
 unfold nmK;rw [List.range_succ,ZCb,ZCb,ZCs,ZCs,Zeh h];rfl
theorem dec_sz:∀i,i < 100→(decS i).size≤100:=by decide +kernel
theorem lnNames (ss:List RS) (gs:List RG) (hl:ss.length≤99) (hn:∀s∈ss,s.nm.size≤900):Pure prog 46 [figA ss gs] (.sl 1 ((nmK ss ss.length).map strA)):=by
 have hls:(ss.map RS.av).length=ss.length:=ZBr ..;have hg:∀i (h:i < ss.length),(ss.map RS.av).getD i .u=.agg [iv ss[i].k,strA ss[i].nm,.sl 1 (ss[i].ar.map iv),.v (.bool ss[i].r.s),lim ss[i].r.l,lim ss[i].r.d]:=λi h=>Zao RS.av h;have hsz:∀i (h:i < ss.length),ss[i].nm.size≤900:=λi h=>hn _ (ZB0 h);have hst:∀i (h:i < ss.length),(nmK ss (i+1)).map strA=(nmK ss i).map strA++[strA (nmAt i ss[i])]:=λi h=>nmK_s h;have hnl:=nmK_len ss;show Pure _ _ [.agg [.sl 6 (ss.map RS.av),.sl 5 (gs.map RG.av)]] _;generalize ss.map RS.av=M at *;generalize gs.map RG.av=N at *;have h36:(⟨#[36]⟩:ByteArray).size=1:=rfl
 refine pI func46 rfl ntmps46 results46 call46 ?_;(focus (refine wkap (w_1 hls) w_t (w_r 0) ?_;(repeat' first|exact w_t|apply w_l);all_goals intros));refine Zea (Frz.nilOwn (d:=3) 500 1 9 (gC)) ?_;refine Zad (ι:=Nat) (λi e m=>i≤ss.length∧(e 8=.sl 6 M∧e 9=iv ss.length∧e 10=iv i)∧∃sv,e 3=.own 500 sv∧m 500=some (.row sv 9 1 ((nmK ss i).map strA) 0)) (λi=>ss.length - i) 0 zr ?_ ?_
 ·rintro i e m ⟨hi,⟨e8,e9,e10⟩,sv,e3,m500⟩
  have hnli:=hnl i;by_cases hlt:i < ss.length
  ·have hgi:=hg i hlt;have hs:=Zi7 ss[i].nm;have hsi:=hsz i hlt;have hnx:=hst i hlt;have ci:=scItoa i zo;have hd:=dec_sz i zo;by_cases h0:ss[i].nm.size=0
   ·have ha:nmAt i ss[i]=⟨#[36]⟩++decS i:=ZBo h0;rw [ha] at hnx;rw [ZBw h0] at hs;clear ha hst hg hsz hnl hn;generalize (nmK ss i).map strA=T at *;generalize ss[i]=s at *;generalize decS i=d at *;(focus (refine wkap (w_10 e8 e9 e10 e3 m500 hls hgi hs hnli h36) (w_1 ci) (w_r 0) ?_;(repeat' first|exact w_t|apply w_l);all_goals intros));exact⟨i+1,⟨zo,⟨gW e8,gW e9,gS⟩,_,gC,by rw [hnx];exact gC⟩,zo⟩
   ·have ha:nmAt i ss[i]=ss[i].nm:=ZBn h0;rw [ha] at hnx;rw [ZBy h0] at hs;clear ha hst hg hsz hnl hn;generalize (nmK ss i).map strA=T at *;generalize ss[i]=s at *;(focus (refine wkap (w_9 e8 e9 e10 e3 m500 hls hgi hs hnli) w_t (w_r 0) ?_;(repeat' first|exact w_t|apply w_l);all_goals intros));exact⟨i+1,⟨zo,⟨gW e8,gW e9,gS⟩,_,gC,by rw [hnx];exact gC⟩,zo⟩
  ·have:i=ss.length:=zo;subst this;generalize (nmK ss ss.length).map strA=T at *;(focus (refine wkap (w_6 e8 e9 e10 e3 m500 hls) w_t (w_r 0) ?_;(repeat' first|exact w_t|apply w_l);all_goals intros));all_goals exact gM (w_1 m500)
 ·exact⟨ZBx _,⟨gC,gC,gC⟩,_,gC,gC⟩
attribute [go_sem] underlying49 underlying43 szAS byAS zAS zSlAS
attribute [local go_sem] Zsz
theorem szBL:szOf prog 101=some 2:=by kernel_rfl
theorem zBL:Zan prog 101=some (.agg #[.slice none 0 0,.slice none 0 0]):=by kernel_rfl
theorem ivkBL : ivkOf prog 101 "geoprover/area.eliminate" = some 330 := by kernel_rfl
abbrev AS:=Int × QTs × QTs
abbrev AS.av (t:AS):AV:=.agg [iv t.1,qpA t.2.1,qpA t.2.2]
abbrev wiB:ByteArray:=⟨#[119,105,116,104,111,117,116,32]⟩
abbrev alB:ByteArray:=⟨#[97,108,108]⟩
abbrev coB:ByteArray:=⟨#[58,32]⟩
abbrev ovB:ByteArray:=⟨#[32,111,118,101,114,32]⟩
abbrev nlB:ByteArray:=⟨#[10]⟩
def atW (ns:List ByteArray) (p:Int):ByteArray:=if 0≤p then ns.getD p.toNat .empty else alB
def atT (ns:List ByteArray) (t:AS):ByteArray:=(((((wiB++atW ns t.1)++coB)++eTxt ns t.2.1)++ovB)++eTxt ns t.2.2)++nlB
def atC (n:Int) (t:AS):Int:=if t.1 < -1∨n≤t.1 then 2 else if chkE n t.2.1=0 then chkE n t.2.2 else chkE n t.2.1
def atE (n:Int):List AS→Int
 | []=>0
 | t :: l=>if atC n t=0 then atE n l else atC n t
def atS (ns:List ByteArray) (l:List AS):Nat→ByteArray
 | 0=>⟨#[]⟩
 | i+1=>atS ns l i++atT ns (l.getD i (0,[],[]))
theorem ZA5 {n:Int}:∀{l:List AS},(∀j (h:j < l.length),atC n l[j]=0)→atE n l=0
 | [],_=>rfl
 | q :: l,h=>by
   have h0:atC n q=0:=h 0 zs;unfold atE;rw [ZBo h0];exact ZA5 λj hj=>h (j+1) (by simpa using hj)
theorem atE_at {n:Int}:∀{l:List AS} {i:Nat} (hi:i < l.length),(∀j (h:j < l.length),j < i→atC n l[j]=0)→atC n l[i]≠0→atE n l=atC n l[i]
 | q :: l,0,_,_,h2=>by
   have h2:atC n q≠0:=h2;unfold atE;rw [ZBn h2];rfl
 | q :: l,i+1,hi,h,h2=>by
   have h0:atC n q=0:=h 0 zs zo;unfold atE;rw [ZBo h0];exact atE_at (by simpa using hi) (λj hj hji=>h (j+1) (by simpa using hj) zo) h2
def atR (ns:List ByteArray) (l:List AS):AV:=if atE ns.length l=0 then .tup [strA (atS ns l l.length),iv 0] else .tup [strA ⟨#[]⟩,iv (atE ns.length l)]
theorem atW_sz {ns:List ByteArray} (h:∀s∈ns,s.size≤1000) (p:Int):(atW ns p).size≤1000:=by
 unfold atW;split
 ·by_cases hp:p.toNat < ns.length
  ·rw [Zeh hp];exact h _ (ZB0 hp)
  ·rw [ZB8,ZDb zo];show(0:Nat)≤1000;omega
 ·show(3:Nat)≤1000;omega
theorem atT_sz {ns:List ByteArray} {t:AS} (h:∀s∈ns,s.size≤1000) (h1:(eTxt ns t.2.1).size≤1000000000000) (h2:(eTxt ns t.2.2).size≤1000000000000):(atT ns t).size≤2000000002000:=by
 have h3:=atW_sz h t.1;unfold atT;rw [ZCp,ZCp,ZCp,ZCp,ZCp,ZCp];have e1:wiB.size=8:=rfl;have e2:coB.size=2:=rfl;have e3:ovB.size=6:=rfl;have e4:nlB.size=1:=rfl;omega
theorem atS_sz {ns:List ByteArray} {l:List AS} {i:Nat} (hi:i≤l.length) (h:∀j (h:j < l.length),j < i→(atT ns l[j]).size≤2000000002000):(atS ns l i).size≤i*(2000000002000):=by
 induction i with
 | zero=>unfold atS;exact ZBx _
 | succ i ih =>
   have h1:=ih zo λj hj hji=>h j hj zo;have h2:=h i zo zo;unfold atS;rw [ZCp,Zeh (by omega:i < l.length)];have:(i+1)*(2000000002000)=i*(2000000002000)+(2000000002000):=ZDi ..;omega
theorem ZAf {ss:List ByteArray} {p:QTs} (hs:∀s∈ss,s.size≤1000) (hp:p.length≤10000) {k:Nat} (hk:k≤1000000) (ho:OkT p k) (h:chkE ss.length p=0):(eTxt ss p).size≤1000000000000:=by
 have key:∀{l:QTs},chkE ss.length l=0→∀t∈l,chkP ss.length t.2=0:=by
  intro l
  induction l with
  | nil=>intro _ t ht;cases ht
  | cons q l ih =>
    intro h t ht;unfold chkE at h;by_cases h0:chkP ss.length q.2=0
    ·rw [ZBo h0] at h;rcases List.mem_cons.1 ht with rfl | ht
     ·exact h0
     ·exact ih h t ht
    ·rw [ZBn h0] at h;exact absurd h h0
 unfold eTxt;split
 ·exact(by decide:1≤1000000000000)
 ·refine ZBv (ZAg (ZBp _) λj hj _=>Zou hs (ho _ (ZB0 hj)).1 (ho _ (ZB0 hj)).2 hk (key h _ (ZB0 hj))) ?_;have:p.length*15000003≤10000*15000003:=ZB7 _ hp;exact ZBv this zd
structure AtOk (ss:List ByteArray) (N:AV) (f:Nat) (t:AS):Prop where
 n:Pure prog f [qpA t.2.1,N] (if chkE ss.length t.2.1=0 then .tup [strA (eTxt ss t.2.1),iv 0] else .tup [strA ⟨#[]⟩,iv (chkE ss.length t.2.1)])
 d:Pure prog f [qpA t.2.2,N] (if chkE ss.length t.2.2=0 then .tup [strA (eTxt ss t.2.2),iv 0] else .tup [strA ⟨#[]⟩,iv (chkE ss.length t.2.2)])
 zn:chkE ss.length t.2.1=0→(eTxt ss t.2.1).size≤1000000000000
 zd:chkE ss.length t.2.2=0→(eTxt ss t.2.2).size≤1000000000000
theorem arText (ss:List RS) (gs:List RG) (ns:List ByteArray) (l:List AS) (hns:ns.length=ss.length) (hl:l.length≤1000) (hs:∀s∈ns,s.size≤1000) (hn:ss.length≤1000) (cN:Pure prog 46 [figA ss gs] (.sl 1 (ns.map strA))) (ho:∀t∈l,AtOk ns (.sl 1 (ns.map strA)) 21 t) :
 Pure prog 13 [figA ss gs,.sl 3 (l.map AS.av)] (atR ns l):=by
 have hls:(ss.map RS.av).length=ns.length:=by rw [ZBr,hns]
 have hll:(l.map AS.av).length=l.length:=ZBr ..;have hg:∀i (h:i < l.length),(l.map AS.av).getD i .u=.agg [iv l[i].1,qpA l[i].2.1,qpA l[i].2.2]:=λi h=>Zao AS.av h;have hoi:∀i (h:i < l.length),AtOk ns (.sl 1 (ns.map strA)) 21 l[i]:=λi h=>ho _ (ZB0 h);have hnm:∀p:Int,0≤p→p < ns.length→(ns.map strA).getD p.toNat .u=strA (atW ns p):=λp h1 h2=>by
  have h3:p.toNat < ns.length:=zo;rw [Zao strA h3];unfold atW;rw [ZBo h1,Zeh h3]
 have hnl:(ns.map strA).length=ns.length:=ZBr ..;have cN:Pure prog 46 [.agg [.sl 6 (ss.map RS.av),.sl 5 (gs.map RG.av)]] (.sl 1 (ns.map strA)):=cN;show Pure _ _ [.agg [.sl 6 (ss.map RS.av),.sl 5 (gs.map RG.av)],_] _;generalize hR:atR ns l=R;unfold atR at hR;have hn:ns.length≤1000:=zo;have zW:=atW_sz hs;have z1:wiB.size=8:=rfl;have z2:coB.size=2:=rfl;have z3':ovB.size=6:=rfl;have z4:nlB.size=1:=rfl;have eA:∀p:Int,¬0≤p→atW ns p=alB:=λp h=>ZBn h;have hTs:∀i (h:i < l.length),atC ns.length l[i]=0→(atT ns l[i]).size≤2000000002000:=λi h hc=>by
  unfold atC at hc;split at hc
  ·cases hc
  ·by_cases h1:chkE ns.length l[i].2.1=0
   ·rw [ZBo h1] at hc;exact atT_sz hs ((hoi i h).zn h1) ((hoi i h).zd hc)
   ·rw [ZBn h1] at hc;exact absurd hc h1
 clear ho hs hns;generalize ns.map strA=N at *;generalize ss.map RS.av=M at *;generalize gs.map RG.av=G at *;generalize l.map AS.av=L at *;refine pI func13 rfl ntmps13 results13 call13 ?_;(focus (refine wkap (w_2 hll hls) (w_1 cN) (w_r 0) ?_;(repeat' first|exact w_t|apply w_l);all_goals intros));rename_i g2;refine Zad (ι:=Nat) (λi e m=>i≤l.length∧(∀j (h:j < l.length),j < i→atC ns.length l[j]=0)∧(e 2=.pbox 2 g2 0∧m 2=some (.box g2 42 [.sl 6 M,.sl 5 G] false))∧(e 6=.sl 1 N∧e 16=.sl 3 L∧e 17=iv l.length∧e 18=iv i)∧e 7=strA (atS ns l i)) (λi=>l.length - i) 0 zr ?_ ?_
 ·rintro i e m ⟨hi,hc,⟨e2,m2⟩,⟨e6,e16,e17,e18⟩,e7⟩
  have zS:=atS_sz (ns:=ns) hi λj h hj=>hTs j h (hc j h hj);by_cases hlt:i < l.length
  ·have hgi:=hg i hlt;obtain⟨cn,cd,zn,ud⟩:=hoi i hlt;have zS2:(atS ns l i).size≤2000000002000000:=ZBv zS (ZBv (ZB7 2000000002000 (by omega:i≤1000)) zd);have hat:=λh=>atE_at (n:=ns.length) hlt hc h;have hnx:atS ns l (i+1)=atS ns l i++atT ns l[i]:=by rw [←Zeh (d:=((0,[],[]):AS)) hlt];rfl
   have hc2:atC ns.length l[i]=0→∀j (h:j < l.length),j < i+1→atC ns.length l[j]=0:=λhch j h hj=>by
    rcases ZCc j i with h1 | h1
    ·exact hc j h h1
    ·have:j=i:=zo;subst this;exact hch
   have zWi:=zW l[i].1;have eAi:=eA l[i].1;have hnmi:=hnm l[i].1;have hC:atC ns.length l[i]=if l[i].1 < -1∨(ns.length:Int)≤l[i].1 then 2 else if chkE ns.length l[i].2.1=0 then chkE ns.length l[i].2.2 else chkE ns.length l[i].2.1:=rfl;have hT:atT ns l[i]=(((((wiB++atW ns l[i].1)++coB)++eTxt ns l[i].2.1)++ovB)++eTxt ns l[i].2.2)++nlB:=rfl;clear hg hoi hTs zW eA hnm hc zS;generalize l[i]=t at *;obtain⟨p,tn,td⟩:=t;simp only at cn cd zn ud hgi zWi eAi hnmi hC hT;generalize eTxt ns tn=X at *;generalize eTxt ns td=Y at *;generalize chkE ns.length tn=kn at *;generalize chkE ns.length td=kd at *;generalize tn.map qtA=An at *
   generalize td.map qtA=Ad at *;by_cases hr:p < -1∨(ns.length:Int)≤p
   ·rw [ZBo hr] at hC;rw [hat (by rw [hC];decide),hC,ZBn zd] at hR;rw [←hR];by_cases hr1:p < -1
    ·(focus (refine wkap (w_11 e2 m2 e6 e16 e17 e18 e7 hll hls hgi hr1) w_t (w_r 0) ?_;(repeat' first|exact w_t|apply w_l);all_goals intros));all_goals exact gL
    ·have hr2:(ns.length:Int)≤p:=zo;(focus (refine wkap (w_12 e2 m2 e6 e16 e17 e18 e7 hll hls hgi hr1 hr2) w_t (w_r 0) ?_;(repeat' first|exact w_t|apply w_l);all_goals intros));all_goals exact gL
   ·rw [ZBn hr] at hC;have hr1:¬p < -1:=zo;have hr2:¬(ns.length:Int)≤p:=zo;by_cases hkn:kn=0
    ·rw [ZBo hkn] at hC cn;have zn:=zn hkn;by_cases hkd:kd=0
     ·rw [ZBo hkd] at cd;have ud:=ud hkd;have hc2:=hc2 (by rw [hC];exact hkd);clear hat;by_cases hp:0≤p
      ·have hn1:=hnmi hp zo;generalize atW ns p=W at *;generalize atS ns l i=S at *;have y1:=ZCp (a:=wiB) (b:=W);have y2:=ZCp (a:=wiB++W) (b:=coB);have y3:=ZCp (a:=wiB++W++coB) (b:=X);have y4:=ZCp (a:=wiB++W++coB++X) (b:=ovB);have y5:=ZCp (a:=wiB++W++coB++X++ovB) (b:=Y);have y6:=ZCp (a:=wiB++W++coB++X++ovB++Y) (b:=nlB);(focus (refine wkap (w_a e2 (w_24 m2 e6 e16 e17 e18 e7 hll hls hgi hr1 hr2 hp hn1 hnl z1 z2 z3' z4 y1 y2 y3 y4 y5 y6)) (w_2 cn cd) (w_r 0) ?_;(repeat' first|exact w_t|apply w_l);all_goals intros))
       exact⟨i+1,⟨zo,hc2,⟨gW e2,gW m2⟩,⟨gW e6,gW e16,gW e17,gS⟩,by rw [hnx,hT];exact gC⟩,zo⟩
      ·have hp1:¬0≤p:=hp;rw [eAi hp] at hT;generalize atS ns l i=S at *;have z5:alB.size=3:=rfl;have y1:=ZCp (a:=wiB) (b:=alB);have y2:=ZCp (a:=wiB++alB) (b:=coB);have y3:=ZCp (a:=wiB++alB++coB) (b:=X);have y4:=ZCp (a:=wiB++alB++coB++X) (b:=ovB);have y5:=ZCp (a:=wiB++alB++coB++X++ovB) (b:=Y);have y6:=ZCp (a:=wiB++alB++coB++X++ovB++Y) (b:=nlB);(focus (refine wkap (w_a e2 (w_24 m2 e6 e16 e17 e18 e7 hll hls hgi hr1 hr2 hp1 hnl z1 z2 z3' z4 z5 y1 y2 y3 y4 y5 y6)) (w_2 cn cd) (w_r 0) ?_;(repeat' first|exact w_t|apply w_l);all_goals intros))
       exact⟨i+1,⟨zo,hc2,⟨gW e2,gW m2⟩,⟨gW e6,gW e16,gW e17,gS⟩,by rw [hnx,hT];exact gC⟩,zo⟩
     ·rw [ZBn hkd] at cd;rw [hat (by rw [hC];exact hkd),hC,ZBn hkd] at hR;rw [←hR];by_cases hp:0≤p
      ·have hn1:=hnmi hp zo;generalize atW ns p=W at *;(focus (refine wkap (w_16 e2 m2 e6 e16 e17 e18 e7 hll hls hgi hr1 hr2 hp hn1 hnl hkd) (w_2 cn cd) (w_r 0) ?_;(repeat' first|exact w_t|apply w_l);all_goals intros));all_goals exact gL
      ·(focus (refine wkap (w_15 e2 m2 e6 e16 e17 e18 e7 hll hls hgi hr1 hr2 hp hnl hkd) (w_2 cn cd) (w_r 0) ?_;(repeat' first|exact w_t|apply w_l);all_goals intros));all_goals exact gL
    ·rw [ZBn hkn] at hC cn;rw [hat (by rw [hC];exact hkn),hC,ZBn hkn] at hR;rw [←hR];by_cases hp:0≤p
     ·have hn1:=hnmi hp zo;generalize atW ns p=W at *;(focus (refine wkap (w_16 e2 m2 e6 e16 e17 e18 e7 hll hls hgi hr1 hr2 hp hn1 hnl hkn) (w_1 cn) (w_r 0) ?_;(repeat' first|exact w_t|apply w_l);all_goals intros));all_goals exact gL
     ·(focus (refine wkap (w_15 e2 m2 e6 e16 e17 e18 e7 hll hls hgi hr1 hr2 hp hnl hkn) (w_1 cn) (w_r 0) ?_;(repeat' first|exact w_t|apply w_l);all_goals intros));all_goals exact gL
  ·have:i=l.length:=zo;subst this;rw [ZBo (ZA5 λj h=>hc j h h)] at hR;rw [←hR];(focus (refine wkap (w_8 e2 m2 e6 e16 e17 e18 e7 hll) w_t (w_r 0) ?_;(repeat' first|exact w_t|apply w_l);all_goals intros));all_goals exact gL
 ·exact⟨ZBx _,λj h hj=>zo,⟨gC,gC⟩,⟨gC,gC,gC,gC⟩,gC⟩
attribute [go_sem] underlying101 szBL zBL
attribute [local go_sem] ivkBL
theorem szMQP:szOf prog 151=some 1:=by kernel_rfl
theorem zMQP:Zan prog 151=some (.map none):=by kernel_rfl
def laF (ss:List RS) (p:QTs):Nat→Int
 | 0=>-1
 | i+1=>if (ss.getD i ⟨0,.empty,[],⟨false,[],[]⟩⟩).k≠1∧hasT (i:Int) p=true then (i:Int) else laF ss p i
theorem ZA7 (ss:List RS) (gs:List RG) (p:QTs) (hl:ss.length≤1000000000) (hp:p.length≤1000000) (hq:∀t∈p,t.2.length≤1000000):Pure prog 101 [figA ss gs,qpA p] (iv (laF ss p ss.length)):=by
 have hls:(ss.map RS.av).length=ss.length:=ZBr ..;have hg:∀i (h:i < ss.length),(ss.map RS.av).getD i .u=.agg [iv ss[i].k,strA ss[i].nm,.sl 1 (ss[i].ar.map iv),.v (.bool ss[i].r.s),lim ss[i].r.l,lim ss[i].r.d]:=λi h=>Zao RS.av h;have ch:∀i:Nat,Pure prog 165 [.sl 4 (p.map qtA),iv (i:Int)] (.v (.bool (hasT (i:Int) p))):=λi=>exHas p i hp hq;have hla:∀i (h:i < ss.length),laF ss p (i+1)=if ss[i].k≠1∧hasT (i:Int) p=true then (i:Int) else laF ss p i:=λi h=>by rw [←Zeh (d:=(⟨0,.empty,[],⟨false,[],[]⟩⟩:RS)) h];rfl
 show Pure _ _ [.agg [.sl 6 (ss.map RS.av),.sl 5 (gs.map RG.av)],.sl 4 (p.map qtA)] _;generalize ss.map RS.av=M at *;generalize gs.map RG.av=G at *;generalize p.map qtA=A at *;generalize hR:laF ss p ss.length=R;refine pI func101 rfl ntmps101 results101 call101 ?_;(focus (refine wkap (w_1 hls) w_t (w_r 0) ?_;(repeat' first|exact w_t|apply w_l);all_goals intros));rename_i g2;refine Zad (ι:=Nat) (λi e m=>i≤ss.length∧laF ss p i=R∧(e 2=.pbox 2 g2 0∧m 2=some (.box g2 42 [.sl 6 M,.sl 5 G] false))∧e 1=.sl 4 A∧e 5=iv ((i:Int) - 1)) (λi=>i) ss.length zr ?_ ?_
 ·rintro i e m ⟨hi,hr,⟨e2,m2⟩,e1,e5⟩
  cases i with
  | zero =>
    have hr:(-1:Int)=R:=hr;rw [show((0:Nat):Int) - 1=-1 from rfl] at e5;subst hr;(focus (refine wkap (w_5 e2 m2 e1 e5 hls) w_t (w_r 0) ?_;(repeat' first|exact w_t|apply w_l);all_goals intros));all_goals exact gL
  | succ i =>
    have hlt:i < ss.length:=zo;have hgi:=hg i hlt;have chi:=ch i;rw [hla i hlt] at hr;rw [show((i+1:Nat):Int) - 1=(i:Int) from by omega] at e5;clear hla hg ch;generalize ss[i]=s at *;by_cases hk:s.k=1
    ·rw [ZBn (λh=>h.1 hk)] at hr;(focus (refine wkap (w_7 e2 m2 e1 e5 hls hgi hk) w_t (w_r 0) ?_;(repeat' first|exact w_t|apply w_l);all_goals intros));exact⟨i,⟨zo,hr,⟨gW e2,gW m2⟩,gW e1,gC⟩,zo⟩
    ·cases hb:hasT (i:Int) p with
     | true =>
       rw [hb] at chi hr;rw [ZBo ⟨hk,rfl⟩] at hr;subst hr;(focus (refine wkap (w_7 e2 m2 e1 e5 hls hgi hk) (w_1 chi) (w_r 0) ?_;(repeat' first|exact w_t|apply w_l);all_goals intros));all_goals exact gL
     | false =>
       rw [hb] at chi hr;rw [ZBn zs] at hr;(focus (refine wkap (w_7 e2 m2 e1 e5 hls hgi hk) (w_1 chi) (w_r 0) ?_;(repeat' first|exact w_t|apply w_l);all_goals intros));exact⟨i,⟨zo,hr,⟨gW e2,gW m2⟩,gW e1,gC⟩,zo⟩
 ·exact⟨ZBp _,hR,⟨gC,gC⟩,gC,gW hls⟩
theorem arByL (M G A D X Y:List AV) (p:Int) (c:Pure prog 331 [.agg [.sl 6 M,.sl 5 G],iv p,.agg [.sl 4 A,.sl 4 D]] (.tup [.agg [.sl 4 X,.sl 4 Y],iv 0])):Pure prog 330 [.agg [.sl 6 M,.sl 5 G],iv p,.agg [.sl 4 A,.sl 4 D]] (.tup [.agg [.sl 4 X,.sl 4 Y],iv 0]):=by
 refine pI func330 rfl ntmps330 results330 call330 ?_;(focus (refine wkap w_t (w_1 c) (w_r 0) ?_;(repeat' first|exact w_t|apply w_l);all_goals intros));all_goals exact gL
def roS (P:Nat→Int) (A D:Nat→List AV) (i:Nat):List AV:=(List.range i).map λj=>.agg [iv (P j),.sl 4 (A (j+1)),.sl 4 (D (j+1))]
theorem Zxn (P:Nat→Int) (A D:Nat→List AV) (i:Nat):(roS P A D i).length=i:=by unfold roS;rw [ZBr,List.length_range]
theorem roS_s (P:Nat→Int) (A D:Nat→List AV) (i:Nat):roS P A D (i+1)=roS P A D i++[.agg [iv (P i),.sl 4 (A (i+1)),.sl 4 (D (i+1))]]:=by
 unfold roS;rw [List.range_succ,ZCb];rfl
theorem arSteps (σ:Mem) (K:Nat) (M G:List AV) (N:Nat) (hN:N≤1000) (P:Nat→Int) (A D:Nat→List AV) (hp:∀i,i < N→0≤P i) (hpN:P N < 0)
 (cL:∀i,i≤N→Pure prog 101 [.agg [.sl 6 M,.sl 5 G],.sl 4 (A i)] (iv (P i)))
 (cE:∀i,i < N→Pure prog 330 [.agg [.sl 6 M,.sl 5 G],iv (P i),.agg [.sl 4 (A i),.sl 4 (D i)]] (.tup [.agg [.sl 4 (A (i+1)),.sl 4 (D (i+1))],iv 0])) :
 ACall prog 56 [.agg [.sl 6 M,.sl 5 G],.agg [.sl 4 (A 0),.sl 4 (D 0)],.ifc 101 (.agg [.sl 6 M,.sl 5 G])] σ λr σ'=>∃sv,r=.tup [.own K sv,.agg [.sl 4 (A N),.sl 4 (D N)],iv 0]∧σ'=upd σ K (some (.row sv 49 3 (roS P A D N) 0)):=by
 refine Zjn (args':=[.agg [.sl 6 M,.sl 5 G],.agg [.sl 4 (A 0),.sl 4 (D 0)],.ifc 101 (.agg [.sl 6 M,.sl 5 G])]) func56 rfl ntmps56 results56 call56 zr zs (.cons (Sub.refl _) (.cons (Sub.refl _) (.cons (Sub.refl _) .nil))) ?_;have hL:∀k,lent σ (k+1000)=σ k:=λk=>by unfold lent;rw [ZBn zo,ZE3]
 generalize lent σ=m0 at *;have c0:=cL 0 (ZBx _);(focus (refine wkad w_t (w_1 c0) w_t ?_;(repeat' first|exact w_t|apply w_l);all_goals intros));rename_i g3 g4 g7;refine Zea (Frz.nilOwn (d:=9) 40 3 49 (gC)) ?_;refine Zad (ι:=Nat) (λi e m=>i≤N∧(e 3=.pbox 3 g3 0∧m 3=some (.box g3 42 [.sl 6 M,.sl 5 G] false))∧(e 4=.pbox 4 g4 0∧m 4=some (.box g4 47 [.sl 4 (A i),.sl 4 (D i)] false))∧(e 7=.pbox 7 g7 0∧m 7=some (.box g7 47 [.v (.slice none 0 0),.v (.slice none 0 0)] false))∧(e 2=.ifc 101 (.agg [.sl 6 M,.sl 5 G])∧e 10=iv (P i))∧(∀k,m (k+1000)=σ k)∧∃sv,e 9=.own 40 sv∧m 40=some (.row sv 49 3 (roS P A D i) 0)) (λi=>N - i) 0 zr ?_ ?_
 ·rintro i e m ⟨hi,⟨e3,m3⟩,⟨e4,m4⟩,⟨e7,m7⟩,⟨e2,e10⟩,hm,sv,e9,m40⟩
  by_cases hlt:i < N
  ·have h0:=hp i hlt;have cEi:=cE i hlt;have cLi:=cL (i+1) hlt;have hro:=roS_s P A D i;have hrl:(roS P A D i).length≤1000:=by rw [Zxn];omega
   generalize roS P A D i=Q at *;generalize hP1:P (i+1)=P1 at *;generalize P i=P0 at *;generalize hA1:A (i+1)=A1 at *;generalize hD1:D (i+1)=D1 at *;(focus (refine wkad (w_12 e3 m3 e4 m4 e7 m7 e2 e10 e9 m40 h0 hrl) (w_2 cEi cLi) w_t ?_;(repeat' first|exact w_t|apply w_l);all_goals intros));exact⟨i+1,⟨zo,⟨gW e3,gW m3⟩,⟨gW e4,by rw [hA1,hD1];exact gW m4⟩,⟨gW e7,gW m7⟩,⟨gW e2,by rw [hP1];exact gC⟩,λk=>by rw [←hm k];simp (disch:=omega) [Zam,marks,mark],_,gC,by rw [hro];exact gC⟩,zo⟩
  ·obtain rfl:i=N:=zo;have h0:¬0≤P i:=zo;generalize roS P A D i=Q at *;(focus (refine wkad (w_11 e3 m3 e4 m4 e7 m7 e2 e10 e9 m40 h0) w_t (w_1 (w_d 10 [] [] [7])) ?_;(repeat' first|exact w_t|apply w_l);all_goals intros));simp (disch:=omega) only [go_sem,e7];refine back_new (r:=.tup [.own K sv,.agg [.sl 4 (A i),.sl 4 (D i)],iv 0]) 40 K zo (Sub.tup [_,_,_] [_,_,_] rfl ?_) ⟨sv,rfl,rfl⟩ ?_ ?_
   ·intro j a b ha hb
    match j,ha,hb with
    | 0,ha,hb =>
      simp only [ZEm,Option.some.injEq] at ha hb;subst ha;subst hb;exact Sub.own _ _ _
    | 1,ha,hb =>
      simp only [ZFs,ZEm,Option.some.injEq] at ha hb;subst ha;subst hb;exact Sub.refl _
    | 2,ha,hb =>
      simp only [ZFs,ZEm,Option.some.injEq] at ha hb;subst ha;subst hb;exact Sub.refl _
    | j+3,ha,hb=>simp at ha
   ·simp (disch:=omega) only [go_sem,m40,Zam,ZBo]
   ·intro k hk _;simp (disch:=omega) only [go_sem,hm,Zam,ZBn hk]
 ·exact⟨ZBx _,⟨gC,gC⟩,⟨gC,gC⟩,⟨gC,gC⟩,⟨gC,gC⟩,λk=>by rw [←hL k];simp (disch:=omega) [Zam,marks,mark],_,gC,by(simp (disch:=omega) only [go_sem,roS,List.range_zero,ZDk]<;>repeat' first|rfl|refine⟨?_,?_⟩)⟩
theorem elMost (a:QTs) (q:Qt) {n:Nat} (hl:a.length≤1000000) (hq:∀t∈a,t.2.length≤n) (hn:n≤1000000):Pure prog 340 [qpA a,q.av] (iv (moQ q a)):=by
 have hlm:(a.map qtA).length=a.length:=ZBr ..;have hg:∀k (h:k < a.length),(a.map qtA).getD k .u=.agg [.v (.bool (decide (a[k].1.num < 0))),lim (toL a[k].1.num.natAbs),lim (toL a[k].1.den),.sl 4 (a[k].2.map Qt.av)]:=λk h=>Zao qtA h;have hts:∀k (h:k < a.length),moQ q (a.take (k+1))=max (moQ q (a.take k)) (tmQ q a[k].2):=λk h=>by rw [ZEd h,Zy2]
 have hf:a.take a.length=a:=ZDc;have hq2:∀k (h:k < a.length),a[k].2.length≤1000000:=λk h=>ZBv (hq _ (ZB0 h)) hn;have hmb:∀k,moQ q (a.take k)≤1000000:=λk=>mo_le λt ht=>ZBv (hq t (ZC6 ht)) hn;obtain⟨q1,q2,q3,q4⟩:=q;show Pure _ _ [.sl 4 (a.map qtA),.agg [iv q1,iv q2,iv q3,iv q4]] _;generalize a.map qtA=A at *;refine pI func340 rfl ntmps340 results340 call340 ?_
 (refine wkap (w_1 hlm) w_t (w_r 0) (w_s ?_);intros)
 rename_i g3;refine Zad (ι:=Nat) (λk e m=>k≤a.length∧(e 3=.pbox 3 g3 0∧m 3=some (.box g3 91 [iv q1,iv q2,iv q3,iv q4] false))∧e 5=iv (moQ ⟨q1,q2,q3,q4⟩ (a.take k))∧e 11=.sl 4 A∧e 12=iv a.length∧e 13=iv k) (λk=>a.length - k) 0 zr ?_ ?_
 ·rintro k e m ⟨hk,⟨e3,m3⟩,e5,e11,e12,e13⟩
  by_cases hlt:k < a.length
  ·have hgk:=hg k hlt;have htk:=hts k hlt;have hqk:=hq2 k hlt;have hmk:=hmb k;have hwm:(a[k].2.map Qt.av).length=a[k].2.length:=ZBr ..;have hwe:∀b (h:b < a[k].2.length),(a[k].2.map Qt.av).getD b .u=Qt.av a[k].2[b]:=λb h=>Zao Qt.av h;clear hts hg hf hq hq2 hmb;generalize moQ _ (a.take k)=mo at *;generalize a[k]=u at *;obtain⟨u1,w⟩:=u;simp only at htk hqk hwm hwe hgk;have hws:∀b (h:b < w.length),tmQ ⟨q1,q2,q3,q4⟩ (w.take (b+1))=if w[b]=⟨q1,q2,q3,q4⟩ then tmQ ⟨q1,q2,q3,q4⟩ (w.take b)+1 else tmQ ⟨q1,q2,q3,q4⟩ (w.take b):=λb h=>by rw [ZEd h,Zwp]
   have hwb:∀b,tmQ ⟨q1,q2,q3,q4⟩ (w.take b)≤1000000:=λb=>by have:=tm_le ⟨q1,q2,q3,q4⟩ (w.take b);rw [ZB9] at this;omega
   have hwf:w.take w.length=w:=ZDc;generalize w.map Qt.av=qs at *;generalize toL u1.num.natAbs=un at *;generalize toL u1.den=ud at *;generalize decide (u1.num < 0)=us at *
   (refine wkap (w_9 e3 m3 e5 e11 e12 e13 hlm hgk hwm) w_t (w_r 0) (w_s ?_);intros)
   refine Zad (ι:=Nat) (λb e m=>b≤w.length∧(e 3=.pbox 3 g3 0∧m 3=some (.box g3 91 [iv q1,iv q2,iv q3,iv q4] false))∧e 5=iv mo∧(e 11=.sl 4 A∧e 12=iv a.length∧e 13=iv k)∧e 8=iv (tmQ ⟨q1,q2,q3,q4⟩ (w.take b))∧e 18=.sl 4 qs∧e 19=iv w.length∧e 20=iv b) (λb=>w.length - b) 0 zr ?_ ?_
   ·rintro b e m ⟨hb,⟨e3,m3⟩,e5,⟨e11,e12,e13⟩,e8,e18,e19,e20⟩
    by_cases hbl:b < w.length
    ·have hqb:=hwe b hbl;have hsb:=hws b hbl;have htb:=hwb b;clear hws hwb hwe hwf;by_cases hx:w[b]=⟨q1,q2,q3,q4⟩
     ·rw [ZBo hx] at hsb;rw [hx] at hqb;generalize tmQ _ (w.take b)=tn at *;have hs:(tn:Int)+1=((tn+1:Nat):Int):=zo
      (refine wkap (w_13 e3 m3 e5 e11 e12 e13 e8 e18 e19 e20 hwm hqb hs) w_t (w_r 0) (w_s ?_);intros)
      exact⟨b+1,⟨zo,⟨gW e3,gW m3⟩,gW e5,⟨gW e11,gW e12,gW e13⟩,by rw [hsb];exact gW (And.intro e8 hs),gW e18,gW e19,gS⟩,zo⟩
     ·rw [ZBn hx] at hsb;generalize w[b]=y at *;obtain⟨y1,y2,y3,y4⟩:=y;have hx:¬(y1=q1∧y2=q2∧y3=q3∧y4=q4):=λh=>hx (by obtain⟨rfl,rfl,rfl,rfl⟩:=h;rfl);generalize tmQ _ (w.take b)=tn at *
      (refine wkap (w_13 e3 m3 e5 e11 e12 e13 e8 e18 e19 e20 hwm hqb hx) w_t (w_r 0) (w_s ?_);intros)
      exact⟨b+1,⟨zo,⟨gW e3,gW m3⟩,gW e5,⟨gW e11,gW e12,gW e13⟩,by rw [hsb];exact gW e8,gW e18,gW e19,gS⟩,zo⟩
    ·have:b=w.length:=zo;subst this;rw [hwf] at e8;clear hws hwb hwe hwf;generalize tmQ _ w=tn at *;have hm:max (mo:Int) (tn:Int)=((max mo tn:Nat):Int):=zo
     (refine wkap (w_12 e3 m3 e5 e11 e12 e13 e8 e18 e19 e20 hwm hm) w_t (w_r 0) (w_s ?_);intros)
     exact⟨k+1,⟨zo,⟨gW e3,gW m3⟩,by rw [htk];exact gW hm,gW e11,gW e12,gS⟩,zo⟩
   ·exact⟨ZBx _,⟨gW e3,gW m3⟩,gW e5,⟨gW e11,gW e12,gW e13⟩,gC,gC,gW hwm,gC⟩
  ·have:k=a.length:=zo;subst this;rw [hf] at e5;generalize moQ _ a=tn at *
   (refine wkap (w_7 e3 m3 e5 e11 e12 e13 hlm) w_t (w_r 0) (w_s ?_);intros)
   all_goals exact gL
 ·exact⟨ZBx _,⟨gC,gC⟩,gC,gC,gW hlm,gC⟩
theorem elRaised (p d:QTs) (z:Int) (hz:z≤1000000) (hc:∀i,i < z.toNat→Pure prog 66 [qpA (rsX p d i),qpA d] (qpA (rsX p d (i+1)))):Pure prog 341 [qpA p,qpA d,iv z] (qpA (rsX p d z.toNat)):=by
 show Pure _ _ [.sl 4 (p.map qtA),.sl 4 (d.map qtA),_] (.sl 4 ((rsX p d z.toNat).map qtA));have hc:∀i,i < z.toNat→Pure prog 66 [.sl 4 ((rsX p d i).map qtA),.sl 4 (d.map qtA)] (.sl 4 ((rsX p d (i+1)).map qtA)):=hc;generalize d.map qtA=D at *;have h0:(rsX p d 0).map qtA=p.map qtA:=rfl;generalize p.map qtA=PP at *;refine pI func341 rfl ntmps341 results341 call341 ?_
 (refine wkap w_t w_t (w_r 0) (w_s ?_);intros)
 refine Zad (ι:=Nat) (λi e m=>i≤z.toNat∧e 0=.sl 4 ((rsX p d i).map qtA)∧e 1=.sl 4 D∧e 7=iv z∧e 8=iv i) (λi=>z.toNat - i) 0 zr ?_ ?_
 ·rintro i e m ⟨hi,e0,e1,e7,e8⟩
  by_cases hlt:(i:Int) < z
  ·have c:=hc i zo;clear hc;generalize hS:(rsX p d (i+1)).map qtA=S2 at *;generalize (rsX p d i).map qtA=S1 at *
   (refine wkap (w_5 e0 e1 e7 e8 hlt) (w_1 c) (w_r 0) (w_s ?_);intros)
   exact⟨i+1,⟨zo,by rw [hS];exact gC,gW e1,gW e7,gS⟩,zo⟩
  ·have hiz:i=z.toNat:=zo;rw [←hiz];clear hc;generalize (rsX p d i).map qtA=S1 at *
   (refine wkap (w_5 e0 e1 e7 e8 hlt) w_t (w_r 0) (w_s ?_);intros)
   all_goals exact gL
 ·exact⟨ZBx _,by rw [h0];exact gC,gC,gC,gC⟩
end Go.Proofs.YtkefeinbjbeidaaGreatDoor
