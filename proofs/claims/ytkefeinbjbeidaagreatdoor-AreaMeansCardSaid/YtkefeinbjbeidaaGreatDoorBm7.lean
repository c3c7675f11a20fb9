/- Contracts of the functions that the law reaches, and the rules by which they are walked. They say what a call hands back for every input within the bounds that each names; no other condition. -/
import Derived.Test.YtkefeinbjbeidaaGreatDoorBm6
import Derived.Laws.RangeString
import Derived.Lib.OthersKept
import Derived.Laws.Strings
set_option linter.unusedSimpArgs false
set_option linter.unusedVariables false
set_option maxRecDepth 20000
set_option maxHeartbeats 16000000
namespace Go.Proofs.YtkefeinbjbeidaaGreatDoor
open Go Go.RowKit Go.Pg Go.Pol Go.Proofs.Tryz
attribute [-bool_to_prop] Bool.and_eq_decide Bool.or_eq_decide Bool.decide_beq_decide decide_eq_decide
attribute [go_sem] zSlQ
attribute [local go_sem] Za5 Zbv Zag Zao Zah Bool.and_self Zal Zma Zu0 Zbb
abbrev qsA (l:List Qt):AV:=.sl 4 (l.map Qt.av)
def LTq (p q:Qt):Prop:=p.k < q.k∨(p.k=q.k∧(p.a < q.a∨(p.a=q.a∧(p.b < q.b∨(p.b=q.b∧p.c < q.c)))))
theorem Zhk (x y:Int):(ordI x y=-1∧x < y)∨(ordI x y=0∧x=y)∨(ordI x y=1∧y < x):=by
 unfold ordI;split
 ·exact .inl ⟨rfl,zo⟩
 ·split
  ·exact .inr (.inr ⟨rfl,zo⟩)
  ·exact .inr (.inl ⟨rfl,zo⟩)
theorem Zg6 (p q:Qt):(Qt.cmp p q=-1∧LTq p q)∨(Qt.cmp p q=0∧p=q)∨(Qt.cmp p q=1∧LTq q p):=by
 obtain⟨k,a,b,c⟩:=p;obtain⟨k',a',b',c'⟩:=q;unfold Qt.cmp or4 LTq;simp only;rcases Zhk k k' with⟨h,g⟩ | ⟨h,g⟩ | ⟨h,g⟩
 ·rw [h];exact .inl ⟨rfl,zo⟩
 ·rw [h];rcases Zhk a a' with⟨i,f⟩ | ⟨i,f⟩ | ⟨i,f⟩
  ·rw [i];exact .inl ⟨rfl,zo⟩
  ·rw [i];rcases Zhk b b' with⟨j,e⟩ | ⟨j,e⟩ | ⟨j,e⟩
   ·rw [j];exact .inl ⟨rfl,zo⟩
   ·rw [j];rcases Zhk c c' with⟨m,d⟩ | ⟨m,d⟩ | ⟨m,d⟩
    ·rw [m];exact .inl ⟨rfl,zo⟩
    ·rw [m];exact .inr (.inl ⟨rfl,by rw [g,f,e,d]⟩)
    ·rw [m];exact .inr (.inr ⟨rfl,zo⟩)
   ·rw [j];exact .inr (.inr ⟨rfl,zo⟩)
  ·rw [i];exact .inr (.inr ⟨rfl,zo⟩)
 ·rw [h];exact .inr (.inr ⟨rfl,zo⟩)
theorem LTq.asymm {p q:Qt} (h:LTq p q) (k:LTq q p):False:=by unfold LTq at *;omega
theorem LTq.irr {p:Qt} (h:LTq p p):False:=h.asymm h
theorem cmp_lt (p q:Qt):Qt.cmp p q < 0↔LTq p q:=by
 rcases Zg6 p q with⟨h,g⟩ | ⟨h,g⟩ | ⟨h,g⟩
 ·rw [h];exact⟨λ_=>g,λ_=>zo⟩
 ·rw [h];exact⟨λe=>zo,λe=>by rw [g] at e;exact e.irr.elim⟩
 ·rw [h];exact⟨λe=>zo,λe=>(g.asymm e).elim⟩
theorem cmp_gt (p q:Qt):0 < Qt.cmp p q↔LTq q p:=by
 rcases Zg6 p q with⟨h,g⟩ | ⟨h,g⟩ | ⟨h,g⟩
 ·rw [h];exact⟨λe=>zo,λe=>(g.asymm e).elim⟩
 ·rw [h];exact⟨λe=>zo,λe=>by rw [g] at e;exact e.irr.elim⟩
 ·rw [h];exact⟨λ_=>g,λ_=>zo⟩
theorem qtO:CO Qt.cmp where
 eqz p q h:=by
  rcases Zg6 p q with⟨e,_⟩ | ⟨_,g⟩ | ⟨e,_⟩
  ·omega
  ·exact g
  ·omega
 refl p:=by
  rcases Zg6 p p with⟨_,g⟩ | ⟨e,_⟩ | ⟨_,g⟩
  ·exact g.irr.elim
  ·exact e
  ·exact g.irr.elim
 flip p q:=by rw [cmp_lt,cmp_gt]
 tr p q r h k:=by rw [cmp_lt] at *;unfold LTq at *;omega
abbrev ordQ:List Qt→List Qt→Int:=ordL Qt.cmp
theorem Zbh:CO ordQ:=ordL_co qtO
abbrev w8 (n:Int):Int:=IntKind.u8.wrap n
def keyN (l:List Qt):List Int:=l.flatMap λq=>[w8 q.k,w8 q.a,w8 q.b,w8 q.c]
def keyS (l:List Qt):ByteArray:=Zgl (keyN l)
abbrev u8A (n:Int):AV:=.v (.int .u8 n)
theorem Zwm (l:List Int):Zm3 (l.map u8A)=some l:=by
 induction l with
 | nil=>rfl
 | cons a l ih=>show(Zm3 (l.map u8A)).map (a :: ·)=_;rw [ih];rfl
theorem Zzg (l:List Qt) (q:Qt):keyN (l++[q])=keyN l++[w8 q.k,w8 q.a,w8 q.b,w8 q.c]:=by unfold keyN;rw [ZHc];simp
theorem Ziy (l:List Qt):(keyN l).length=4*l.length:=by
 induction l with
 | nil=>rfl
 | cons a l ih =>
   show([_,_,_,_]++keyN l).length=_;rw [ZCg,ih];simp only [ZB5,ZCf];omega
theorem Zqy (ns:List Int):(Zgl ns).data.toList=ns.map λn=>UInt8.ofNat n.toNat:=by
 have key:∀(ns:List Int) (acc:ByteArray),(ns.foldl (λr n=>r.push (UInt8.ofNat n.toNat)) acc).data.toList=acc.data.toList++ns.map λn=>UInt8.ofNat n.toNat:=by
  intro ns
  induction ns with
  | nil=>intro acc;simp
  | cons n ns ih=>intro acc;rw [ZGe,ih];simp [ByteArray.push]
 unfold Zgl;rw [key];rfl
theorem Zol {n:Int} (h0:0≤n) (h1:n < 256):w8 n=n:=by unfold w8 IntKind.wrap;simp [IntKind.signed,IntKind.bits];omega
def Qt.b8 (q:Qt):Prop:=(0≤q.k∧q.k < 256)∧(0≤q.a∧q.a < 256)∧(0≤q.b∧q.b < 256)∧0≤q.c∧q.c < 256
theorem ok_b8 {q:Qt} (h:q.ok=true):q.b8:=by
 unfold Qt.ok at h;have h:=ZGx h;unfold Qt.b8;omega
theorem Ztz:∀{l m:List Qt},(∀q∈l,q.b8)→(∀q∈m,q.b8)→keyN l=keyN m→l=m
 | [],[],_,_,_=>rfl
 | [],b :: m,_,_,h=>by have:=ZDv List.length h;rw [Ziy,Ziy] at this;simp at this
 | a :: l,[],_,_,h=>by have:=ZDv List.length h;rw [Ziy,Ziy] at this;simp at this
 | a :: l,b :: m,hl,hm,h=>by
   have h:w8 a.k :: w8 a.a :: w8 a.b :: w8 a.c :: keyN l=w8 b.k :: w8 b.a :: w8 b.b :: w8 b.c :: keyN m:=h;simp only [List.cons.injEq] at h;obtain⟨h1,h2,h3,h4,h5⟩:=h;obtain⟨⟨a1,a2⟩,⟨a3,a4⟩,⟨a5,a6⟩,a7,a8⟩:=hl a (.head _);obtain⟨⟨b1,b2⟩,⟨b3,b4⟩,⟨b5,b6⟩,b7,b8⟩:=hm b (.head _);rw [Zol a1 a2,Zol b1 b2] at h1;rw [Zol a3 a4,Zol b3 b4] at h2;rw [Zol a5 a6,Zol b5 b6] at h3;rw [Zol a7 a8,Zol b7 b8] at h4;rw [Ztz (λq hq=>hl q (.tail _ hq)) (λq hq=>hm q (.tail _ hq)) h5];congr 1;obtain⟨_,_,_,_⟩:=a;obtain⟨_,_,_,_⟩:=b;simp only at h1 h2 h3 h4;rw [h1,h2,h3,h4]
theorem keyN_b (l:List Qt):∀n∈keyN l,0≤n∧n < 256:=by
 have hw:∀n,0≤w8 n∧w8 n < 256:=λn=>by unfold w8 IntKind.wrap;simp [IntKind.signed,IntKind.bits];omega
 intro n hn;unfold keyN at hn;simp only [List.mem_flatMap,ZE8,List.not_mem_nil,or_false] at hn;obtain⟨q,_,h | h | h | h⟩:=hn<;>(rw [h];exact hw _)
theorem Zqc:∀{a b:List Int},(∀n∈a,0≤n∧n < 256)→(∀n∈b,0≤n∧n < 256)→(a.map λn:Int=>UInt8.ofNat n.toNat)=(b.map λn:Int=>UInt8.ofNat n.toNat)→a=b
 | [],[],_,_,_=>rfl
 | [],_ :: _,_,_,h=>by simp at h
 | _ :: _,[],_,_,h=>by simp at h
 | x :: a,y :: b,ha,hb,h=>by
   simp only [ZCm,List.cons.injEq] at h;obtain⟨h1,h2⟩:=h;obtain⟨x0,x1⟩:=ha x (.head _);obtain⟨y0,y1⟩:=hb y (.head _);have e:=ZDv UInt8.toNat h1;simp only [UInt8.toNat_ofNat'] at e;have:x=y:=zo;rw [this,Zqc (λn hn=>ha n (.tail _ hn)) (λn hn=>hb n (.tail _ hn)) h2]
theorem Zty {l m:List Qt} (hl:∀q∈l,q.b8) (hm:∀q∈m,q.b8) (h:keyS l=keyS m):l=m:=by
 refine Ztz hl hm (Zqc (keyN_b l) (keyN_b m) ?_);have:=ZDv (λs:ByteArray=>s.data.toList) h;simp only [keyS,Zqy] at this;exact this
theorem qt_at {l:List Qt} {j:Nat} (h:j < l.length):(l.map Qt.av).getD j .u=Qt.av (l.getD j Qt.zero):=Zfw h
theorem exKey (l:List Qt) (hl:l.length≤1000):Pure prog 195 [qsA l] (strA (keyS l)):=by
 have hlm:(l.map Qt.av).length=l.length:=ZBt ..;have hg:∀j,j < l.length→(l.map Qt.av).getD j .u=Qt.av (l.getD j Qt.zero):=λj h=>qt_at h;have hz:(4*(l.length:Int)).toNat=4*l.length:=zo;show Pure _ _ [.sl 4 (l.map Qt.av)] _;generalize l.map Qt.av=M at *;refine pI func195 rfl ntmps195 results195 call195 ?_
 (refine wkap (w_2 hlm hz) w_t (w_r 0) (w_s ?_);intros)
 refine Zad (ι:=Nat) (λi e m=>i≤l.length∧(∃sv,e 3=.own 9 sv∧m 9=some (.row sv 5 1 ((keyN (l.take i)).map u8A) 0))∧e 10=.sl 4 M∧e 11=iv l.length∧e 12=iv i) (λi=>l.length - i) 0 zr ?_ ?_
 ·rintro i e m ⟨hi,⟨sv,e3,m9⟩,e10,e11,e12⟩
  by_cases hlt:i < l.length
  ·have hgi:=hg i hlt
   have hs:keyN (l.take (i+1))=keyN (l.take i)++[w8 (l.getD i Qt.zero).k,w8 (l.getD i Qt.zero).a,w8 (l.getD i Qt.zero).b,w8 (l.getD i Qt.zero).c]:=by
    rw [ZFl,ZBx hlt,ZB6,ZBx hlt];exact Zzg _ _
   have hkl:((keyN (l.take i)).map u8A).length=4*i:=by rw [ZBt,Ziy,ZB9];omega
   have hma:(keyN (l.take (i+1))).map u8A=(keyN (l.take i)).map u8A++[u8A (w8 (l.getD i Qt.zero).k),u8A (w8 (l.getD i Qt.zero).a),u8A (w8 (l.getD i Qt.zero).b),u8A (w8 (l.getD i Qt.zero).c)]:=by rw [hs,ZCe];rfl
   clear hg hs;generalize (keyN (l.take i)).map u8A=K at *;generalize l.getD i Qt.zero=q at *;obtain⟨k,a,b,c⟩:=q;simp only at *
   (refine wkap (w_8 e3 m9 e10 e11 e12 hlm hgi hkl) w_t (w_r 0) (w_s ?_);intros)
   exact⟨i+1,⟨zo,⟨_,gC,by rw [hma];exact gC⟩,gW e10,gW e11,gS⟩,zo⟩
  ·have hil:i=l.length:=zo;subst hil;have hu:Zm3 ((keyN l).map u8A)=some (keyN l):=Zwm _;rw [ZC8] at m9;unfold keyS;generalize (keyN l).map u8A=K at *
   (refine wkap (w_6 e3 m9 e10 e11 e12 hu) w_t (w_r 0) (w_s ?_);intros)
   all_goals exact gL
 ·exact⟨ZBw _,⟨_,gC,gC⟩,gC,gW hlm,gC⟩
attribute [go_sem] underlying78 underlying33 underlying34 szQT byQT zQT zSlT szQP zQP
attribute [local go_sem] Za7
theorem lexL_at {α:Type} {cmp:α→α→Int} {l m:List α} {i:Nat} (hl:i < l.length) (hm:i < m.length):lexL cmp (l.drop i) (m.drop i)=if cmp l[i] m[i]=0 then lexL cmp (l.drop (i+1)) (m.drop (i+1)) else cmp l[i] m[i]:=by
 rw [ZD7 hl,ZD7 hm,Zb6]
abbrev ordT (s t:Rat × List Qt):Int:=ordQ s.2 t.2
abbrev qtA (t:Rat × List Qt):AV:=.agg [.v (.bool (decide (t.1.num < 0))),lim (toL t.1.num.natAbs),lim (toL t.1.den),qsA t.2]
theorem slCmpQ (l m:List Qt) (hl:l.length≤1000000) (he:l.length=m.length):Pure prog 248 [qsA l,qsA m,.fn 164 []] (iv (lexL Qt.cmp l m)):=by
 have hlm:(l.map Qt.av).length=l.length:=ZBt ..;have hmm:(m.map Qt.av).length=l.length:=by rw [ZBt];omega
 have hgl:∀j (h:j < l.length),(l.map Qt.av).getD j .u=Qt.av l[j]:=λj h=>Zaw Qt.av h;have hgm:∀j (h:j < m.length),(m.map Qt.av).getD j .u=Qt.av m[j]:=λj h=>Zaw Qt.av h;show Pure _ _ [.sl 4 (l.map Qt.av),.sl 4 (m.map Qt.av),.fn 164 []] _;generalize l.map Qt.av=A at *;generalize m.map Qt.av=B at *;refine pI func248 rfl ntmps248 results248 call248 ?_
 (refine wkap (w_2 hlm hmm) w_t (w_r 0) (w_s ?_);intros)
 refine Zad (ι:=Nat) (λi e _=>i≤l.length∧lexL Qt.cmp l m=lexL Qt.cmp (l.drop i) (m.drop i)∧e 0=.sl 4 A∧e 1=.sl 4 B∧e 2=.fn 164 []∧e 11=.sl 4 A∧e 12=iv l.length∧e 13=iv i) (λi=>l.length - i) 0 zr ?_ ?_
 ·rintro i e m' ⟨hi,hx,e0,e1,e2,e11,e12,e13⟩
  by_cases hlt:i < l.length
  ·have g1:=hgl i hlt;have g2:=hgm i zo;have hs:=lexL_at (cmp:=Qt.cmp) hlt (show i < m.length by omega);have cc:=quCmp l[i].k l[i].a l[i].b l[i].c (m[i]'zo).k (m[i]'zo).a (m[i]'zo).b (m[i]'zo).c;rw [hx,hs];clear hgl hgm;by_cases hz:Qt.cmp l[i] (m[i]'zo)=0
   ·rw [ZBm hz];have hx2:lexL Qt.cmp l m=lexL Qt.cmp (l.drop (i+1)) (m.drop (i+1)):=by rw [hx,hs,ZBm hz]
    clear hx hs;rw [←hx2];generalize l[i]=x at *;generalize m[i]'zo=y at *;obtain⟨x1,x2,x3,x4⟩:=x;obtain⟨y1,y2,y3,y4⟩:=y;simp only at *;rw [hz] at cc
    (refine wkap (w_10 e0 e1 e2 e11 e12 e13 hlm hmm g1 g2) (w_1 cc) (w_r 0) (w_s ?_);intros)
    exact⟨i+1,⟨zo,hx2,gW e0,gW e1,gW e2,gW e11,gW e12,gS⟩,zo⟩
   ·rw [ZBl hz];clear hx hs;generalize l[i]=x at *;generalize m[i]'zo=y at *;obtain⟨x1,x2,x3,x4⟩:=x;obtain⟨y1,y2,y3,y4⟩:=y;simp only at *;generalize Qt.cmp _ _=z at *
    (refine wkap (w_10 e0 e1 e2 e11 e12 e13 hlm hmm g1 g2) (w_1 cc) (w_r 0) (w_s ?_);intros)
    all_goals exact gL
  ·have hil:i=l.length:=zo;subst hil;rw [hx,ZEf (ZBn _),ZEf zo];show _;clear hgl hgm hx
   (refine wkap (w_8 e0 e1 e2 e11 e12 e13 hlm hmm) w_t (w_r 0) (w_s ?_);intros)
   all_goals (all_goals (try simp (disch:=omega) only [go_sem,lexL,ZBu,ZBv,ZBm,ZBl,Int.reduceAdd,Int.reduceSub,Int.reduceToNat,ZB3]));(all_goals first|done|rfl|(congr 2;first|done|omega|(rw [ZCh];simp only [bool_to_prop,ZB0,ZCp,ZCq,ZCr,ZCs];omega))|skip)
 ·exact⟨ZBw _,rfl,gC,gC,gC,gC,gW hlm,gC⟩
theorem exCmpP (l m:List Qt) (hl:l.length≤1000000) (hm:m.length≤1000000):Pure prog 194 [qsA l,qsA m] (iv (ordQ l m)):=by
 have hlm:(l.map Qt.av).length=l.length:=ZBt ..;have hmm:(m.map Qt.av).length=m.length:=ZBt ..;unfold ordQ ordL;by_cases h1:l.length < m.length
 ·rw [ZBm h1];show Pure _ _ [.sl 4 (l.map Qt.av),.sl 4 (m.map Qt.av)] _;generalize l.map Qt.av=A at *;generalize m.map Qt.av=B at *;refine pI func194 rfl ntmps194 results194 call194 ?_
  (refine wkap (w_2 hlm hmm) w_t (w_r 0) (w_s ?_);intros)
  all_goals exact gL
 ·by_cases h2:m.length < l.length
  ·rw [ZBl h1,ZBm h2];show Pure _ _ [.sl 4 (l.map Qt.av),.sl 4 (m.map Qt.av)] _;generalize l.map Qt.av=A at *;generalize m.map Qt.av=B at *;refine pI func194 rfl ntmps194 results194 call194 ?_
   (refine wkap (w_2 hlm hmm) w_t (w_r 0) (w_s ?_);intros)
   all_goals exact gL
  ·rw [ZBl h1,ZBl h2];have cc:=slCmpQ l m hl zo;show Pure _ _ [.sl 4 (l.map Qt.av),.sl 4 (m.map Qt.av)] _;generalize lexL Qt.cmp l m=z at *;have cc:Pure prog 248 [.sl 4 (l.map Qt.av),.sl 4 (m.map Qt.av),.fn 164 []] (iv z):=cc;generalize l.map Qt.av=A at *;generalize m.map Qt.av=B at *;refine pI func194 rfl ntmps194 results194 call194 ?_
   (refine wkap (w_2 hlm hmm) (w_1 cc) (w_r 0) (w_s ?_);intros)
   all_goals exact gL
theorem exCmpT (s t:Rat × List Qt) (hl:s.2.length≤1000000) (hm:t.2.length≤1000000):Pure prog 198 [qtA s,qtA t] (iv (ordT s t)):=by
 have cc:=exCmpP s.2 t.2 hl hm;obtain⟨a,l⟩:=s;obtain⟨b,m⟩:=t;simp only at *;show Pure _ _ [.agg [.v (.bool (decide (a.num < 0))),lim (toL a.num.natAbs),lim (toL a.den),.sl 4 (l.map Qt.av)],.agg [.v (.bool (decide (b.num < 0))),lim (toL b.num.natAbs),lim (toL b.den),.sl 4 (m.map Qt.av)]] (iv (ordQ l m));have cc:Pure prog 194 [.sl 4 (l.map Qt.av),.sl 4 (m.map Qt.av)] (iv (ordQ l m)):=cc;generalize ordQ l m=z at *;generalize l.map Qt.av=A at *;generalize m.map Qt.av=B at *;generalize toL a.num.natAbs=a1 at *;generalize toL a.den=a2 at *;generalize toL b.num.natAbs=b1 at *;generalize toL b.den=b2 at *
 refine pI func198 rfl ntmps198 results198 call198 ?_
 (refine wkap w_t (w_1 cc) (w_r 0) (w_s ?_);intros)
 all_goals exact gL
end Go.Proofs.YtkefeinbjbeidaaGreatDoor
namespace Go.Proofs.YtkefeinbjbeidaaGreatDoor
open Go Go.RowKit Go.Pg Go.Proofs.Tryz
def Can (l:List Int):Prop:=(∀j,0≤gI l j)∧(l.length=0∨gI l (l.length - 1)≠0)
def LTm (a b:List Int):Prop:=∃k,gI a k < gI b k∧∀j,k < j→gI a j=gI b j
def ltM (a b:List Int):Prop:=lexC a b (max a.length b.length)=-1
instance:DecidableRel ltM:=λa b=>inferInstanceAs (Decidable (lexC a b (max a.length b.length)=-1))
theorem Zy9 {a b:List Int}:∀n,lexC a b n=-1↔∃k,k < n∧gI a k < gI b k∧∀j,k < j→j < n→gI a j=gI b j
 | 0=>by
   constructor
   ·intro h;exact absurd h (by show ¬(0:Int)=-1;omega)
   ·rintro ⟨k,h,_⟩;omega
 | n+1=>by
   unfold lexC;by_cases h:gI a n=gI b n
   ·rw [ZBm h,Zy9 n];constructor
    ·rintro ⟨k,h1,h2,h3⟩
     exact⟨k,zo,h2,λj h4 h5=>by by_cases hj:j=n;subst hj;exact h;exact h3 j h4 zo⟩
    ·rintro ⟨k,h1,h2,h3⟩
     have:k≠n:=by rintro rfl;omega
     exact⟨k,zo,h2,λj h4 h5=>h3 j h4 zo⟩
   ·rw [ZBl h];unfold lt1;constructor
    ·intro h1;by_cases h2:gI a n < gI b n
     ·exact⟨n,zo,h2,λj h3 h4=>zo⟩
     ·rw [ZBl h2] at h1;omega
    ·rintro ⟨k,h1,h2,h3⟩
     by_cases hk:k=n
     ·subst hk;rw [ZBm h2]
     ·exact absurd (h3 n zo zo) h
theorem Zje {a b:List Int}:ltM a b↔LTm a b:=by
 unfold ltM LTm;rw [Zy9];constructor
 ·rintro ⟨k,h1,h2,h3⟩
  refine⟨k,h2,λj h4=>?_⟩;by_cases hj:j < max a.length b.length
  ·exact h3 j h4 hj
  ·rw [Zc4 zo,Zc4 zo]
 ·rintro ⟨k,h2,h3⟩
  refine⟨k,?_,h2,λj h4 _=>h3 j h4⟩;by_cases hk:k < max a.length b.length
  ·exact hk
  ·rw [Zc4 zo,Zc4 zo] at h2;omega
theorem Zjf {a b:List Int}:∀n,lexC a b n=0∧(∀j,j < n→gI a j=gI b j)∨lexC a b n=-1∨lexC a b n=1
 | 0=>.inl ⟨rfl,λj h=>zo⟩
 | n+1=>by
   unfold lexC;by_cases h:gI a n=gI b n
   ·rw [ZBm h];rcases @Zjf a b n with⟨h1,h2⟩ | h1
    ·exact .inl ⟨h1,λj hj=>by by_cases e:j=n;subst e;exact h;exact h2 j zo⟩
    ·exact .inr h1
   ·rw [ZBl h];unfold lt1;split
    ·exact .inr (.inl rfl)
    ·exact .inr (.inr rfl)
theorem Zns {a b:List Int}:∀n,lexC b a n=- lexC a b n
 | 0=>rfl
 | n+1=>by
   unfold lexC;by_cases h:gI a n=gI b n
   ·rw [ZBm h,ZBm h.symm,Zns n]
   ·rw [ZBl h,ZBl (λe=>h e.symm)];unfold lt1;by_cases h1:gI a n < gI b n
    ·rw [ZBm h1,ZBl zo];rfl
    ·rw [ZBl h1,ZBm zo]
theorem ZAu {a b:List Int} (ha:Can a) (hb:Can b) (h:∀j,gI a j=gI b j):a=b:=by
 have hl:a.length=b.length:=by
  have h1:=h (a.length - 1);have h2:=h (b.length - 1);rcases Nat.lt_trichotomy a.length b.length with hl | hl | hl
  ·rcases hb.2 with hb0 | hb0
   ·omega
   ·rw [←h2,Zc4 zo] at hb0;exact absurd rfl hb0
  ·exact hl
  ·rcases ha.2 with ha0 | ha0
   ·omega
   ·rw [h1,Zc4 zo] at ha0;exact absurd rfl ha0
 refine List.ext_getElem hl λj h1 h2=>?_;have:=h j
 rwa [Zg4 h1,Zg4 h2] at this
theorem ordM:Go.Pol.KO Can ltM where
 irr x h:=by obtain⟨k,h1,_⟩:=Zje.1 h;omega
 tr x y z h g:=by
  obtain⟨k,h1,h2⟩:=Zje.1 h;obtain⟨i,g1,g2⟩:=Zje.1 g;rw [Zje];rcases Nat.lt_trichotomy k i with h3 | h3 | h3
  ·exact⟨i,by rw [h2 i h3];exact g1,λj hj=>by rw [h2 j zo,g2 j hj]⟩
  ·subst h3;exact⟨k,zo,λj hj=>by rw [h2 j hj,g2 j hj]⟩
  ·exact⟨k,by rw [←g2 k h3];exact h1,λj hj=>by rw [h2 j hj,g2 j zo]⟩
 tri x y hx hy:=by
  rcases @Zjf x y (max x.length y.length) with⟨_,h⟩ | h | h
  ·refine .inr (.inl (ZAu hx hy λj=>?_));by_cases hj:j < max x.length y.length
   ·exact h j hj
   ·rw [Zc4 zo,Zc4 zo]
  ·exact .inl h
  ·refine .inr (.inr ?_);unfold ltM;rw [Nat.max_comm,Zns,h]
theorem Zjz (F:Int→Int→Int) (h0:F 0 0=0) (a b:List Int) (j:Nat):gI (zipI F a b) j=F (gI a j) (gI b j):=by
 by_cases h:j < max a.length b.length
 ·rw [Zg4 (by unfold zipI;simpa using h)];unfold zipI;simp only [ZGa,List.getElem_range]
 ·rw [Zc4 (by unfold zipI;simp only [ZBt,List.length_range];omega),Zc4 zo,Zc4 zo,h0]
abbrev mulM (a b:List Int):List Int:=zipI (·+·) a b
theorem Znn (a b:List Int):(mulM a b).length=max a.length b.length:=by simp [mulM,zipI]
theorem mulK:Go.Pol.KM Can ltM mulM where
 comm x y:=by
  unfold mulM zipI;rw [Nat.max_comm];exact ZEd λi _=>Int.add_comm _ _
 dom x y hx hy:=by
  refine⟨λj=>by rw [Zjz _ rfl];have:=hx.1 j;have:=hy.1 j;omega,?_⟩;rw [Znn,Zjz _ rfl];have a1:=hx.1 (max x.length y.length - 1);have b1:=hy.1 (max x.length y.length - 1);rcases Nat.le_total x.length y.length with h | h
  ·rw [Nat.max_eq_right h] at *;rcases hy.2 with h1 | h1
   ·exact .inl h1
   ·exact .inr zo
  ·rw [Nat.max_eq_left h] at *;rcases hx.2 with h1 | h1
   ·exact .inl h1
   ·exact .inr zo
 mono x y z _ _ _ h:=by
  obtain⟨k,h1,h2⟩:=Zje.1 h;rw [Zje];exact⟨k,by rw [Zjz _ rfl,Zjz _ rfl];omega,λj hj=>by rw [Zjz _ rfl,Zjz _ rfl,h2 j hj]⟩
def mvN (v:Nat→Rat) (m:List Int):Nat→Rat
 | 0=>1
 | n+1=>mvN v m n*v n ^ (gI m n).toNat
def mv (v:Nat→Rat) (m:List Int):Rat:=mvN v m m.length
end Go.Proofs.YtkefeinbjbeidaaGreatDoor
namespace Go.Proofs.YtkefeinbjbeidaaGreatDoor
open Go Go.RowKit Go.Pg Go.Pol Go.Proofs.Tryz
attribute [-bool_to_prop] Bool.and_eq_decide Bool.or_eq_decide Bool.decide_beq_decide decide_eq_decide
abbrev Tm:=Rat × List Int
abbrev Po:=List Tm
abbrev tmA (t:Tm):AV:=.agg [.v (.bool (decide (t.1.num < 0))),lim (toL t.1.num.natAbs),lim (toL t.1.den),ivs t.2]
abbrev poA (p:Po):AV:=.sl 4 (p.map tmA)
abbrev SrtM (p:Po):Prop:=Srt Can ltM p
abbrev addM (p q:Po):Po:=addP ltM p q
abbrev subM (p q:Po):Po:=subP ltM p q
abbrev mlM (p q:Po):Po:=mulR ltM mulM p q
def sclM (a:Rat) (p:Po):Po:=if a=0 then [] else Zdc a p
def PK (p:Po) (k e:Nat):Prop:=∀t∈p,Sz t.1 k∧t.2.length≤1000∧∀j,0≤gI t.2 j∧gI t.2 j≤(e:Int)
theorem PK.mono {p:Po} {k j e f:Nat} (h:PK p k e) (hk:k≤j) (he:e≤f):PK p j f:=λt ht=>⟨(h t ht).1.mono hk,(h t ht).2.1,λi=>by have:=(h t ht).2.2 i;omega⟩
theorem PK.sm {p:Po} {k e:Nat} (h:PK p k e) (he:e≤16777216) {t:Tm} (ht:t∈p):Sm t.2:=⟨(h t ht).2.1,λi=>by have:=(h t ht).2.2 i;omega⟩
theorem PK.nil {k e:Nat}:PK [] k e:=λt ht=>by simp at ht
theorem PK.tail {t:Tm} {p:Po} {k e:Nat} (h:PK (t :: p) k e):PK p k e:=λu hu=>h u (.tail _ hu)
theorem PK.drop {p:Po} {k e:Nat} (h:PK p k e) (i:Nat):PK (p.drop i) k e:=λu hu=>h u (ZD3 hu)
theorem PK.add {p q:Po} {j k e:Nat} (hp:PK p j e) (hq:PK q k e):PK (addM p q) (j+k+1) e:=λt ht=>by
 rcases Zg0 ht with h | h | ⟨s,hs,u,hu,rfl⟩
 ·exact⟨(hp t h).1.mono zo,(hp t h).2⟩
 ·exact⟨(hq t h).1.mono zo,(hq t h).2⟩
 ·exact⟨(hp s hs).1.add (hq u hu).1,(hp s hs).2⟩
theorem PK.scale {p:Po} {j k e:Nat} {a:Rat} (hp:PK p j e) (ha:Sz a k):PK (Zdc a p) (j+k) e:=λt ht=>by
 obtain⟨s,hs,rfl⟩:=List.mem_map.1 ht;exact⟨(hp s hs).1.mul ha,(hp s hs).2⟩
theorem Zvy {a b:List Int} (ha:Can a) (hb:Can b):(ltM a b∧lexC a b (max a.length b.length)=-1)∨(¬ltM a b∧¬ltM b a∧a=b∧lexC a b (max a.length b.length)=0)∨(ltM b a∧¬ltM a b∧lexC a b (max a.length b.length)=1):=by
 rcases @Zjf a b (max a.length b.length) with⟨h,h2⟩ | h | h
 ·have e:a=b:=ZAu ha hb λj=>by
   by_cases hj:j < max a.length b.length
   ·exact h2 j hj
   ·rw [Zc4 zo,Zc4 zo]
  refine .inr (.inl ⟨?_,?_,e,h⟩)
  ·unfold ltM;rw [h];decide
  ·subst e;unfold ltM;rw [h];decide
 ·exact .inl ⟨h,h⟩
 ·have h3:ltM b a:=by unfold ltM;rw [Nat.max_comm,Zns,h]
  refine .inr (.inr ⟨h3,?_,h⟩);unfold ltM;rw [h];decide
theorem trim_can {l:List Int} (h:Can l):Zj6 l=l:=by
 unfold Zj6;rcases h.2 with h0 | h0
 ·have:l=[]:=List.length_eq_zero_iff.1 h0;subst this;rfl
 ·rcases ZCo l.length with h1 | h1
  ·have:l=[]:=List.length_eq_zero_iff.1 h1;subst this;rfl
  ·rw [Zl9 h1 h0,ZC8]
theorem can_nil:Can []:=⟨λj=>by rw [Zc4 (ZBw _)];omega,.inl rfl⟩
theorem mulM_nil (a:List Int):mulM a []=a:=by
 refine List.ext_getElem (by rw [Znn];simp) λj h1 h2=>?_;have:=Zjz (·+·) rfl a [] j;rw [Zg4 h1,Zg4 h2,Zc4 (ZBw _),Int.add_zero] at this;exact this
theorem Zu4 (p:Po) (a:Rat):Zc3 mulM p (a,[])=Zdc a p:=by
 unfold Zc3 Zdc;exact ZEd λs _=>by rw [mulM_nil]
def Zht (v:Nat):List Int:=List.replicate v 0++[1]
theorem Zgn (v:Nat):(Zht v).length=v+1:=by simp [Zht]
theorem Zny (v j:Nat):gI (Zht v) j=if j=v then 1 else 0:=by
 by_cases h:j < v+1
 ·rw [Zg4 (by rw [Zgn];exact h)];unfold Zht;rw [List.getElem_append];by_cases hj:j < v
  ·rw [dif_pos (by simpa using hj),List.getElem_replicate,ZBl zo]
  ·rw [dif_neg (by simpa using hj),ZBm zo];simp
 ·rw [Zc4 (by rw [Zgn];omega),ZBl zo]
theorem can_unit (v:Nat):Can (Zht v):=by
 refine⟨λj=>by rw [Zny];split<;>omega,.inr ?_⟩;rw [Zgn,Zny,ZBm zo];omega
def varM (v:Nat):Po:=if v < 64 then [(1,Zht v)] else []
theorem Zso (v:Nat):SrtM (varM v):=by
 unfold varM;split
 ·exact Srt.nil.cons (by show(1:Rat)≠0;decide) (can_unit v) zs
 ·exact .nil
structure RS where
 k:Int
 nm:ByteArray
 ar:List Int
 r:RQ
structure RG where
 k:Int
 ar:List Int
 r:RQ
abbrev RS.av (s:RS):AV:=.agg [iv s.k,strA s.nm,ivs s.ar,.v (.bool s.r.s),lim s.r.l,lim s.r.d]
abbrev RG.av (g:RG):AV:=.agg [iv g.k,ivs g.ar,.v (.bool g.r.s),lim g.r.l,lim g.r.d]
abbrev figA (ss:List RS) (gs:List RG):AV:=.agg [.sl 6 (ss.map RS.av),.sl 5 (gs.map RG.av)]
def RQ.none (r:RQ):Bool:=!r.s && (decide (r.l.length=0) && decide (r.d.length=0))
structure FS where
 cs:List (Po × Po)
 vs:List Vt
 fr:Nat
abbrev coA (c:Po × Po):AV:=.agg [poA c.1,poA c.2]
def FS.at (f:FS) (s:RS) (k:Nat):Po × Po:=f.cs.getD (gI s.ar k).toNat ([],[])
def FS.nxt (f:FS) (i:Nat) (s:RS):List Vt × (Po × Po) :=
 let v:=f.vs.length
 let a:=f.at s 0
 let b:=f.at s 1
 let c:=f.at s 2
 if s.k=1 then
  (if f.fr=0 then ([],([],[]))
   else if f.fr=1 then ([(1,(i:Int),0)],(varM v,[]))
   else ([(1,(i:Int),0),(1,(i:Int),1)],(varM v,varM (v+1))))
 else if s.k=2 then ([],(addM a.1 (sclM s.r.q (subM b.1 a.1)),addM a.2 (sclM s.r.q (subM b.2 a.2))))
 else if s.k=3 then ([],(addM a.1 (subM c.1 b.1),addM a.2 (subM c.2 b.2)))
 else if s.k=4 then ([],(addM a.1 (subM b.2 c.2),addM a.2 (subM c.1 b.1)))
 else if s.k=5 then ([(1,(i:Int),0)],(addM a.1 (mlM (subM b.1 a.1) (varM v)),addM a.2 (mlM (subM b.2 a.2) (varM v))))
 else if s.k=6 then ([(1,(i:Int),0),(2,(i:Int),1),(2,(i:Int),2)],(varM (v+1),varM (v+2)))
 else ([(2,(i:Int),0),(2,(i:Int),1)],(varM v,varM (v+1)))
def FS.push (f:FS) (i:Nat) (s:RS):FS:=⟨f.cs++[(f.nxt i s).2],f.vs++(f.nxt i s).1,if s.k=1 then f.fr+1 else f.fr⟩
def frN (ss:List RS):Nat→FS
 | 0=>⟨[],[],0⟩
 | i+1=>(frN ss i).push i (ss.getD i ⟨0,.empty,[],⟨false,[],[]⟩⟩)
def bigN (ss:List RS) (i:Nat):Bool :=
 decide (64 < (frN ss (i+1)).vs.length) || decide (4000 < ((frN ss i).nxt i (ss.getD i ⟨0,.empty,[],⟨false,[],[]⟩⟩)).2.1.length) || decide (4000 < ((frN ss i).nxt i (ss.getD i ⟨0,.empty,[],⟨false,[],[]⟩⟩)).2.2.length)
theorem Zsa (ss:List RS):∀i,(frN ss i).cs.length=i
 | 0=>rfl
 | i+1=>by show((frN ss i).cs++[_]).length=i+1;rw [ZCg,Zsa ss i];rfl
def BB (n:Nat):Nat:=65536 ^ (3*n)
theorem BB_pos (n:Nat):1≤BB n:=Nat.one_le_pow _ _ zo
theorem BB_succ (n:Nat):BB (n+1)=BB n*65536 ^ 3:=by unfold BB;rw [←ZC0];rfl
def GP (n D v:Nat) (p:Po):Prop:=SrtM p∧∀t∈p,BQ D (BB n) t.1∧t.2.length≤v∧∀j,gI t.2 j≤1
theorem GP.nil {n D v:Nat}:GP n D v []:=⟨.nil,λt h=>by simp at h⟩
theorem GP.mono {n D v m E w:Nat} {p:Po} (h:GP n D v p) (hn:n≤m) (hd:D ∣ E) (hv:v≤w):GP m E w p :=
 ⟨h.1,λt ht=>⟨(h.2 t ht).1.mono hd (ZDe zo zo),by have:=(h.2 t ht).2.1;omega,(h.2 t ht).2.2⟩⟩
theorem bq_sz {D B d b:Nat} {q:Rat} (h:BQ D B q) (h0:D≠0) (hd:D < 65536 ^ d) (hb:B < 65536 ^ b):Sz q (d+b):=by
 have h1:q.den≤D:=Nat.le_of_dvd (ZDg h0) h.1;refine⟨Zaf.2 ?_,ZBs (Zaf.2 (ZF6 h1 hd)) zo⟩;have hp:0 < q.den:=q.den_pos
 calc q.num.natAbs≤B*q.den:=h.2
  _≤B*D:=ZDr _ h1
  _ < 65536 ^ b*65536 ^ d:=ZFx hb hd
  _=65536 ^ (d+b):=by rw [ZCl,←ZC0]
theorem GP.pk {n D v:Nat} {p:Po} (h:GP n D v p) (hv:v≤1000) (h0:D≠0) (hd:D < 65536 ^ (2*n+1)) (hn:n≤20):PK p 110 1:=λt ht=>by
 obtain⟨h1,h2,h3⟩:=h.2 t ht;refine⟨(bq_sz (b:=3*n+1) h1 h0 hd (by unfold BB;exact Nat.pow_lt_pow_right zo zo)).mono zo,zo,λj=>⟨(h.1.1 t ht).2.1 j,h3 j⟩⟩
def GB (B D v:Nat) (p:Po):Prop:=SrtM p∧∀t∈p,BQ D B t.1∧t.2.length≤v∧∀j,gI t.2 j≤1
theorem GB.mono {B D v C E w:Nat} {p:Po} (h:GB B D v p) (hn:B≤C) (hd:D ∣ E) (hv:v≤w):GB C E w p :=
 ⟨h.1,λt ht=>⟨(h.2 t ht).1.mono hd hn,by have:=(h.2 t ht).2.1;omega,(h.2 t ht).2.2⟩⟩
theorem GB.add {B C D v:Nat} {p q:Po} (h:GB B D v p) (k:GB C D v q):GB (B+C) D v (addM p q):=by
 refine⟨Zc0 ordM h.1 k.1,λt ht=>?_⟩;rcases Zg0 ht with h1 | h1 | ⟨s,hs,u,hu,rfl⟩
 ·exact⟨(h.2 t h1).1.mono (ZDs _) zo,(h.2 t h1).2⟩
 ·exact⟨(k.2 t h1).1.mono (ZDs _) zo,(k.2 t h1).2⟩
 ·exact⟨(h.2 s hs).1.add (k.2 u hu).1,(h.2 s hs).2⟩
theorem GB.neg {B D v:Nat} {p:Po} (h:GB B D v p):GB B D v (Zdc (-1) p):=by
 refine⟨Zgs h.1 neg1,λt ht=>?_⟩;obtain⟨s,hs,rfl⟩:=List.mem_map.1 ht;refine⟨?_,(h.2 s hs).2⟩;have e:s.1*-1=-s.1:=by grind
 show BQ D B (s.1*-1);rw [e];exact(h.2 s hs).1.neg
theorem GB.sub {B C D v:Nat} {p q:Po} (h:GB B D v p) (k:GB C D v q):GB (B+C) D v (subM p q):=h.add k.neg
theorem GB.scl {B C D E v:Nat} {p:Po} {a:Rat} (h:GB B D v p) (ha:BQ E C a):GB (B*C) (D*E) v (sclM a p):=by
 unfold sclM;split
 ·exact⟨.nil,λt h=>by simp at h⟩
 ·rename_i h0;refine⟨Zgs h.1 h0,λt ht=>?_⟩;obtain⟨s,hs,rfl⟩:=List.mem_map.1 ht;exact⟨(h.2 s hs).1.mul ha,(h.2 s hs).2⟩
theorem mul_var (p:Po) (v:Nat):mlM p (varM v)=if v < 64 then Zc3 mulM p (1,Zht v) else []:=by
 unfold varM;split
 ·show addP ltM [] (Zc3 mulM p (1,Zht v))=_;simp [addP]
 ·rfl
theorem GB.var {B D v:Nat} {p:Po} (h:GB B D v p):GB B D (v+1) (mlM p (varM v)):=by
 refine⟨mulR_srt ordM mulK h.1 (Zso v),λt ht=>?_⟩;rw [mul_var] at ht;split at ht
 ·obtain⟨s,hs,rfl⟩:=List.mem_map.1 ht;obtain⟨h1,h2,h3⟩:=h.2 s hs;refine⟨by show BQ D B (s.1*1);rw [ZE1];exact h1,by show(mulM s.2 (Zht v)).length≤v+1;rw [Znn,Zgn];omega,λj=>?_⟩;show gI (mulM s.2 (Zht v)) j≤1;rw [Zjz _ rfl,Zny];split
  ·rename_i hj;rw [Zc4 zo];omega
  ·have:=h3 j;omega
 ·simp at ht
theorem GB.one {B D v w:Nat} (hB:1≤B) (h:v < w):GB B D w (varM v):=by
 refine⟨Zso v,λt ht=>?_⟩;unfold varM at ht;split at ht
 ·rw [ZE7] at ht;subst ht;refine⟨BQ.int 1 (by simpa using hB),by show(Zht v).length≤w;rw [Zgn];omega,λj=>?_⟩;show gI (Zht v) j≤1;rw [Zny];split<;>omega
 ·simp at ht
theorem GB.nil {B D v:Nat}:GB B D v []:=⟨.nil,λt h=>by simp at h⟩
structure FI (f:FS) (n D:Nat):Prop where
 D0:D≠0
 Dl:D < 65536 ^ (2*n+1)
 nv:f.vs.length≤64
 cs:∀c∈f.cs,GP n D f.vs.length c.1∧GP n D f.vs.length c.2
 ln:∀c∈f.cs,c.1.length≤4000∧c.2.length≤4000
theorem FI.at {f:FS} {n D:Nat} (h:FI f n D) (s:RS) (k:Nat):(GP n D f.vs.length (f.at s k).1∧GP n D f.vs.length (f.at s k).2)∧(f.at s k).1.length≤4000∧(f.at s k).2.length≤4000:=by
 unfold FS.at;by_cases hk:(gI s.ar k).toNat < f.cs.length
 ·have:=Zdr (d:=(([],[]):Po × Po)) hk;exact⟨h.cs _ this,h.ln _ this⟩
 ·rw [ZB6,ZDa zo];exact⟨⟨.nil,.nil⟩,by simp,by simp⟩
def RQ.bd (r:RQ):Prop:=r.ok=true→r.q.den < 65536 ^ 2∧r.q.num.natAbs < 65536 ^ 2
theorem lm_bd {r:RQ} (h:r.lm 2):r.bd:=λho=>by
 obtain⟨-,h1,h2⟩:=RQ.ok_av h ho;exact⟨Zaf.1 h2,Zaf.1 h1⟩
theorem FI.nxt {f:FS} {n D:Nat} (h:FI f n D) (i:Nat) (s:RS) (hr:s.k=2→s.r.ok=true) (hb:s.r.bd) :
 ∃E,E≠0∧D ∣ E∧E < 65536 ^ (2*(n+if s.k=1 then 0 else 1)+1) ∧
  GP (n+if s.k=1 then 0 else 1) E (f.vs++(f.nxt i s).1).length (f.nxt i s).2.1∧GP (n+if s.k=1 then 0 else 1) E (f.vs++(f.nxt i s).1).length (f.nxt i s).2.2:=by
 obtain⟨⟨a1,a2⟩,-⟩:=h.at s 0;obtain⟨⟨b1,b2⟩,-⟩:=h.at s 1;obtain⟨⟨c1,c2⟩,-⟩:=h.at s 2;have hB:=BB_pos n;have hS:=BB_succ n;unfold FS.nxt;simp only;have one:∀v w,v < w→GP n D w (varM v):=λv w hv=>GB.one hB hv;have up:∀{E v:Nat} {p:Po} {C:Nat},GB C E v p→C≤BB n*65536 ^ 3→GP (n+1) E v p:=λh hc=>GB.mono h (by rw [hS];exact hc) (ZDs _) (ZBn _);have dl:D < 65536 ^ (2*(n+1)+1):=ZDz h.Dl (ZDe zo zo)
 have b3:BB n+(BB n+BB n)≤BB n*65536 ^ 3:=by
  have:BB n*3≤BB n*65536 ^ 3:=ZDr _ zd;omega
 by_cases k1:s.k=1
 ·rw [ZBm k1,ZBm k1];refine⟨D,h.D0,ZDs _,h.Dl,?_⟩;split
  ·exact⟨.nil,.nil⟩
  ·split
   ·exact⟨one _ _ zs,.nil⟩
   ·exact⟨one _ _ zs,one _ _ zs⟩
 ·rw [ZBl k1,ZBl k1];by_cases k2:s.k=2
  ·rw [ZBm k2];obtain⟨h1,h2⟩:=hb (hr k2);refine⟨D*s.r.q.den,ZEq h.D0 s.r.q.den_nz,ZFm _ _,?_,?_⟩
   ·calc D*s.r.q.den < 65536 ^ (2*n+1)*65536 ^ 2:=ZFx h.Dl h1
     _=65536 ^ (2*(n+1)+1):=by rw [←ZC0];congr 1
   ·have hq:BQ s.r.q.den (65536 ^ 2) s.r.q:=⟨ZDs _,by have:=s.r.q.den_pos;have:=ZEz (65536 ^ 2) this;omega⟩
    have bd:BB n+(BB n+BB n)*65536 ^ 2≤BB n*65536 ^ 3:=by
     have e1:(BB n+BB n)*65536 ^ 2=BB n*(2*65536 ^ 2):=by rw [←Nat.mul_two,ZCv]
     rw [e1];have:BB n*(1+2*65536 ^ 2)≤BB n*65536 ^ 3:=ZDr _ zd;omega
    rw [ZC6];exact⟨up ((GB.mono a1 (ZBn _) (ZFm _ _) (ZBn _)).add ((GB.sub b1 a1).scl hq)) bd,up ((GB.mono a2 (ZBn _) (ZFm _ _) (ZBn _)).add ((GB.sub b2 a2).scl hq)) bd⟩
  ·rw [ZBl k2];refine⟨D,h.D0,ZDs _,dl,?_⟩;have one':∀v w,v < w→GP (n+1) D w (varM v):=λv w hv=>GB.one (BB_pos _) hv;by_cases k3:s.k=3
   ·rw [ZBm k3,ZC6];exact⟨up (GB.add a1 (GB.sub c1 b1)) b3,up (GB.add a2 (GB.sub c2 b2)) b3⟩
   ·rw [ZBl k3];by_cases k4:s.k=4
    ·rw [ZBm k4,ZC6];exact⟨up (GB.add a1 (GB.sub b2 c2)) b3,up (GB.add a2 (GB.sub c1 b1)) b3⟩
    ·rw [ZBl k4];by_cases k5:s.k=5
     ·rw [ZBm k5];have e:(f.vs++[(1,(i:Int),0)]).length=f.vs.length+1:=by simp
      rw [e];exact⟨up (GB.add (GB.mono a1 (ZBn _) (ZDs _) zo) (GB.sub b1 a1).var) b3,up (GB.add (GB.mono a2 (ZBn _) (ZDs _) zo) (GB.sub b2 a2).var) b3⟩
     ·rw [ZBl k5];by_cases k6:s.k=6
      ·rw [ZBm k6];exact⟨one' _ _ zs,one' _ _ zs⟩
      ·rw [ZBl k6];exact⟨one' _ _ zs,one' _ _ zs⟩
def nfN (ss:List RS):Nat→Nat
 | 0=>0
 | i+1=>nfN ss i+if (ss.getD i ⟨0,.empty,[],⟨false,[],[]⟩⟩).k=1 then 0 else 1
theorem frN_ok (ss:List RS) (hr:∀s∈ss,s.k=2→s.r.ok=true) (hb:∀s∈ss,s.r.bd):∀i,i≤ss.length→(∀j,j < i→bigN ss j=false)→∃D,FI (frN ss i) (nfN ss i) D
 | 0,_,_=>⟨1,zo,by show 1 < 65536 ^ (2*0+1);decide,ZBw _,λc h=>by simp [frN] at h,λc h=>by simp [frN] at h⟩
 | i+1,hi,hj=>by
   obtain⟨D,hD⟩:=frN_ok ss hr hb i zo λj h=>hj j zo;have hbig:=hj i zo;unfold bigN at hbig;simp only [ZF4,ZEx,Nat.not_lt] at hbig;have hm:ss.getD i ⟨0,.empty,[],⟨false,[],[]⟩⟩∈ss:=Zdr zo;have hs1:=hr _ hm;have hs2:=hb _ hm;unfold nfN;show ∃D,FI ((frN ss i).push i (ss.getD i ⟨0,.empty,[],⟨false,[],[]⟩⟩)) _ D;have hv:=hbig.1.1;unfold frN at hv;generalize ss.getD i ⟨0,.empty,[],⟨false,[],[]⟩⟩=s at *;obtain⟨E,e0,e1,e2,g1,g2⟩:=hD.nxt i s hs1 hs2;refine⟨E,e0,e2,hv,λc hc=>?_,λc hc=>?_⟩
   ·rcases List.mem_append.1 hc with h1 | h1
    ·obtain⟨k1,k2⟩:=hD.cs c h1;have hl:(frN ss i).vs.length≤((frN ss i).push i s).vs.length:=by show _≤((frN ss i).vs++((frN ss i).nxt i s).1).length;rw [ZCg];omega
     exact⟨k1.mono zo e1 hl,k2.mono zo e1 hl⟩
    ·rw [ZE7] at h1;subst h1;exact⟨g1,g2⟩
   ·rcases List.mem_append.1 hc with h1 | h1
    ·exact hD.ln c h1
    ·rw [ZE7] at h1;subst h1;exact⟨hbig.1.2,hbig.2⟩
section
variable {N n:Nat} {cs:List AV}
theorem agInt:Zha prog 3=false:=by kernel_rfl
theorem csInt:prog.cellsOf 3=1:=by kernel_rfl
theorem shIvs (h:Zc5 prog N n 22 cs):∃l:List Int,cs=[ivs l]∧l.length≤N:=by
 obtain⟨bs,rfl,hl,_⟩:=Zf6 (g:=λk:Int=>[iv k]) (Q:=λ_=>True) underlying22 h λm x hx=>by
  obtain⟨i,rfl,_⟩:=Zkx underlying3 hx;exact⟨i,rfl,trivial⟩
 refine⟨bs,?_,hl⟩;rw [csInt];have:(bs.map λb:Int=>Zds prog 3 [iv b])=bs.map iv:=ZEd λb _=>Zkp agInt _;rw [this]
theorem shFact (h:Zc5 prog N n 30 cs):∃g:RG,cs=[iv g.k,ivs g.ar,.v (.bool g.r.s),lim g.r.l,lim g.r.d]∧g.r.lm N∧g.ar.length≤N:=by
 obtain⟨m,rfl,hs⟩:=Ze8 underlying30 zk h;obtain⟨x,y,rfl,h1,hs⟩:=hs.inv;obtain⟨x3,y,rfl,h3,hs⟩:=hs.inv;obtain⟨x4,y,rfl,h4,hs⟩:=hs.inv;obtain rfl:=hs.inv0;obtain⟨k,rfl,_⟩:=Zkx underlying3 h1;obtain⟨ar,rfl,ha⟩:=shIvs h3;obtain⟨r,rfl,hr⟩:=shRat h4;exact⟨⟨k,ar,r⟩,rfl,hr,ha⟩
end
theorem lm_mono {r:RQ} {a b:Nat} (h:r.lm a) (hab:a≤b):r.lm b:=⟨h.1,h.2.1,ZBs h.2.2.1 hab,ZBs h.2.2.2 hab⟩
end Go.Proofs.YtkefeinbjbeidaaGreatDoor
namespace Go.Pg
open Go Go.RowKit Go.Lib
section
variable {P:Program} {n:Nat}
structure ItS (c:Cx) (n:Nat) (s:ByteArray) (tI:Nat) (J:Nat→(Nat→AV)→Prop) (pos:Nat) (a:Act) (w:World):Prop where
 h:∃e imm g,Rel c n ⟨e,Zak⟩ a w imm∧w.heap[g]?=some (.stringIter s pos)∧c.B≤g∧(∀ad,imm ad→ad.block≠g)∧e tI=.v (.pointer (some ⟨g,0,none⟩))∧J pos e
end
end Go.Pg
namespace Go.Proofs.YtkefeinbjbeidaaGreatDoor
open Go Go.RowKit Go.Pg Go.Proofs.Tryz
attribute [-bool_to_prop] Bool.and_eq_decide Bool.or_eq_decide Bool.decide_beq_decide decide_eq_decide
attribute [local go_sem] Za5 Zbv
def kwL:List ByteArray:=[
 ⟨#[97,110,103,108,101]⟩,
 ⟨#[97,112,101,120]⟩,
 ⟨#[98,105,115,101,99,116,111,114]⟩,
 ⟨#[99,101,110,116,101,114]⟩,
 ⟨#[99,105,114,99,108,101]⟩,
 ⟨#[99,105,114,99,117,109]⟩,
 ⟨#[99,111,108,108,105,110,101,97,114]⟩,
 ⟨#[99,111,109,109,111,110]⟩,
 ⟨#[99,111,110,99,121,99,108,105,99]⟩,
 ⟨#[99,111,110,103,114,117,101,110,116]⟩,
 ⟨#[99,114,111,115,115]⟩,
 ⟨#[99,117,116]⟩,
 ⟨#[100,105,118,105,100,101]⟩,
 ⟨#[102,111,111,116]⟩,
 ⟨#[108,105,110,101]⟩,
 ⟨#[109,101,101,116]⟩,
 ⟨#[109,105,100,112,111,105,110,116]⟩,
 ⟨#[109,105,114,114,111,114]⟩,
 ⟨#[111,110]⟩,
 ⟨#[111,116,104,101,114]⟩,
 ⟨#[112,97,114,97,108,108,101,108]⟩,
 ⟨#[112,101,114,112,101,110,100,105,99,117,108,97,114]⟩,
 ⟨#[112,111,105,110,116,115]⟩,
 ⟨#[112,114,111,118,101]⟩,
 ⟨#[114,97,116,105,111]⟩,
 ⟨#[114,101,102,108,101,99,116]⟩,
 ⟨#[115,97,109,101]⟩,
 ⟨#[115,104,105,102,116]⟩,
 ⟨#[116,117,114,110]⟩]
def letB (c:Nat):Bool:=decide (97≤c∧c≤122) || decide (65≤c∧c≤90)
def digB (c:Nat):Bool:=decide (48≤c∧c≤57)
def gB (s:ByteArray) (k:Nat):Nat:=(s.data.toList.getD k 0).toNat
theorem gB_lt (s:ByteArray) (k:Nat):gB s k < 256:=UInt8.toNat_lt _
def namB (s:ByteArray):Bool:=decide (0 < s.size∧s.size≤20) && (letB (gB s 0) && ((List.range s.size).all (λk=>letB (gB s k) || digB (gB s k)) && !(kwL.any λw=>w.toList == s.toList)))
theorem Zi9 (s:ByteArray):(s.toList == (⟨#[]⟩:ByteArray).toList)=decide (s.size=0):=by
 rw [ByteArray.toList_eq,ByteArray.toList_eq,ZCh,ZDw,ZCj];constructor
 ·intro h;have:=ZDv List.length h;exact this
 ·intro h;exact List.length_eq_zero_iff.1 h
theorem gB_at (s:ByteArray) (k:Nat):((s.data.toList.getD k 0).toNat:Int)=(gB s k:Int):=rfl
theorem Zms (s:ByteArray):∀n,n≤s.size→∃k,k≤n∧(∀j,j < k→(letB (gB s j) || digB (gB s j))=true)∧(k < n→(letB (gB s k) || digB (gB s k))=false)
 | 0,_=>⟨0,zo,λj h=>zo,λh=>zo⟩
 | n+1,h=>by
   obtain⟨k,h1,h2,h3⟩:=Zms s n zo;by_cases hk:k < n
   ·exact⟨k,zo,h2,λ_=>h3 hk⟩
   ·have:k=n:=zo;subst this
    cases hb:(letB (gB s k) || digB (gB s k)) with
    | true=>exact⟨k+1,zo,λj hj=>by by_cases e:j=k;rw [e];exact hb;exact h2 j zo,λh=>zo⟩
    | false=>exact⟨k,zo,h2,λ_=>hb⟩
def kinB (c:Nat):Int:=if c=32∨c=9∨c=13∨c=10 then 1 else if letB c=true then 2 else if digB c=true then 3 else if c=40∨c=41∨c=44∨c=59∨c=47∨c=45 then 4 else if c=58 then 5 else if c=35 then 6 else 0
theorem Ztx (c:Nat):kinB c=2↔letB c=true:=by
 unfold kinB letB;simp only [ZD9,ZCj]
 repeat' split
 all_goals omega
theorem kinB_dig (c:Nat):kinB c=3↔digB c=true:=by
 unfold kinB letB digB;simp only [ZD9,ZCj]
 repeat' split
 all_goals omega
theorem nmKind (c:Nat) (hc:c < 256):Pure prog 276 [.v (.int .u8 (c:Int))] (iv (kinB c)):=by
 unfold kinB letB digB;simp only [ZD9,ZCj];refine pI func276 rfl ntmps276 results276 call276 ?_;(focus (refine wklp w_t w_t w_t (w_r 0) ?_;(repeat' first|exact w_t|apply w_l);all_goals intros));all_goals (congr 2;repeat' split)
 all_goals (first|rfl|omega)
theorem nmEnd (s:ByteArray) (hs:s.size≤1000000000):∃n:Nat,Pure prog 277 [strA s,iv 0,.v (.bool true)] (iv n)∧n≤s.size∧(n=s.size↔(List.range s.size).all (λk=>letB (gB s k) || digB (gB s k))=true):=by
 obtain⟨n,h1,h2,h3⟩:=Zms s s.size (ZBn _);refine⟨n,?_,h1,?_⟩
 ·refine pI func277 rfl ntmps277 results277 call277 ?_;(focus (refine wkap w_t w_t (w_r 0) ?_;(repeat' first|exact w_t|apply w_l);all_goals intros));refine Zad (ι:=Nat) (λi e m=>i≤n∧e 0=strA s∧e 1=iv i∧e 2=.v (.bool true)) (λi=>n - i) 0 zr ?_ ?_
  ·rintro i e m ⟨hi,e0,e1,e2⟩
   have hk:=nmKind (gB s i) (gB_lt s i);have kl:=Ztx (gB s i);have kd:=kinB_dig (gB s i);by_cases hlt:i < n
   ·have hb:=h2 i hlt;rw [ZD9,←kl,←kd] at hb;clear kl kd;have hg:=gB_at s i;generalize kinB (gB s i)=x at *;rcases hb with hb | hb
    ·subst hb;(focus (refine wkap (w_4 e0 e1 e2 hg) (w_1 hk) (w_r 0) ?_;(repeat' first|exact w_t|apply w_l);all_goals intros));exact⟨i+1,⟨zo,gW e0,gS,gW e2⟩,zo⟩
    ·subst hb;(focus (refine wkap (w_4 e0 e1 e2 hg) (w_1 hk) (w_r 0) ?_;(repeat' first|exact w_t|apply w_l);all_goals intros));exact⟨i+1,⟨zo,gW e0,gS,gW e2⟩,zo⟩
   ·have hin:i=n:=zo;subst hin;by_cases hsz:i < s.size
    ·have hb:=h3 hsz;rw [ZF4] at hb;have b1:kinB (gB s i)≠2:=λh=>by rw [kl.1 h] at hb;exact absurd hb.1 zd
     have b2:kinB (gB s i)≠3:=λh=>by rw [kd.1 h] at hb;exact absurd hb.2 zd
     clear kl kd;have hg:=gB_at s i;generalize kinB (gB s i)=x at *;(focus (refine wklp (w_4 e0 e1 e2 hg) (w_1 hk) w_t (w_r 0) ?_;(repeat' first|exact w_t|apply w_l);all_goals intros))
    ·(focus (refine wklp (w_3 e0 e1 e2) w_t w_t (w_r 0) ?_;(repeat' first|exact w_t|apply w_l);all_goals intros))
  ·exact⟨ZBw _,gC,gC,gC⟩
 ·rw [ZFf];constructor
  ·intro h x hx;exact h2 x (by rw [h];exact List.mem_range.1 hx)
  ·intro h;rcases ZB7 n s.size with h4 | h4
   ·have:=h n (List.mem_range.2 h4);rw [h3 h4] at this;cases this
   ·omega
theorem nmKeys:Pure prog 278 [] (.sl 1 (kwL.map strA)):=by
 unfold kwL;refine pI func278 rfl ntmps278 results278 call278 ?_;(focus (refine wklp w_t w_t w_t (w_r 0) ?_;(repeat' first|exact w_t|apply w_l);all_goals intros))
theorem Zjh:kwL.length=29:=rfl
theorem nmName (s:ByteArray) (hs:s.size≤1000000000):Pure prog 236 [strA s] (.v (.bool (namB s))):=by
 have he:=Zi9 s;unfold namB;by_cases h0:0 < s.size∧s.size≤20
 ·rw [ZBu h0,ZD0];have h00:(decide (s.size=0))=false:=ZBv zo;rw [h00] at he;have hk:=nmKind (gB s 0) (gB_lt s 0);have hg:=gB_at s 0;have kl:=Ztx (gB s 0)
  cases hl:letB (gB s 0) with
  | false =>
    have hx:kinB (gB s 0)≠2:=λh=>by rw [kl.1 h] at hl;cases hl
    clear kl;rw [ZC1];generalize kinB (gB s 0)=x at *;refine pI func236 rfl ntmps236 results236 call236 ?_;(focus (refine wklp (w_2 he hg) (w_1 hk) w_t (w_r 0) ?_;(repeat' first|exact w_t|apply w_l);all_goals intros))
  | true =>
    have hx:kinB (gB s 0)=2:=kl.2 hl;rw [hx] at hk;rw [ZD0];obtain⟨n,ce,hn,hall⟩:=nmEnd s hs
    cases ha:(List.range s.size).all (λk=>letB (gB s k) || digB (gB s k)) with
    | false =>
      have hlt:n < s.size:=by
       rcases ZB7 n s.size with h | h
       ·exact h
       ·rw [hall.1 zo] at ha;cases ha
      rw [ZC1];clear hall ha;refine pI func236 rfl ntmps236 results236 call236 ?_;(focus (refine wklp (w_2 he hg) (w_2 hk ce) w_t (w_r 0) ?_;(repeat' first|exact w_t|apply w_l);all_goals intros))
    | true =>
      have hnn:n=s.size:=hall.2 ha;subst hnn;rw [ZD0];clear hall ha hl hx kl;have ck:=nmKeys;refine pI func236 rfl ntmps236 results236 call236 ?_;(focus (refine wkap (w_4 he hg @Zcg @Zjh) (w_3 hk ce ck) (w_r 0) ?_;(repeat' first|exact w_t|apply w_l);all_goals intros));refine Zad (ι:=Nat) (λi e m=>i≤29∧e 0=strA s∧e 25=.sl 1 (kwL.map strA)∧e 26=iv 29∧e 27=iv i∧(kwL.take i).any (λw=>w.toList == s.toList)=false) (λi=>29 - i) 0 zr ?_ ?_
      ·rintro i e m ⟨hi,e0,e25,e26,e27,hno⟩
       by_cases hlt:i < 29
       ·have hlt':i < kwL.length:=by rw [Zjh];exact hlt
        have hgk:=Zaw strA hlt';have hsn:kwL.take (i+1)=kwL.take i++[kwL[i]]:=ZD1 hlt';have hmem:kwL[i]∈kwL:=ZBy hlt';generalize kwL[i]=w at *
        cases hw:(w.toList == s.toList) with
        | true =>
          have:kwL.any (λw=>w.toList == s.toList)=true:=List.any_eq_true.2 ⟨w,hmem,hw⟩;rw [this];(focus (refine wklp (w_8 e0 e25 e26 e27 hgk hw @Zcg @Zjh) w_t (w_1 @ZF1) (w_r 0) ?_;(repeat' first|exact w_t|apply w_l);all_goals intros))
        | false =>
          (focus (refine wkap (w_8 e0 e25 e26 e27 hgk hw @Zcg @Zjh) w_t (w_r 0) ?_;(repeat' first|exact w_t|apply w_l);all_goals intros));exact⟨i+1,⟨zo,gW e0,gW e25,gW e26,gS,by rw [hsn,List.any_append,hno];simp [hw]⟩,zo⟩
       ·have hi2:i=29:=zo;subst hi2;rw [show kwL.take 29=kwL from by rw [←Zjh,ZC8]] at hno;rw [hno];(focus (refine wklp (w_4 e0 e25 e26 e27) w_t (w_1 @ZF3) (w_r 0) ?_;(repeat' first|exact w_t|apply w_l);all_goals intros))
      ·exact⟨ZBw _,gC,gC,by(simp (disch:=omega) only [go_sem,ZBt,Zjh]<;>repeat' first|rfl|refine⟨?_,?_⟩),gC,by simp⟩
 ·rw [ZBv h0,ZC1];by_cases h1:s.size=0
  ·rw [ZBu h1] at he;refine pI func236 rfl ntmps236 results236 call236 ?_;(focus (refine wklp (w_1 he) w_t w_t (w_r 0) ?_;(repeat' first|exact w_t|apply w_l);all_goals intros))
  ·rw [ZBv h1] at he;refine pI func236 rfl ntmps236 results236 call236 ?_;(focus (refine wklp (w_1 he) w_t w_t (w_r 0) ?_;(repeat' first|exact w_t|apply w_l);all_goals intros))
theorem szMapQ:szOf prog 347=some 1:=by kernel_rfl
theorem zInt3:Zan prog 3=some (.int .i64 0):=by kernel_rfl
theorem stQ:stI prog 91 4=true:=by kernel_rfl
theorem mkQ (a b c d:Int):mkOf prog 91 (.agg [iv a,iv b,iv c,iv d])=some (.l [a,b,c,d]):=by
 unfold mkOf;rw [underlying91];show(if stI prog 91 4=true then _ else _)=_;rw [ZBm stQ]
end Go.Proofs.YtkefeinbjbeidaaGreatDoor
namespace Go.Proofs.YtkefeinbjbeidaaGreatDoor
open Go Go.RowKit Go.Pg Go.Pol Go.Proofs.Tryz
attribute [-bool_to_prop] Bool.and_eq_decide Bool.or_eq_decide Bool.decide_beq_decide decide_eq_decide
def arS (k:Int):Int :=
 if k=1 then 0 else if k=2∨k=5∨k=6∨k=14 then 2 else if k=3∨k=4∨k=7∨k=8∨k=10∨k=11 then 3 else if k=9∨k=12∨k=13 then 4 else -1
def arG (k:Int):Int :=
 if k=8 then 2 else if k=1∨k=5 then 3 else if k=2∨k=3∨k=4∨k=6∨k=9 then 4 else if k=7 then 8 else 0
def outB (n:Int) (l:List Int):Bool:=l.any λa=>decide (a < 0) || decide (n≤a)
abbrev RS.zero:RS:=⟨0,.empty,[],⟨false,[],[]⟩⟩
def errS (ss:List RS) (i:Nat):Int :=
 let s:=ss.getD i RS.zero
 if arS s.k < 0 then 8
 else if (s.ar.length:Int)≠arS s.k then 1
 else if outB (i:Int) s.ar=true then 2
 else if (s.k=2∧s.r.ok=false)∨(s.k≠2∧s.r.none=false) then 1
 else if s.nm.size=0 then 0
 else if namB s.nm=false then 6
 else if (ss.take i).any (λt=>t.nm.toList == s.nm.toList)=true then 7
 else 0
def errG (g:RG) (n:Nat):Int :=
 if arG g.k=0 then 8
 else if (g.ar.length:Int)≠arG g.k then 1
 else if outB (n:Int) g.ar=true then 2
 else if (g.k=9∧g.r.ok=false)∨(g.k≠9∧g.r.none=false) then 1
 else 0
def fstE (f:Nat→Int):Nat→Int
 | 0=>0
 | n+1=>if fstE f n≠0 then fstE f n else f n
theorem Zi1 {f:Nat→Int}:∀{n:Nat},(∀j,j < n→f j=0)→fstE f n=0
 | 0,_=>rfl
 | n+1,h=>by
   unfold fstE;rw [ZBl (by rw [Zi1 λj hj=>h j zo];simp)];exact h n zo
theorem Zr8 {f:Nat→Int} {i:Nat} (h:∀j,j < i→f j=0) (hi:f i≠0):∀{n:Nat},i < n→fstE f n=f i
 | 0,hn=>zo
 | n+1,hn=>by
   unfold fstE;by_cases e:i=n
   ·subst e;rw [ZBl (by rw [Zi1 h];simp)]
   ·have:=Zr8 h hi (n:=n) zo;rw [this,ZBm hi]
def figE (ss:List RS) (gs:List RG):Int :=
 if 40 < ss.length∨8 < gs.length then 4
 else if fstE (errS ss) ss.length≠0 then fstE (errS ss) ss.length
 else fstE (λi=>errG (gs.getD i ⟨0,[],⟨false,[],[]⟩⟩) ss.length) gs.length
def frame (ss:List RS) (gs:List RG):List (Po × Po) × List Vt × Int :=
 if figE ss gs≠0 then ([],[],figE ss gs)
 else if (List.range ss.length).any (bigN ss)=true then ([],[],4)
 else ((frN ss ss.length).cs,(frN ss ss.length).vs,0)
theorem Zri {n:Int} {l:List Int} (h:outB n l=false) {k:Nat} (hk:k < l.length):0≤gI l k∧gI l k < n:=by
 unfold outB at h;rw [List.any_eq_false] at h;have:=h (gI l k) (by rw [Zg4 hk];exact ZBy hk);simp only [ZD9,ZCj] at this;omega
theorem Zn4 {ss:List RS} {i:Nat} (hi:i < ss.length) (h:errS ss i=0):0≤arS ss[i].k∧(ss[i].ar.length:Int)=arS ss[i].k∧(∀k,k < ss[i].ar.length→0≤gI ss[i].ar k∧gI ss[i].ar k < (i:Int))∧(ss[i].k=2→ss[i].r.ok=true):=by
 unfold errS at h;rw [show ss.getD i RS.zero=ss[i] from by rw [ZB6,ZBx hi];rfl] at h;generalize ss[i]=s at *;simp only at h;split at h
 ·omega
 ·split at h
  ·omega
  ·split at h
   ·omega
   ·split at h
    ·omega
    ·rename_i h1 h2 h3 h4;refine⟨zo,zo,λk hk=>Zri (by simpa using h3) hk,λh5=>?_⟩
     cases h6:s.r.ok with
     | true=>rfl
     | false=>exact absurd (.inl ⟨h5,h6⟩) h4
attribute [go_sem] underlying215 underlying108 underlying109 underlying212 zMono
attribute [local go_sem] Zaq Zau Zat Zgp Zur Zkm Zsy Zus Zgi Zg7 Zj5
theorem Zdb {q:Rat}:(q.num.sign=0)=(q=0):=by rw [Int.sign_eq_zero_iff_zero,Rat.num_eq_zero]
theorem poLex (s t:Tm) (hs:Sm s.2) (ht:Sm t.2):Pure prog 187 [tmA s,tmA t] (iv (lexC s.2 t.2 (max s.2.length t.2.length))):=by
 have c:Pure prog 243 [ivs s.2,ivs t.2,iv 0] (iv (cmpI s.2 t.2 0)):=monCmp s.2 t.2 0 hs ht;have e:cmpI s.2 t.2 0=lexC s.2 t.2 (max s.2.length t.2.length):=by unfold cmpI;rw [ZBl zo]
 rw [e] at c;obtain⟨q,a⟩:=s;obtain⟨r,b⟩:=t;simp only at *;generalize lexC a b (max a.length b.length)=x at *;refine pI func187 rfl ntmps187 results187 call187 ?_;(focus (refine wklp w_t (w_1 c) w_t (w_r 0) ?_;(repeat' first|exact w_t|apply w_l);all_goals intros))
theorem poAdded (s t:Tm) {j k:Nat} (hs:Sz s.1 j) (ht:Sz t.1 k) (hj:j≤1000000) (hk:k≤1000000):Pure prog 188 [tmA s,tmA t] (.tup [tmA (s.1+t.1,s.2),.v (.bool (!decide ((s.1+t.1).num.sign=0)))]):=by
 have c:=Zju s.1 t.1 hs ht zo zo;have cs:=Zck (s.1+t.1) (hs.add ht) zo;obtain⟨q,a⟩:=s;obtain⟨r,b⟩:=t;simp only at *;generalize q+r=x at *;refine pI func188 rfl ntmps188 results188 call188 ?_
 (repeat' (first|(with_reducible first|refine stp ?_|apply gx1|apply gx2|apply gx3|apply gx4|apply gx5|apply gx6|apply gx7|apply gy8|apply gz2|apply gz3|refine gw0 (c) ?_ ?_|refine gw3 (c) ?_ ?_ ?_|refine gw0 (cs) ?_ ?_|refine gw3 (cs) ?_ ?_ ?_)|(with_reducible refine Zcl ?_;intro _)|((with_reducible refine gE ?_);(try simp (disch:=omega) only [go_sem])<;>first|rfl|omega)|with_reducible refine Zaj zd ?_|((with_reducible apply gy1);iterate 3 focus rfl)|((with_reducible apply gy2);iterate 3 focus rfl)|((with_reducible apply gy3);iterate 2 focus rfl)|((with_reducible apply gy4);iterate 1 focus rfl)|((with_reducible apply gy5);iterate 4 focus rfl)|((with_reducible apply gy5c);iterate 4 focus rfl)|((with_reducible apply gy6);iterate 4 focus rfl)|((with_reducible apply Zj8);iterate 3 focus rfl)|((with_reducible apply Zj7);iterate 1 focus rfl)|((with_reducible apply gy7);iterate 1 focus rfl)|((with_reducible apply gy9);(focus ((with_reducible refine gE ?_);(try simp (disch:=omega) only [go_sem])<;>rfl)))|((with_reducible apply gz1);(focus first|rfl|(simp (disch:=omega) only [go_sem];done)))|((with_reducible apply Zc8 (Zga [(5,.v (.int .i64 x.num.sign))]) [] [4]);(focus kernel_rfl);(focus rfl);(focus kernel_rfl);(focus (simp only [ZB5,ZCf,Nat.reduceAdd];rfl)))))
 (all_goals (try simp (disch:=omega) only [go_sem,ZBu,ZBv,ZBm,ZBl,Int.reduceAdd,Int.reduceSub,Int.reduceToNat,ZB3]));(all_goals first|done|rfl|(congr 2;first|done|omega|(rw [ZCh];simp only [bool_to_prop,ZB0,ZCp,ZCq,ZCr,ZCs];omega))|skip)
theorem ZBa {p q:Po} {i k:Nat} (hi:i < p.length) (hk:k < q.length):addM (p.drop i) (q.drop k) =
 if ltM q[k].2 p[i].2 then p[i] :: addM (p.drop (i+1)) (q.drop k) else if ltM p[i].2 q[k].2 then q[k] :: addM (p.drop i) (q.drop (k+1))
 else if p[i].1+q[k].1=0 then addM (p.drop (i+1)) (q.drop (k+1)) else (p[i].1+q[k].1,p[i].2) :: addM (p.drop (i+1)) (q.drop (k+1)):=by
 rw [ZD7 hi,ZD7 hk];rw [show addM (p[i] :: p.drop (i+1)) (q[k] :: q.drop (k+1))=_ from by unfold addM;rw [addP]]
theorem addM_end {p q:Po} {i k:Nat} (h:p.length≤i∨q.length≤k):addM (p.drop i) (q.drop k)=p.drop i++q.drop k:=by
 rcases h with h | h
 ·rw [ZDb h];simp [addM,addP]
 ·rw [ZDb h,ZC6];exact Zod _
theorem poMerge (p q:Po) {j k e:Nat} (hp:PK p j e) (hq:PK q k e) (sp:SrtM p) (sq:SrtM q) (lp:p.length≤1000000) (lq:q.length≤1000000) (hj:j≤1000000) (hk:k≤1000000) (he:e≤16777216) :
 Pure prog 186 [poA p,poA q,.fn 187 [],.fn 188 []] (poA (addM p q)):=by
 refine pI func186 rfl ntmps186 results186 call186 ?_;(focus (refine wkad (w_1 @Zcg) w_t w_t ?_;(repeat' first|exact w_t|apply w_l);all_goals intros));rename_i sv0;refine Zad (ι:=Nat × Nat) (λx e m=>x.1≤p.length∧x.2≤q.length∧e 0=poA p∧e 1=poA q∧e 2=.fn 187 []∧e 3=.fn 188 []∧e 10=iv x.1∧e 11=iv x.2∧∃sv out,e 9=.own 20 sv∧m 20=some (.row sv 215 4 (out.map tmA) 0)∧out.length≤x.1+x.2∧addM p q=out++addM (p.drop x.1) (q.drop x.2)) (λx=>p.length+q.length - (x.1+x.2)) (0,0) zr ?_ ?_
 ·rintro ⟨i,l⟩ e m ⟨hi,hl,e0,e1,e2,e3,e10,e11,sv,out,e9,em,ho,hs⟩
  simp only at hi hl e10 e11 ho hs;by_cases hil:i < p.length∧l < q.length
  ·obtain⟨hi2,hl2⟩:=hil;have hg:=Zaw tmA hi2;have hh:=Zaw tmA hl2;have st:=ZBa hi2 hl2;have ms:=hp _ (ZBy hi2);have mt:=hq _ (ZBy hl2);have m1:=hp.sm he (ZBy hi2);have m2:=hq.sm he (ZBy hl2);have d1:=sp.dom _ (ZBy hi2);have d2:=sq.dom _ (ZBy hl2);generalize p[i]=s at *;generalize q[l]=t at *;have cl:=poLex s t m1 m2;have ca:=poAdded s t ms.1 mt.1 hj hk;have hlen:(out.map tmA).length=out.length:=ZBt ..;rw [st] at hs;rcases Zvy d1 d2 with⟨h1,h2⟩ | ⟨h1,h1',h2,h3⟩ | ⟨h1,h1',h2⟩
   ·have h3:¬ltM t.2 s.2:=λh=>ordM.irr _ (ordM.tr _ _ _ h h1);rw [ZBl h3,ZBm h1] at hs;rw [h2] at cl;clear st ms mt m1 m2 d1 d2 ca;(focus (refine wkad (w_11 e0 e1 e2 e3 e9 e10 e11 em hg hh @Zcg) (w_1 cl) (w_1 (w_d 4 [(9,iv (-1))] [] [])) ?_;(repeat' first|exact w_t|apply w_l);all_goals intros));refine⟨(i,l+1),⟨by simp only;omega,by simp only;omega,gW e0,gW e1,gW e2,gW e3,gW e10,gS,_,out++[t],gC,by(simp (disch:=omega) only [go_sem,ZCe]<;>repeat' first|rfl|refine⟨?_,?_⟩),by simp only [ZCg,ZB5,ZCf];omega,by rw [hs,ZC4];rfl⟩,by simp only;omega⟩
   ·rw [ZBl h1',ZBl h1] at hs;rw [h3] at cl;by_cases hz:s.1+t.1=0
    ·rw [ZBm hz] at hs;rw [ZBu (show(s.1+t.1).num.sign=0 by rw [Zdb];exact hz)] at ca;clear st ms mt m1 m2 d1 d2;generalize (s.1+t.1)=z at *;(focus (refine wkad (w_12 e0 e1 e2 e3 e9 e10 e11 em hg hh @Zcg @ZF1) (w_2 cl ca) (w_2 (w_d 4 [(9,iv 0)] [] []) (w_d 5 [(9,.tup [tmA (z,s.2),.v (.bool false)])] [] [13])) ?_;(repeat' first|exact w_t|apply w_l);all_goals intros));refine⟨(i+1,l+1),⟨by simp only;omega,by simp only;omega,gW e0,gW e1,gW e2,gW e3,gS,gS,_,out,gW e9,gW em,by simp only;omega,hs⟩,by simp only;omega⟩
    ·rw [ZBl hz] at hs;rw [ZBv (show ¬(s.1+t.1).num.sign=0 by rw [Zdb];exact hz)] at ca;clear st ms mt m1 m2 d1 d2;generalize (s.1+t.1)=z at *;(focus (refine wkad (w_12 e0 e1 e2 e3 e9 e10 e11 em hg hh @Zcg @ZF3) (w_2 cl ca) (w_2 (w_d 4 [(9,iv 0)] [] []) (w_d 5 [(9,.tup [tmA (z,s.2),.v (.bool true)])] [] [13])) ?_;(repeat' first|exact w_t|apply w_l);all_goals intros));refine⟨(i+1,l+1),⟨by simp only;omega,by simp only;omega,gW e0,gW e1,gW e2,gW e3,gS,gS,_,out++[(z,s.2)],gC,by(simp (disch:=omega) only [go_sem,ZCe]<;>repeat' first|rfl|refine⟨?_,?_⟩),by simp only [ZCg,ZB5,ZCf];omega,by rw [hs,ZC4];rfl⟩,by simp only;omega⟩
   ·rw [ZBm h1] at hs;rw [h2] at cl;clear st ms mt m1 m2 d1 d2 ca;(focus (refine wkad (w_11 e0 e1 e2 e3 e9 e10 e11 em hg hh @Zcg) (w_1 cl) (w_1 (w_d 4 [(9,iv 1)] [] [])) ?_;(repeat' first|exact w_t|apply w_l);all_goals intros));refine⟨(i+1,l),⟨by simp only;omega,by simp only;omega,gW e0,gW e1,gW e2,gW e3,gS,gW e11,_,out++[s],gC,by(simp (disch:=omega) only [go_sem,ZCe]<;>repeat' first|rfl|refine⟨?_,?_⟩),by simp only [ZCg,ZB5,ZCf];omega,by rw [hs,ZC4];rfl⟩,by simp only;omega⟩
  ·rw [addM_end zo] at hs;rw [hs];clear hs;have tp:(p.map tmA).take p.length=p.map tmA:=by rw [←ZBt (f:=tmA),ZC8]
   have tq:(q.map tmA).take q.length=q.map tmA:=by rw [←ZBt (f:=tmA),ZC8]
   by_cases hi2:i < p.length
   ·have hl2:l=q.length:=zo;subst hl2;(focus (refine wkad (w_15 e0 e1 e2 e3 e9 e10 e11 em @Zcg @l_drop @l_app @l_take @Nat.min_self tp tq) w_t w_t ?_;(repeat' first|exact w_t|apply w_l);all_goals intros))
    (all_goals (try simp (disch:=omega) only [go_sem,ZC4,tp,tq,ZBu,ZBv,ZBm,ZBl,Int.reduceAdd,Int.reduceSub,Int.reduceToNat,ZB3]));(all_goals first|done|rfl|(congr 2;first|done|omega|(rw [ZCh];simp only [bool_to_prop,ZB0,ZCp,ZCq,ZCr,ZCs];omega))|skip)
    all_goals exact ZDv (AV.sl 4) (by simp only [ZCe,List.map_drop])
   ·(focus (refine wkad (w_15 e0 e1 e2 e3 e9 e10 e11 em @Zcg @l_drop @l_app @l_take @Nat.min_self tp tq) w_t w_t ?_;(repeat' first|exact w_t|apply w_l);all_goals intros))
    (all_goals (try simp (disch:=omega) only [go_sem,ZC4,tp,tq,ZBu,ZBv,ZBm,ZBl,Int.reduceAdd,Int.reduceSub,Int.reduceToNat,ZB3]));(all_goals first|done|rfl|(congr 2;first|done|omega|(rw [ZCh];simp only [bool_to_prop,ZB0,ZCp,ZCq,ZCr,ZCs];omega))|skip)
    all_goals exact ZDv (AV.sl 4) (by simp only [ZCe,List.map_drop])
 ·exact⟨ZBw _,ZBw _,gC,gC,gC,gC,gC,gC,_,[],gC,by(simp (disch:=omega) only [go_sem,ZDl,List.replicate_zero]<;>repeat' first|rfl|refine⟨?_,?_⟩),by simp,by simp⟩
theorem poAdd (p q:Po) {j k e:Nat} (hp:PK p j e) (hq:PK q k e) (sp:SrtM p) (sq:SrtM q) (lp:p.length≤1000000) (lq:q.length≤1000000) (hj:j≤1000000) (hk:k≤1000000) (he:e≤16777216) :
 Pure prog 107 [poA p,poA q] (poA (addM p q)):=by
 have c:=poMerge p q hp hq sp sq lp lq hj hk he;generalize addM p q=r at *;refine pI func107 rfl ntmps107 results107 call107 ?_;(focus (refine wklp w_t (w_1 c) w_t (w_r 0) ?_;(repeat' first|exact w_t|apply w_l);all_goals intros))
theorem poTimes1 {p:Po} {t:Tm} {i:Nat} (hi:i < p.length):Zc3 mulM (p.take (i+1)) t=Zc3 mulM (p.take i) t++[(p[i].1*t.1,mulM p[i].2 t.2)]:=by
 unfold Zc3;rw [ZD1 hi,ZCe];rfl
theorem Zu5 (p:Po) (t:Tm):(Zc3 mulM p t).length=p.length:=by unfold Zc3;simp
theorem poTimesN (p:Po) (t:Tm) (hn:t.2=[]) {j k e f:Nat} (hp:PK p j e) (ht:PK [t] k f) (sp:SrtM p) (h0:t.1≠0) (hd:Can t.2) (lp:p.length≤1000000) (hj:j≤1000000) (hk:k≤1000000) (he:e≤16777216) (hf:f≤16777216) :
 Pure prog 184 [poA p,.agg [.v (.bool (decide (t.1.num < 0))),lim (toL t.1.num.natAbs),lim (toL t.1.den),.v (.slice none 0 0)]] (poA (Zc3 mulM p t)):=by
 refine pI func184 rfl ntmps184 results184 call184 ?_;(focus (refine wkad (w_1 @Zcg) w_t w_t ?_;(repeat' first|exact w_t|apply w_l);all_goals intros));rename_i g3 sv0;refine Zad (ι:=Nat) (λi e m=>i≤p.length∧e 3=.pbox 3 g3 0∧m 3=some (.box g3 215 [.v (.bool (decide (t.1.num < 0))),lim (toL t.1.num.natAbs),lim (toL t.1.den),.v (.slice none 0 0)] false)∧e 12=poA p∧e 13=iv p.length∧e 14=iv i∧∃sv,e 5=.own 11 sv∧m 11=some (.row sv 215 4 ((Zc3 mulM (p.take i) t).map tmA) 0)) (λi=>p.length - i) 0 zr ?_ ?_
 ·rintro i e m ⟨hi,e3,m3,e12,e13,e14,sv,e5,m11⟩
  by_cases hlt:i < p.length
  ·have hg:=Zaw tmA hlt;have hs:=poTimes1 (t:=t) hlt;have ms:=hp _ (ZBy hlt);have m1:=hp.sm he (ZBy hlt);have m2:=ht.sm hf (.head _);have d1:=sp.dom _ (ZBy hlt);have n1:=(sp.1 _ (ZBy hlt)).1;have mt:=(ht t (.head _)).1;have hl:(Zc3 mulM (p.take i) t).length≤1000000:=by rw [Zu5,ZB9];omega
   generalize p[i]=s at *;have c1:=Zfo s.1 t.1 ms.1 mt zo zo;have c2:=Zck (s.1*t.1) (ms.1.mul mt) zo;have c3:Pure prog 242 [ivs s.2,ivs t.2] (ivs (Zj6 (mulM s.2 t.2))):=monMul s.2 t.2 m1.wd m2.wd;rw [trim_can (mulK.dom _ _ d1 hd)] at c3
   have nz:¬(s.1*t.1).num.sign=0:=by
    rw [Zdb];intro h;rcases Rat.mul_eq_zero.1 h with h | h
    ·exact n1 h
    ·exact h0 h
   have nz2:(!decide ((s.1*t.1).num.sign=0))=true:=by rw [ZBv nz];rfl
   have c3:Pure prog 242 [ivs s.2,.v (.slice none 0 0)] (ivs (mulM s.2 t.2)):=by
    rw [hn] at c3 ⊢;exact Zf8 c3 (.cons (.refl _) (.cons (.nil 1) .nil))
   obtain⟨s1,s2⟩:=s;simp only at *;clear ms m1 m2 d1 n1 mt;generalize s1*t.1=z at *;generalize mulM s2 t.2=w at *;generalize Zc3 mulM (p.take i) t=out at *;(focus (refine wkad (w_10 e3 m3 e12 e13 e14 e5 m11 hg @Zcg nz2) (w_3 c1 c2 c3) (w_1 (w_d 7 [(6,ivs w)] [9,1009] [11,34])) ?_;(repeat' first|exact w_t|apply w_l);all_goals intros));exact⟨i+1,⟨zo,gW e3,gW m3,gW e12,gW e13,gS,_,gC,by rw [hs,ZCe];exact gC⟩,zo⟩
  ·have hi2:i=p.length:=zo;subst hi2;rw [ZC8] at m11;(focus (refine wkld (w_8 e3 m3 e12 e13 e14 e5 m11 @Zcg) w_t (w_1 m11) w_t ?_;(repeat' first|exact w_t|apply w_l);all_goals intros))
 ·exact⟨ZBw _,gC,gC,gC,by(simp (disch:=omega) only [go_sem,ZBt]<;>repeat' first|rfl|refine⟨?_,?_⟩),gC,_,gC,by(simp (disch:=omega) only [go_sem,ZFb,Zc3,ZDl,List.replicate_zero]<;>repeat' first|rfl|refine⟨?_,?_⟩)⟩
def SumOk (l:List Po) (K e:Nat):Prop:=∀a b,PK (sumH ltM ((l.drop a).take b)) K e∧(sumH ltM ((l.drop a).take b)).length≤1000000
theorem SumOk.take {l:List Po} {K e:Nat} (h:SumOk l K e) (k:Nat):SumOk (l.take k) K e:=λa b=>by
 rw [List.drop_take,List.take_take];exact h a _
theorem SumOk.drop {l:List Po} {K e:Nat} (h:SumOk l K e) (k:Nat):SumOk (l.drop k) K e:=λa b=>by
 rw [ZFt];exact h _ b
theorem SumOk.all {l:List Po} {K e:Nat} (h:SumOk l K e):PK (sumH ltM l) K e∧(sumH ltM l).length≤1000000:=by
 have:=h 0 l.length
 rwa [ZDy,ZC8] at this
def partsM (p q:Po):List Po:=if q.length < p.length then q.map λt=>Zc3 mulM p t else p.map λt=>Zc3 mulM q t
theorem SumOk.one {l:List Po} {K e:Nat} (hl:l.length≤1) (h:∀p∈l,PK p K e∧p.length≤1000000):SumOk l K e:=λa b=>by
 have h0:PK (sumH ltM []) K e∧(sumH ltM []).length≤1000000:=by rw [show sumH ltM []=[] from by simp [sumH]];exact⟨.nil,by simp⟩
 match l,hl,h with
 | [],_,_=>simpa using h0
 | [p],_,h =>
   match a,b with
   | 0,0=>simpa using h0
   | 0,b+1=>simp only [ZDy,ZHb,List.take_nil];rw [show sumH ltM [p]=p from by simp [sumH]];exact h p (.head _)
   | a+1,b=>simpa using h0
theorem Zrg (p:Po) (a:Rat) {j k e:Nat} (hp:PK p j e) (ha:Sz a k) (sp:SrtM p) (lp:p.length≤1000000) (hj:j≤1000000) (hk:k≤1000000) (he:e≤16777216):Pure prog 174 [poA p,ratQ a] (poA (sclM a p)):=by
 have cs:=Zck a ha zo;unfold sclM;by_cases h:a=0
 ·rw [ZBm h];have hz:a.num.sign=0:=by rw [Zdb];exact h
  refine Zhj (r:=.v (.slice none 0 0)) ?_ (.nil 4);refine pI func174 rfl ntmps174 results174 call174 ?_;(focus (refine wklp (w_1 hz) (w_1 cs) w_t (w_r 0) ?_;(repeat' first|exact w_t|apply w_l);all_goals intros))
 ·rw [ZBl h];have hz:¬a.num.sign=0:=by rw [Zdb];exact h
  have ct:=poTimesN p (a,[]) rfl (j:=j) (k:=k) (e:=e) (f:=0) hp (λu hu=>by rw [ZE7] at hu;subst hu;exact⟨ha,by simp,λi=>by show 0≤gI [] i∧gI [] i≤_;rw [Zc4 (ZBw _)];omega⟩) sp h can_nil lp hj hk he zo;rw [Zu4] at ct;simp only at ct;generalize Zdc a p=r at *;generalize a.num.sign=z at *;refine pI func174 rfl ntmps174 results174 call174 ?_;(focus (refine wklp w_t (w_2 cs ct) w_t (w_r 0) ?_;(repeat' first|exact w_t|apply w_l);all_goals intros))
theorem poNeg (p:Po) {j e:Nat} (hp:PK p j e) (sp:SrtM p) (lp:p.length≤1000000) (hj:j≤1000000) (he:e≤16777216):Pure prog 175 [poA p] (poA (Zdc (-1) p)):=by
 have c:=Zrg p (-1) hp ((Zlg 1 zo).neg) sp lp hj zo he;have co:=ratOfM;rw [show sclM (-1) p=Zdc (-1) p from ZBl neg1] at c;generalize Zdc (-1) p=r at *;generalize (-1:Rat)=q at *;refine pI func175 rfl ntmps175 results175 call175 ?_;(focus (refine wklp w_t (w_2 co c) w_t (w_r 0) ?_;(repeat' first|exact w_t|apply w_l);all_goals intros))
theorem PK.neg {q:Po} {k e:Nat} (hq:PK q k e):PK (Zdc (-1) q) k e:=λt ht=>by
 obtain⟨s,hs,rfl⟩:=List.mem_map.1 ht;refine⟨?_,(hq s hs).2⟩;show Sz (s.1*-1) k;rw [show s.1*-1=-s.1 by grind];exact(hq s hs).1.neg
theorem Zkz (a:Rat) (p:Po):(Zdc a p).length=p.length:=by unfold Zdc;simp
theorem poSub (p q:Po) {j k e:Nat} (hp:PK p j e) (hq:PK q k e) (sp:SrtM p) (sq:SrtM q) (lp:p.length≤1000000) (lq:q.length≤1000000) (hj:j≤1000000) (hk:k≤1000000) (he:e≤16777216) :
 Pure prog 239 [poA p,poA q] (poA (subM p q)):=by
 have c1:=poNeg q hq sq lq hk he;have c2:=poAdd p (Zdc (-1) q) hp hq.neg sp (Zgs sq neg1) lp (by rw [Zkz];exact lq) hj hk he;show Pure _ _ _ (poA (addM p (Zdc (-1) q)));generalize Zdc (-1) q=n at *;generalize addM p n=r at *;refine pI func239 rfl ntmps239 results239 call239 ?_;(focus (refine wklp w_t (w_2 c1 c2) w_t (w_r 0) ?_;(repeat' first|exact w_t|apply w_l);all_goals intros))
theorem unit_set (v:Nat):((List.replicate (v+1) (iv 0)).set v (iv 1))=(Zht v).map iv:=by
 unfold Zht;rw [ZCe,List.map_replicate,List.replicate_succ',List.set_append_right _ _ zs];simp
theorem poSingle (c:Rat) (m:List Int) (h:c≠0) {k:Nat} (hc:Sz c k) (hk:k≤1000000):Pure prog 179 [ratQ c,ivs m] (poA [(c,m)]):=by
 have cs:=Zck c hc zo;have hz:¬c.num.sign=0:=by rw [Zdb];exact h
 generalize c.num.sign=z at *;refine pI func179 rfl ntmps179 results179 call179 ?_;(focus (refine wklp w_t (w_1 cs) w_t (w_r 0) ?_;(repeat' first|exact w_t|apply w_l);all_goals intros))
theorem poVar (v:Nat) (hv:v < 1000):Pure prog 181 [iv v] (poA (varM v)):=by
 unfold varM;by_cases h:v < 64
 ·rw [ZBm h];have c1:=Zk6 1 zo;rw [show((1:Nat):Rat)=1 from rfl] at c1;have c2:=poSingle 1 (Zht v) zd (Zlg 1 zo) zo;have hu:(iv 0 :: List.replicate v (iv 0)).set v (iv 1)=(Zht v).map iv:=by rw [←List.replicate_succ];exact unit_set v
  generalize (1:Rat)=q at *;have hl:(List.replicate (v+1) (iv 0)).length=v+1:=by simp
  refine pI func181 rfl ntmps181 results181 call181 ?_;(focus (refine wkax (w_2 hl hu) (w_1 c1) w_t (w_1 c2) w_t w_t w_y (w_r 0) ?_;(repeat' first|exact w_t|apply w_l);all_goals intros))
  (all_goals (try simp (disch:=omega) only [go_sem,ZBu,ZBv,ZBm,ZBl,Int.reduceAdd,Int.reduceSub,Int.reduceToNat,ZB3]));(all_goals first|done|rfl|(congr 2;first|done|omega|(rw [ZCh];simp only [bool_to_prop,ZB0,ZCp,ZCq,ZCr,ZCs];omega))|skip)
 ·rw [ZBl h];refine Zhj (r:=.v (.slice none 0 0)) ?_ (.nil 4);refine pI func181 rfl ntmps181 results181 call181 ?_;(focus (refine wklp w_t w_t w_t (w_r 0) ?_;(repeat' first|exact w_t|apply w_l);all_goals intros))
section
attribute [local go_sem] underlying3 underlying4 underlying28 underlying26 underlying24 underlying215 underlying108 underlying213 underlying109 underlying212 sz3 by3 z3 Zaq zRat Zau zInt Zat zNat Zgp Zur Zkm Zsy Zus zMono Zgi Zg7 Zj5
end
attribute [local go_sem] Zag Zao Zah Bool.and_self Zal Zbb Za7
abbrev QTs:=List (Rat × List Qt)
abbrev qpA (p:QTs):AV:=.sl 4 (p.map qtA)
abbrev Za9 (p q:QTs):QTs:=addP (λx y=>ordQ y x < 0) p q
def QK (p:QTs) (j n:Nat):Prop:=∀t∈p,Sz t.1 j∧t.2.length≤n
theorem QK.mono {p:QTs} {j n k m:Nat} (h:QK p j n) (hj:j≤k) (hn:n≤m):QK p k m:=λt ht=>⟨(h t ht).1.mono hj,ZBs (h t ht).2 hn⟩
theorem Zzh {p q:QTs} {i k:Nat} (hi:i < p.length) (hk:k < q.length):Za9 (p.drop i) (q.drop k) =
 if ordQ p[i].2 q[k].2 < 0 then p[i] :: Za9 (p.drop (i+1)) (q.drop k) else if ordQ q[k].2 p[i].2 < 0 then q[k] :: Za9 (p.drop i) (q.drop (k+1))
 else if p[i].1+q[k].1=0 then Za9 (p.drop (i+1)) (q.drop (k+1)) else (p[i].1+q[k].1,p[i].2) :: Za9 (p.drop (i+1)) (q.drop (k+1)):=by
 rw [ZD7 hi,ZD7 hk];rw [show Za9 (p[i] :: p.drop (i+1)) (q[k] :: q.drop (k+1))=_ from by unfold Za9;rw [addP]]
theorem Ziz {p q:QTs} {i k:Nat} (h:p.length≤i∨q.length≤k):Za9 (p.drop i) (q.drop k)=p.drop i++q.drop k:=by
 rcases h with h | h
 ·rw [ZDb h];simp [Za9,addP]
 ·rw [ZDb h,ZC6];exact Zod _
theorem join_QK {p q:QTs} {j k n:Nat} (hp:QK p j n) (hq:QK q k n):QK (Za9 p q) (j+k+1) n:=λt ht=>by
 rcases Zg0 ht with h | h | ⟨s,hs,u,hu,rfl⟩
 ·exact⟨(hp t h).1.mono zo,(hp t h).2⟩
 ·exact⟨(hq t h).1.mono zo,(hq t h).2⟩
 ·exact⟨(hp s hs).1.add (hq u hu).1,(hp s hs).2⟩
theorem Zyg (l m:List Qt):(ordQ l m=-1∧ordQ l m < 0)∨(ordQ l m=0∧¬ordQ l m < 0∧¬ordQ m l < 0)∨(ordQ l m=1∧¬ordQ l m < 0∧ordQ m l < 0):=by
 have hf:=Zbh.flip m l
 have h3:ordQ l m=-1∨ordQ l m=0∨ordQ l m=1:=by
  unfold ordQ ordL;split
  ·exact .inl rfl
  ·split
   ·exact .inr (.inr rfl)
   ·clear hf;rename_i h1 h2;clear h1 h2
    induction l generalizing m with
    | nil=>cases m<;>simp [lexL]
    | cons a l ih=>cases m with
      | nil=>simp [lexL]
      | cons b m =>
        rw [Zb6];split
        ·exact ih m
        ·rcases Zg6 a b with⟨h,_⟩ | ⟨h,_⟩ | ⟨h,_⟩
         ·exact .inl h
         ·exact .inr (.inl h)
         ·exact .inr (.inr h)
 rcases h3 with h | h | h
 ·exact .inl ⟨h,zo⟩
 ·exact .inr (.inl ⟨h,zo,zo⟩)
 ·exact .inr (.inr ⟨h,zo,zo⟩)
attribute [go_sem] underlying81 underlying39 underlying30 underlying40 underlying42 zFig zSlI zSlS zSlF
attribute [local go_sem] Zbp Za5 Zbv Za8 Zba Zb8 Zbm Zbn Zct Zcb Zca Zb9 Zcu
theorem irRaw (s:Bool) (l:List Nat) (hl:Lm l) (hs:l.length≤100000000):Pure prog 113 [.agg [.v (.bool s),lim l]] (.v (.bool (RQ.zok s l))):=by
 unfold RQ.zok valL;by_cases h:l.length=0
 ·rw [ZBu h,Bool.true_or,ZD0,ZF2];cases s
  ·refine pI func113 rfl ntmps113 results113 call113 ?_;exact wklp (w_1 @Zbs) w_t w_t (w_r 0) w_z
  ·refine pI func113 rfl ntmps113 results113 call113 ?_;exact wklp (w_1 @Zbs) w_t w_t (w_r 0) w_z
 ·rw [ZBv h,Bool.false_or,ZGm,ZF3,ZF2];have ei:(l.length:Int) - 1=((l.length - 1:Nat):Int):=zo;have hlm:=Zb1 hl (l.length - 1);by_cases hg:gN l (l.length - 1)=0
  ·rw [ZBu hg];cases s
   ·refine pI func113 rfl ntmps113 results113 call113 ?_;exact wklp (w_2 ei @Zbs) w_t (w_1 @ZF1) (w_r 0) w_z
   ·refine pI func113 rfl ntmps113 results113 call113 ?_;exact wklp (w_2 ei @Zbs) w_t (w_1 @ZF1) (w_r 0) w_z
  ·rw [ZBv hg];cases s
   ·refine pI func113 rfl ntmps113 results113 call113 ?_;exact wklp (w_2 ei @Zbs) w_t (w_1 @ZF3) (w_r 0) w_z
   ·refine pI func113 rfl ntmps113 results113 call113 ?_;exact wklp (w_2 ei @Zbs) w_t (w_1 @ZF3) (w_r 0) w_z
theorem Zq6 (r:RQ) (h:r.lm 100000000):Pure prog 62 [r.av] (.v (.bool r.ok)):=by
 obtain⟨s,l,d⟩:=r;obtain⟨h1,h2,h3,h4⟩:=h;simp only at h1 h2 h3 h4;have c1:=irRaw s l h1 h3;unfold RQ.ok;simp only;generalize RQ.zok s l=z at *;by_cases hd:d.length=0
 ·have:decide (0 < d.length)=false:=ZBv zo;rw [this,ZGm];cases z
  ·refine pI func62 rfl ntmps62 results62 call62 ?_;exact wklp (w_1 @Zbs) (w_1 c1) w_t (w_r 0) w_z
  ·refine pI func62 rfl ntmps62 results62 call62 ?_;exact wklp (w_1 @Zbs) (w_1 c1) w_t (w_r 0) w_z
 ·have:decide (0 < d.length)=true:=ZBu zo;rw [this,ZF2];have ei:(d.length:Int) - 1=((d.length - 1:Nat):Int):=zo;have hlm:=Zb1 h2 (d.length - 1)
  cases z with
  | false =>
    rw [ZC1,ZC1];refine pI func62 rfl ntmps62 results62 call62 ?_;exact wklp (w_1 @Zbs) (w_1 c1) w_t (w_r 0) w_z
  | true =>
    rw [ZD0];by_cases hg:gN d (d.length - 1)=0
    ·have:valL d=false:=by unfold valL;rw [ZBv hd,ZBu hg];rfl
     rw [this,ZC1];refine pI func62 rfl ntmps62 results62 call62 ?_;exact wklp (w_2 ei @Zbs) (w_1 c1) w_t (w_r 0) w_z
    ·have hv:valL d=true:=by unfold valL;rw [ZBv hd,ZBv hg];rfl
     rw [hv,ZD0];have hdt:=(Zij h2).1 hv;have l4:(toL (nv d)).length≤100000000:=by rw [←hdt];exact h4
     have c2:=Zk5 (nv d) l4;have c3:=natGcd l d zo zo h1 h2
     have n0:nv d≠0:=by
      intro h0;rw [h0,Zaz] at hdt;rw [hdt] at hd;exact hd rfl
     have gl:(toL (Nat.gcd (nv l) (nv d))).length≤100000000:=ZBs (Zed (Nat.gcd_le_right _ zo)) l4;have c4:=Zk5 (Nat.gcd (nv l) (nv d)) gl;rw [←hdt] at c2;have hb:(Nat.gcd (nv l) (nv d) == 1)=decide (Nat.gcd (nv l) (nv d)=1):=by rw [ZCh,ZDw,ZCj]
     rw [hb];by_cases h1d:nv d=1
     ·rw [ZBu h1d] at c2;rw [ZBu (show Nat.gcd (nv l) (nv d)=1 by rw [h1d,Nat.gcd_one_right])];clear c3 c4 hdt;refine pI func62 rfl ntmps62 results62 call62 ?_;exact wklp (w_2 ei @Zbs) (w_2 c1 c2) (w_1 @decide_true) (w_r 0) w_z
     ·rw [ZBv h1d] at c2;clear hdt hb gl;generalize decide (Nat.gcd (nv l) (nv d)=1)=v at *;generalize toL (Nat.gcd (nv l) (nv d))=lg' at *;refine pI func62 rfl ntmps62 results62 call62 ?_;exact wklp (w_2 ei @Zbs) (w_4 c1 c2 c3 c4) w_t (w_r 0) w_z
theorem lwAr (k:Int):Pure prog 232 [iv k] (iv (arS k)):=by
 unfold arS;refine pI func232 rfl ntmps232 results232 call232 ?_;(focus (refine wklp w_t w_t w_t (w_r 0) ?_;(repeat' first|exact w_t|apply w_l);all_goals intros));all_goals (congr 2;repeat' split)
 all_goals (first|rfl|omega)
theorem lwNone (r:RQ):Pure prog 235 [r.av] (.v (.bool r.none)):=by
 obtain⟨s,l,d⟩:=r;unfold RQ.none;simp only;cases s
 ·refine pI func235 rfl ntmps235 results235 call235 ?_;(focus (refine wklp (w_1 @Zbs) w_t w_t (w_r 0) ?_;(repeat' first|exact w_t|apply w_l);all_goals intros))
 ·refine pI func235 rfl ntmps235 results235 call235 ?_;(focus (refine wklp (w_1 @Zbs) w_t w_t (w_r 0) ?_;(repeat' first|exact w_t|apply w_l);all_goals intros))
theorem prAr (k:Int):Pure prog 61 [iv k] (iv (arG k)):=by
 unfold arG;refine pI func61 rfl ntmps61 results61 call61 ?_;(focus (refine wklp w_t w_t w_t (w_r 0) ?_;(repeat' first|exact w_t|apply w_l);all_goals intros));all_goals (congr 2;repeat' split)
 all_goals (first|rfl|omega)
theorem prNone (r:RQ):Pure prog 63 [r.av] (.v (.bool r.none)):=by
 obtain⟨s,l,d⟩:=r;unfold RQ.none;simp only;cases s
 ·refine pI func63 rfl ntmps63 results63 call63 ?_;(focus (refine wklp (w_1 @Zbs) w_t w_t (w_r 0) ?_;(repeat' first|exact w_t|apply w_l);all_goals intros))
 ·refine pI func63 rfl ntmps63 results63 call63 ?_;(focus (refine wklp (w_1 @Zbs) w_t w_t (w_r 0) ?_;(repeat' first|exact w_t|apply w_l);all_goals intros))
theorem Zmr {α:Type} (F:α→Bool) (l:List α):∃n,n≤l.length∧(∀j (h:j < l.length),j < n→F l[j]=false)∧(∀h:n < l.length,F l[n]=true)∧l.any F=decide (n < l.length):=by
 induction l with
 | nil=>exact⟨0,by simp,by simp,by simp,by simp⟩
 | cons a l ih =>
   obtain⟨n,h1,h2,h3,h4⟩:=ih
   cases ha:F a with
   | true=>exact⟨0,by simp,λj h h'=>zo,λ_=>ha,by simp [ha]⟩
   | false =>
     refine⟨n+1,by simpa using h1,λj h h'=>?_,λh=>h3 (by simpa using h),by simp [ha,h4]⟩
     cases j with
     | zero=>exact ha
     | succ j=>exact h2 j (by simpa using h) zo
theorem ck1 (a i:Int):Pure prog 234 [iv a,.pimm [iv i]] (.v (.bool (decide (a < 0) || decide (i≤a)))):=by
 refine pI func234 rfl ntmps234 results234 call234 ?_;(focus (refine wklp w_t w_t w_t (w_r 0) ?_;(repeat' first|exact w_t|apply w_l);all_goals intros))
theorem slIdx1 (l:List Int) (i:Int) (hl:l.length≤1000000000):∃z:Int,Pure prog 275 [ivs l,.fn 234 [.pimm [iv i]]] (iv z)∧decide (0≤z)=outB i l:=by
 obtain⟨n,h1,h2,h3,h4⟩:=Zmr (λa=>decide (a < 0) || decide (i≤a)) l;refine⟨if n < l.length then (n:Int) else -1,?_,?_⟩
 ·refine pI func275 rfl ntmps275 results275 call275 ?_;(focus (refine wkap (w_1 @Zcg) w_t (w_r 0) ?_;(repeat' first|exact w_t|apply w_l);all_goals intros));refine Zad (ι:=Nat) (λk e m=>k≤n∧e 0=ivs l∧e 1=.fn 234 [.pimm [iv i]]∧e 7=iv l.length∧e 8=iv k) (λk=>n - k) 0 zr ?_ ?_
  ·rintro k e m ⟨hk,e0,e1,e7,e8⟩
   by_cases hlt:k < l.length
   ·have hg:=Zaw iv hlt;by_cases hkn:k < n
    ·have hb:=h2 k hlt hkn;have c:=ck1 l[k] i;rw [hb] at c;clear hb;generalize l[k]=a at *;(focus (refine wkap (w_6 e0 e1 e7 e8 hg @Zcg) (w_1 c) (w_r 0) ?_;(repeat' first|exact w_t|apply w_l);all_goals intros));exact⟨k+1,⟨zo,gW e0,gW e1,gW e7,gS⟩,zo⟩
    ·have hkn:k=n:=zo;subst hkn;have hb:=h3 hlt;have c:=ck1 l[k] i;rw [hb] at c;rw [ZBm hlt];clear hb;generalize l[k]=a at *;(focus (refine wklp (w_6 e0 e1 e7 e8 hg @Zcg) (w_1 c) w_t (w_r 0) ?_;(repeat' first|exact w_t|apply w_l);all_goals intros))
   ·rw [ZBl zo];(focus (refine wklp (w_5 e0 e1 e7 e8 @Zcg) w_t w_t (w_r 0) ?_;(repeat' first|exact w_t|apply w_l);all_goals intros))
  ·exact⟨ZBw _,gC,gC,by(simp (disch:=omega) only [go_sem,ZBt]<;>repeat' first|rfl|refine⟨?_,?_⟩),gC⟩
 ·unfold outB;rw [h4,ZCh,ZCj,ZCj];split<;>omega
theorem slCon1 (l:List Int) (i:Int) (hl:l.length≤1000000000):Pure prog 233 [ivs l,.fn 234 [.pimm [iv i]]] (.v (.bool (outB i l))):=by
 obtain⟨z,c,hz⟩:=slIdx1 l i hl;rw [←hz];refine pI func233 rfl ntmps233 results233 call233 ?_;(focus (refine wklp w_t (w_1 c) w_t (w_r 0) ?_;(repeat' first|exact w_t|apply w_l);all_goals intros))
theorem ck2 (t s:RS):Pure prog 238 [t.av,.pimm [iv s.k,strA s.nm,ivs s.ar,.v (.bool s.r.s),lim s.r.l,lim s.r.d]] (.v (.bool (t.nm.toList == s.nm.toList))):=by
 obtain⟨a,b,c,d⟩:=t;obtain⟨a',b',c',d'⟩:=s;refine pI func238 rfl ntmps238 results238 call238 ?_;(focus (refine wklp w_t w_t w_t (w_r 0) ?_;(repeat' first|exact w_t|apply w_l);all_goals intros))
theorem slIdx2 (l:List RS) (s:RS) (hl:l.length≤1000000000):∃z:Int,Pure prog 279 [.sl 6 (l.map RS.av),.fn 238 [.pimm [iv s.k,strA s.nm,ivs s.ar,.v (.bool s.r.s),lim s.r.l,lim s.r.d]]] (iv z)∧decide (0≤z)=l.any (λt=>t.nm.toList == s.nm.toList):=by
 obtain⟨n,h1,h2,h3,h4⟩:=Zmr (λt:RS=>t.nm.toList == s.nm.toList) l;refine⟨if n < l.length then (n:Int) else -1,?_,?_⟩
 ·refine pI func279 rfl ntmps279 results279 call279 ?_;(focus (refine wkap (w_1 @Zcg) w_t (w_r 0) ?_;(repeat' first|exact w_t|apply w_l);all_goals intros));refine Zad (ι:=Nat) (λk e m=>k≤n∧e 0=.sl 6 (l.map RS.av)∧e 1=.fn 238 [.pimm [iv s.k,strA s.nm,ivs s.ar,.v (.bool s.r.s),lim s.r.l,lim s.r.d]]∧e 7=iv l.length∧e 8=iv k) (λk=>n - k) 0 zr ?_ ?_
  ·rintro k e m ⟨hk,e0,e1,e7,e8⟩
   by_cases hlt:k < l.length
   ·have hg:=Zaw RS.av hlt;by_cases hkn:k < n
    ·have hb:=h2 k hlt hkn;have c:=ck2 l[k] s;rw [hb] at c;clear hb;generalize l[k]=a at *;obtain⟨a1,a2,a3,a4⟩:=a;(focus (refine wkap (w_6 e0 e1 e7 e8 hg @Zcg) (w_1 c) (w_r 0) ?_;(repeat' first|exact w_t|apply w_l);all_goals intros));exact⟨k+1,⟨zo,gW e0,gW e1,gW e7,gS⟩,zo⟩
    ·have hkn:k=n:=zo;subst hkn;have hb:=h3 hlt;have c:=ck2 l[k] s;rw [hb] at c;rw [ZBm hlt];clear hb;generalize l[k]=a at *;obtain⟨a1,a2,a3,a4⟩:=a;(focus (refine wklp (w_6 e0 e1 e7 e8 hg @Zcg) (w_1 c) w_t (w_r 0) ?_;(repeat' first|exact w_t|apply w_l);all_goals intros))
   ·rw [ZBl zo];(focus (refine wklp (w_5 e0 e1 e7 e8 @Zcg) w_t w_t (w_r 0) ?_;(repeat' first|exact w_t|apply w_l);all_goals intros))
  ·exact⟨ZBw _,gC,gC,by(simp (disch:=omega) only [go_sem,ZBt]<;>repeat' first|rfl|refine⟨?_,?_⟩),gC⟩
 ·rw [h4,ZCh,ZCj,ZCj];split<;>omega
theorem slCon2 (l:List RS) (s:RS) (hl:l.length≤1000000000):Pure prog 237 [.sl 6 (l.map RS.av),.fn 238 [.pimm [iv s.k,strA s.nm,ivs s.ar,.v (.bool s.r.s),lim s.r.l,lim s.r.d]]] (.v (.bool (l.any (λt=>t.nm.toList == s.nm.toList)))):=by
 obtain⟨z,c,hz⟩:=slIdx2 l s hl;rw [←hz];refine pI func237 rfl ntmps237 results237 call237 ?_;(focus (refine wklp w_t (w_1 c) w_t (w_r 0) ?_;(repeat' first|exact w_t|apply w_l);all_goals intros))
def RS.sm (s:RS):Prop:=s.r.lm 100000000∧s.nm.size≤1000000000∧s.ar.length≤1000000000
def RG.sm (g:RG):Prop:=g.r.lm 100000000∧g.ar.length≤1000000000
theorem lwCheck (ss:List RS) (i:Nat) (hi:i < ss.length) (hl:ss.length≤1000000000) (hs:∀s∈ss,s.sm):Pure prog 166 [.sl 6 (ss.map RS.av),iv i] (iv (errS ss i)):=by
 have hg:=Zaw RS.av hi;have hsm:=hs _ (ZBy hi);have e0:errS ss i=errS ss i:=rfl;unfold errS at e0 ⊢;rw [show ss.getD i RS.zero=ss[i] from by rw [ZB6,ZBx hi];rfl];clear e0;have htk:(ss.map RS.av).take i=(ss.take i).map RS.av:=(List.map_take ..).symm;have c2:=slCon2 (ss.take i) ss[i] (by rw [ZB9];omega);rw [←htk] at c2;have hlm:(ss.map RS.av).length=ss.length:=ZBt ..;generalize ss.map RS.av=M at *;generalize ss[i]=s at *;clear htk;clear hs;obtain⟨h1,h2,h3⟩:=hsm;have ca:=lwAr s.k;have cr:=Zq6 s.r h1;have cn:=lwNone s.r
 have cm:=nmName s.nm h2;have c1:=slCon1 s.ar i h3;have hst:=Zi9 s.nm;have hla:(s.ar.map iv).length=s.ar.length:=ZBt ..;obtain⟨k,nm,ar,r,rl,rd⟩:=s;simp only at *;generalize (ss.take i).any (λt=>t.nm.toList == nm.toList)=any at *;generalize arS k=a at *;generalize outB (i:Int) ar=o at *;generalize RQ.ok ⟨r,rl,rd⟩=ok at *;generalize RQ.none ⟨r,rl,rd⟩=no at *;generalize namB nm=nb at *;by_cases w1:a < 0
 ·rw [ZBm w1];refine pI func166 rfl ntmps166 results166 call166 ?_;(focus (refine wklp (w_3 hg hlm hla) (w_1 ca) w_t (w_r 0) ?_;(repeat' first|exact w_t|apply w_l);all_goals intros))
 ·rw [ZBl w1];by_cases w2:(ar.length:Int)≠a
  ·rw [ZBm w2];refine pI func166 rfl ntmps166 results166 call166 ?_;(focus (refine wklp (w_3 hg hlm hla) (w_1 ca) w_t (w_r 0) ?_;(repeat' first|exact w_t|apply w_l);all_goals intros))
  ·rw [ZBl w2]
   cases o with
   | true =>
     rw [ZBm rfl];refine pI func166 rfl ntmps166 results166 call166 ?_;(focus (refine wkax (w_3 hg hlm hla) (w_1 ca) w_t (w_1 c1) w_t w_t w_y (w_r 0) ?_;(repeat' first|exact w_t|apply w_l);all_goals intros))
     (all_goals (try simp (disch:=omega) only [go_sem,ZBu,ZBv,ZBm,ZBl,Int.reduceAdd,Int.reduceSub,Int.reduceToNat,ZB3]));(all_goals first|done|rfl|(congr 2;first|done|omega|(rw [ZCh];simp only [bool_to_prop,ZB0,ZCp,ZCq,ZCr,ZCs];omega))|skip)
   | false =>
     rw [ZBl zd];by_cases w3:(k=2∧ok=false)∨(k≠2∧no=false)
     ·rw [ZBm w3];rcases w3 with⟨hk,rfl⟩ | ⟨hk,rfl⟩
      ·subst hk;refine pI func166 rfl ntmps166 results166 call166 ?_;(focus (refine wkax (w_3 hg hlm hla) (w_2 ca cr) w_t (w_1 c1) w_t w_t w_y (w_r 0) ?_;(repeat' first|exact w_t|apply w_l);all_goals intros))
       (all_goals (try simp (disch:=omega) only [go_sem,ZBu,ZBv,ZBm,ZBl,Int.reduceAdd,Int.reduceSub,Int.reduceToNat,ZB3]));(all_goals first|done|rfl|(congr 2;first|done|omega|(rw [ZCh];simp only [bool_to_prop,ZB0,ZCp,ZCq,ZCr,ZCs];omega))|skip)
      ·refine pI func166 rfl ntmps166 results166 call166 ?_;(focus (refine wkax (w_3 hg hlm hla) (w_2 ca cn) w_t (w_1 c1) w_t w_t w_y (w_r 0) ?_;(repeat' first|exact w_t|apply w_l);all_goals intros))
       (all_goals (try simp (disch:=omega) only [go_sem,ZBu,ZBv,ZBm,ZBl,Int.reduceAdd,Int.reduceSub,Int.reduceToNat,ZB3]));(all_goals first|done|rfl|(congr 2;first|done|omega|(rw [ZCh];simp only [bool_to_prop,ZB0,ZCp,ZCq,ZCr,ZCs];omega))|skip)
     ·rw [ZBl w3]
      have w4:(k=2∧ok=true)∨(k≠2∧no=true):=by
       by_cases hk:k=2
       ·cases ok
        ·exact absurd (.inl ⟨hk,rfl⟩) w3
        ·exact .inl ⟨hk,rfl⟩
       ·cases no
        ·exact absurd (.inr ⟨hk,rfl⟩) w3
        ·exact .inr ⟨hk,rfl⟩
      clear w3;by_cases w5:nm.size=0
      ·rw [ZBm w5];rw [ZBu w5] at hst;rcases w4 with⟨hk,rfl⟩ | ⟨hk,rfl⟩
       ·subst hk;refine pI func166 rfl ntmps166 results166 call166 ?_;(focus (refine wkax (w_4 hg hlm hla hst) (w_2 ca cr) w_t (w_1 c1) w_t w_t w_y (w_r 0) ?_;(repeat' first|exact w_t|apply w_l);all_goals intros))
        (all_goals (try simp (disch:=omega) only [go_sem,ZBu,ZBv,ZBm,ZBl,Int.reduceAdd,Int.reduceSub,Int.reduceToNat,ZB3]));(all_goals first|done|rfl|(congr 2;first|done|omega|(rw [ZCh];simp only [bool_to_prop,ZB0,ZCp,ZCq,ZCr,ZCs];omega))|skip)
       ·refine pI func166 rfl ntmps166 results166 call166 ?_;(focus (refine wkax (w_4 hg hlm hla hst) (w_2 ca cn) w_t (w_1 c1) w_t w_t w_y (w_r 0) ?_;(repeat' first|exact w_t|apply w_l);all_goals intros))
        (all_goals (try simp (disch:=omega) only [go_sem,ZBu,ZBv,ZBm,ZBl,Int.reduceAdd,Int.reduceSub,Int.reduceToNat,ZB3]));(all_goals first|done|rfl|(congr 2;first|done|omega|(rw [ZCh];simp only [bool_to_prop,ZB0,ZCp,ZCq,ZCr,ZCs];omega))|skip)
      ·rw [ZBl w5];rw [ZBv w5] at hst
       cases nb with
       | false =>
         rw [ZBm rfl];rcases w4 with⟨hk,rfl⟩ | ⟨hk,rfl⟩
         ·subst hk;refine pI func166 rfl ntmps166 results166 call166 ?_;(focus (refine wkax (w_4 hg hlm hla hst) (w_3 ca cr cm) w_t (w_1 c1) w_t w_t w_y (w_r 0) ?_;(repeat' first|exact w_t|apply w_l);all_goals intros))
          (all_goals (try simp (disch:=omega) only [go_sem,ZBu,ZBv,ZBm,ZBl,Int.reduceAdd,Int.reduceSub,Int.reduceToNat,ZB3]));(all_goals first|done|rfl|(congr 2;first|done|omega|(rw [ZCh];simp only [bool_to_prop,ZB0,ZCp,ZCq,ZCr,ZCs];omega))|skip)
         ·refine pI func166 rfl ntmps166 results166 call166 ?_;(focus (refine wkax (w_4 hg hlm hla hst) (w_3 ca cn cm) w_t (w_1 c1) w_t w_t w_y (w_r 0) ?_;(repeat' first|exact w_t|apply w_l);all_goals intros))
          (all_goals (try simp (disch:=omega) only [go_sem,ZBu,ZBv,ZBm,ZBl,Int.reduceAdd,Int.reduceSub,Int.reduceToNat,ZB3]));(all_goals first|done|rfl|(congr 2;first|done|omega|(rw [ZCh];simp only [bool_to_prop,ZB0,ZCp,ZCq,ZCr,ZCs];omega))|skip)
       | true =>
         rw [ZBl zd];rcases w4 with⟨hk,rfl⟩ | ⟨hk,rfl⟩
         ·subst hk;cases any
          ·refine pI func166 rfl ntmps166 results166 call166 ?_;(focus (refine wkax (w_5 hg hlm hla hst @Zjg) (w_3 ca cr cm) w_t (w_2 c1 c2) w_t w_t w_y (w_r 0) ?_;(repeat' first|exact w_t|apply w_l);all_goals intros))
           (all_goals (try simp (disch:=omega) only [go_sem,ZBu,ZBv,ZBm,ZBl,Int.reduceAdd,Int.reduceSub,Int.reduceToNat,ZB3]));(all_goals first|done|rfl|(congr 2;first|done|omega|(rw [ZCh];simp only [bool_to_prop,ZB0,ZCp,ZCq,ZCr,ZCs];omega))|skip)
          ·refine pI func166 rfl ntmps166 results166 call166 ?_;(focus (refine wkax (w_5 hg hlm hla hst @Zjg) (w_3 ca cr cm) w_t (w_2 c1 c2) w_t w_t w_y (w_r 0) ?_;(repeat' first|exact w_t|apply w_l);all_goals intros))
           (all_goals (try simp (disch:=omega) only [go_sem,ZBu,ZBv,ZBm,ZBl,Int.reduceAdd,Int.reduceSub,Int.reduceToNat,ZB3]));(all_goals first|done|rfl|(congr 2;first|done|omega|(rw [ZCh];simp only [bool_to_prop,ZB0,ZCp,ZCq,ZCr,ZCs];omega))|skip)
         ·cases any
          ·refine pI func166 rfl ntmps166 results166 call166 ?_;(focus (refine wkax (w_5 hg hlm hla hst @Zjg) (w_3 ca cn cm) w_t (w_2 c1 c2) w_t w_t w_y (w_r 0) ?_;(repeat' first|exact w_t|apply w_l);all_goals intros))
           (all_goals (try simp (disch:=omega) only [go_sem,ZBu,ZBv,ZBm,ZBl,Int.reduceAdd,Int.reduceSub,Int.reduceToNat,ZB3]));(all_goals first|done|rfl|(congr 2;first|done|omega|(rw [ZCh];simp only [bool_to_prop,ZB0,ZCp,ZCq,ZCr,ZCs];omega))|skip)
          ·refine pI func166 rfl ntmps166 results166 call166 ?_;(focus (refine wkax (w_5 hg hlm hla hst @Zjg) (w_3 ca cn cm) w_t (w_2 c1 c2) w_t w_t w_y (w_r 0) ?_;(repeat' first|exact w_t|apply w_l);all_goals intros))
           (all_goals (try simp (disch:=omega) only [go_sem,ZBu,ZBv,ZBm,ZBl,Int.reduceAdd,Int.reduceSub,Int.reduceToNat,ZB3]));(all_goals first|done|rfl|(congr 2;first|done|omega|(rw [ZCh];simp only [bool_to_prop,ZB0,ZCp,ZCq,ZCr,ZCs];omega))|skip)
theorem Zye {n:Int} {l:List Int} {k:Nat} (hk:k < l.length):outB n (l.take (k+1))=(outB n (l.take k) || (decide (l[k] < 0) || decide (n≤l[k]))):=by
 unfold outB;rw [ZD1 hk,List.any_append,List.any_cons,List.any_nil,Bool.or_false]
theorem outB_at {n:Int} {l:List Int} {k:Nat} (hk:k < l.length) (h:(decide (l[k] < 0) || decide (n≤l[k]))=true):outB n l=true:=List.any_eq_true.2 ⟨l[k],ZBy hk,h⟩
theorem Zrf (g:RG) (n:Nat) (hn:n≤1000000000) (hs:g.sm):Pure prog 22 [g.av,iv n] (iv (errG g n)):=by
 obtain⟨h1,h3⟩:=hs;unfold errG;have ca:=prAr g.k;have cr:Pure prog 62 [g.r.av] (.v (.bool g.r.ok)):=Zq6 g.r h1;have cn:=prNone g.r;have hla:(g.ar.map iv).length=g.ar.length:=ZBt ..;obtain⟨k,ar,r,rl,rd⟩:=g;simp only at *;generalize arG k=a at *;generalize RQ.ok ⟨r,rl,rd⟩=ok at *;generalize RQ.none ⟨r,rl,rd⟩=no at *;by_cases w1:a=0
 ·rw [ZBm w1];subst w1;refine pI func22 rfl ntmps22 results22 call22 ?_;(focus (refine wklp (w_1 hla) (w_1 ca) w_t (w_r 0) ?_;(repeat' first|exact w_t|apply w_l);all_goals intros))
 ·rw [ZBl w1];by_cases w2:(ar.length:Int)≠a
  ·rw [ZBm w2];refine pI func22 rfl ntmps22 results22 call22 ?_;(focus (refine wklp (w_1 hla) (w_1 ca) w_t (w_r 0) ?_;(repeat' first|exact w_t|apply w_l);all_goals intros))
  ·rw [ZBl w2];refine pI func22 rfl ntmps22 results22 call22 ?_;(focus (refine wkap (w_1 hla) (w_1 ca) (w_r 0) ?_;(repeat' first|exact w_t|apply w_l);all_goals intros));rename_i g2;refine Zad (ι:=Nat) (λi e m=>i≤ar.length∧e 1=iv n∧e 2=.pbox 2 g2 0∧m 2=some (.box g2 30 [iv k,ivs ar,.v (.bool r),lim rl,lim rd] false)∧e 19=ivs ar∧e 20=iv ar.length∧e 21=iv i∧outB n (ar.take i)=false) (λi=>ar.length - i) 0 zr ?_ ?_
   ·rintro i e m ⟨hi,e1,e2,m2,ea,en,ei,hno⟩
    by_cases hlt:i < ar.length
    ·have hg:=Zaw iv hlt;have hst:=Zye (n:=n) hlt;have hat:=outB_at (n:=n) hlt;rw [hno,Bool.false_or] at hst;generalize ar[i]=x at *;by_cases hx:x < 0∨(n:Int)≤x
     ·have hb:(decide (x < 0) || decide ((n:Int)≤x))=true:=by simpa using hx
      rw [ZBm (hat hb)];clear hat hst hb;rcases hx with hx | hx
      ·(focus (refine wklp (w_8 e1 e2 m2 ea en ei hg hla) w_t w_t (w_r 0) ?_;(repeat' first|exact w_t|apply w_l);all_goals intros))
      ·(focus (refine wklp (w_8 e1 e2 m2 ea en ei hg hla) w_t w_t (w_r 0) ?_;(repeat' first|exact w_t|apply w_l);all_goals intros))
     ·have hb:(decide (x < 0) || decide ((n:Int)≤x))=false:=by simpa using hx
      rw [hb] at hst;clear hat hb;(focus (refine wkap (w_8 e1 e2 m2 ea en ei hg hla) w_t (w_r 0) ?_;(repeat' first|exact w_t|apply w_l);all_goals intros));exact⟨i+1,⟨zo,gW e1,gW e2,gW m2,gW ea,gW en,gS,hst⟩,zo⟩
    ·have hi2:i=ar.length:=zo;subst hi2;rw [ZC8] at hno;rw [hno,ZBl zd];by_cases hk:k=9
     ·subst hk;cases ok
      ·rw [ZBm zs];(focus (refine wklp (w_7 e1 e2 m2 ea en ei hla) (w_2 cr cn) w_t (w_r 0) ?_;(repeat' first|exact w_t|apply w_l);all_goals intros))
      ·rw [ZBl zs];(focus (refine wklp (w_7 e1 e2 m2 ea en ei hla) (w_2 cr cn) w_t (w_r 0) ?_;(repeat' first|exact w_t|apply w_l);all_goals intros))
     ·cases no
      ·rw [ZBm (by simp [hk])];(focus (refine wklp (w_7 e1 e2 m2 ea en ei hla) (w_2 cr cn) w_t (w_r 0) ?_;(repeat' first|exact w_t|apply w_l);all_goals intros))
      ·rw [ZBl (by simp [hk])];(focus (refine wklp (w_7 e1 e2 m2 ea en ei hla) (w_2 cr cn) w_t (w_r 0) ?_;(repeat' first|exact w_t|apply w_l);all_goals intros))
   ·exact⟨ZBw _,gC,gC,gC,gC,gW hla,gC,by simp [outB]⟩
theorem lwRight (ss:List RS) (gs:List RG) (h1:ss.length≤1000000000) (h2:gs.length≤1000000000) (hs:∀s∈ss,s.sm) (hg:∀g∈gs,g.sm):Pure prog 102 [figA ss gs] (iv (figE ss gs)):=by
 have hls:(ss.map RS.av).length=ss.length:=ZBt ..;have hlg:(gs.map RG.av).length=gs.length:=ZBt ..;have eg:∀i (h:i < gs.length),(gs.map RG.av).getD i .u=gs[i].av:=λi h=>Zaw RG.av h;have eg2:∀i (h:i < gs.length),gs.getD i ⟨0,[],⟨false,[],[]⟩⟩=gs[i]:=λi h=>by rw [ZB6,ZBx h];rfl
 have cc:∀i,i < ss.length→Pure prog 166 [.sl 6 (ss.map RS.av),iv i] (iv (errS ss i)):=λi hi=>lwCheck ss i hi h1 hs;have cg:∀i (h:i < gs.length),Pure prog 22 [gs[i].av,iv ss.length] (iv (errG gs[i] ss.length)):=λi h=>Zrf gs[i] ss.length h1 (hg _ (ZBy h));unfold figE;show Pure _ _ [.agg [.sl 6 (ss.map RS.av),.sl 5 (gs.map RG.av)]] _;generalize ss.map RS.av=M at *;generalize gs.map RG.av=N at *;by_cases hb:40 < ss.length∨8 < gs.length
 ·rw [ZBm hb];refine pI func102 rfl ntmps102 results102 call102 ?_;(focus (refine wklp (w_2 hls hlg) w_t w_t (w_r 0) ?_;(repeat' first|exact w_t|apply w_l);all_goals intros))
 ·rw [ZBl hb];refine pI func102 rfl ntmps102 results102 call102 ?_;(focus (refine wkap (w_2 hls hlg) w_t (w_r 0) ?_;(repeat' first|exact w_t|apply w_l);all_goals intros));rename_i g1;refine Zad (ι:=Nat) (λi e m=>i≤ss.length∧e 1=.pbox 1 g1 0∧m 1=some (.box g1 42 [.sl 6 M,.sl 5 N] false)∧e 20=iv ss.length∧e 21=iv i∧∀j,j < i→errS ss j=0) (λi=>ss.length - i) 0 zr ?_ ?_
  ·rintro i e m ⟨hi,e1,m1,e20,e21,hz⟩
   by_cases hlt:i < ss.length
   ·have c:=cc i hlt;by_cases he:errS ss i=0
    ·rw [he] at c;(focus (refine wkap (w_6 e1 m1 e20 e21 hls hlg) (w_1 c) (w_r 0) ?_;(repeat' first|exact w_t|apply w_l);all_goals intros));exact⟨i+1,⟨zo,gW e1,gW m1,gW e20,gS,λj hj=>by by_cases e:j=i;rw [e];exact he;exact hz j zo⟩,zo⟩
    ·rw [Zr8 hz he hlt,ZBm he];generalize errS ss i=z at *;(focus (refine wklp (w_6 e1 m1 e20 e21 hls hlg) (w_1 c) w_t (w_r 0) ?_;(repeat' first|exact w_t|apply w_l);all_goals intros))
   ·have hi2:i=ss.length:=zo;subst hi2;rw [Zi1 hz,ZBl zs];(focus (refine wkap (w_6 e1 m1 e20 e21 hls hlg) w_t (w_r 0) ?_;(repeat' first|exact w_t|apply w_l);all_goals intros));refine Zad (ι:=Nat) (λi e m=>i≤gs.length∧e 1=.pbox 1 g1 0∧m 1=some (.box g1 42 [.sl 6 M,.sl 5 N] false)∧e 33=.sl 5 N∧e 34=iv gs.length∧e 35=iv i∧∀j,j < i→errG (gs.getD j ⟨0,[],⟨false,[],[]⟩⟩) ss.length=0) (λi=>gs.length - i) 0 zr ?_ ?_
    ·rintro i e m ⟨hi,e1,m1,e33,e34,e35,hz⟩
     by_cases hlt:i < gs.length
     ·have c:=cg i hlt;have hgi:=eg i hlt;have hgj:=eg2 i hlt;have hfa:=@Zr8 (λi=>errG (gs.getD i ⟨0,[],⟨false,[],[]⟩⟩) ss.length) i hz;simp only [hgj] at hfa;generalize gs[i]=G at *;by_cases he:errG G ss.length=0
      ·rw [he] at c;clear hfa;obtain⟨k,ar,r,rl,rd⟩:=G;(focus (refine wkap (w_8 e1 m1 e33 e34 e35 hls hlg hgi) (w_1 c) (w_r 0) ?_;(repeat' first|exact w_t|apply w_l);all_goals intros));exact⟨i+1,⟨zo,gW e1,gW m1,gW e33,gW e34,gS,λj hj=>by by_cases e:j=i;rw [e,hgj];exact he;exact hz j zo⟩,zo⟩
      ·rw [hfa he hlt];clear hfa;generalize errG G ss.length=z at *;obtain⟨k,ar,r,rl,rd⟩:=G;(focus (refine wklp (w_8 e1 m1 e33 e34 e35 hls hlg hgi) (w_1 c) w_t (w_r 0) ?_;(repeat' first|exact w_t|apply w_l);all_goals intros))
     ·have hi2:i=gs.length:=zo;subst hi2;rw [Zi1 hz];(focus (refine wklp (w_7 e1 m1 e33 e34 e35 hls hlg) w_t w_t (w_r 0) ?_;(repeat' first|exact w_t|apply w_l);all_goals intros))
    ·exact⟨ZBw _,gW e1,gW m1,gC,gW hlg,gC,λj hj=>zo⟩
  ·exact⟨ZBw _,gC,gC,gW hls,gC,λj hj=>zo⟩
attribute [go_sem] underlying259 underlying103 underlying150 underlying102 underlying105 underlying145 underlying147 underlying143 underlying198 zVar zSlV zSlC zFnC
attribute [local go_sem] Zqt Zsj Zqu Zh2 Zif Zkn Zqv Zgq Zjr Zks Zlw Zqk Zkr Zlv Zqj Zmb Zu1 Zva
theorem Sub.nil (m:Nat):Sub (.v (.slice none 0 0)) (.sl m []):=λw imm x h=>by
 rw [h.v_inv];exact .pure ((Wk.nil m).rd (.v _))
theorem Zjk (σ:Mem) (KB KC KV g:Nat) (svC svV:Value) (vs:List Vt) (fr:Nat) (kind step number:Int) (hB:σ KB=some (.box g 145 [.own KC svC,.own KV svV,iv fr] false)) (hV:σ KV=some (.row svV 259 3 (vs.map Vt.av) 0)) (hl:vs.length≤200) (hBV:KB≠KV) :
 ACall prog 176 [.pbox KB g 0,iv kind,iv step,iv number] σ λr σ'=>∃sv,r=poA (varM vs.length)∧σ'=upd (upd σ KV (some (.row sv 259 3 ((vs++[(kind,step,number)]).map Vt.av) 0))) KB (some (.box g 145 [.own KC svC,.own KV sv,iv fr] false)):=by
 have mB:=Zax hB;have mV:=Zax hV;have cv:=poVar vs.length zo;have hln:(vs.map Vt.av).length=vs.length:=ZBt ..;have hm1:((vs.length+1:Nat):Int) - 1=(vs.length:Int):=zo;simp only [Ent.sh,AV.shL,AV.sh] at mB mV;simp only [ZCe,ZCm,ZDl];refine Zbe func176 rfl ntmps176 results176 call176 zr zs ?_;(focus (refine wkap (w_5 mB mV hln hm1 @l_app) (w_1 cv) (w_r 0) ?_;(repeat' first|exact w_t|apply w_l);all_goals intros));simp (disch:=omega) only [go_sem];rename_i sv0 sv1;refine Zig (Sub.refl _) ⟨sv1,rfl,rfl⟩ ?_
 (repeat' (first|exact Agr.start _|(refine Agr.own ?_ zo)|(refine Agr.put ?_ rfl rfl)|(refine Agr.mark ?_ zo)|(rw [ZCe];rfl)))
theorem Sub.agg2 {a b a' b':AV} (h:Sub a a') (k:Sub b b'):Sub (.agg [a,b]) (.agg [a',b']):=Sub.agg _ _ rfl λj x y h1 h2=>by
 match j with
 | 0=>simp at h1 h2;subst h1;subst h2;exact h
 | 1=>simp at h1 h2;subst h1;subst h2;exact k
 | j+2=>simp at h1
theorem Zd6 {σ:Mem} {k:Nat} {e:Ent} (h:σ k=some e):upd σ k (some e)=σ:=by
 funext j;rw [Zam];split
 ·subst_vars;exact h.symm
 ·rfl
theorem cbPoint (σ:Mem) (KB KC KV g:Nat) (svC svV:Value) (vs:List Vt) (fr:Nat) (i:Nat) (hB:σ KB=some (.box g 145 [.own KC svC,.own KV svV,iv fr] false)) (hV:σ KV=some (.row svV 259 3 (vs.map Vt.av) 0)) (hl:vs.length≤100) (hBV:KB≠KV) (hf:fr≤1000) :
 ACall prog 172 [.pbox KB g 0,iv i] σ λr σ'=>∃sv,r=coA (if fr=0 then ([],[]) else if fr=1 then (varM vs.length,[]) else (varM vs.length,varM (vs.length+1))) ∧
  σ'=upd (upd σ KV (some (.row sv 259 3 ((vs++(if fr=0 then [] else if fr=1 then [(1,(i:Int),0)] else [(1,(i:Int),0),(1,(i:Int),1)])).map Vt.av) 0))) KB (some (.box g 145 [.own KC svC,.own KV sv,iv (fr+1:Nat)] false)):=by
 have mB:=Zax hB;have mV:=Zax hV;simp only [Ent.sh,AV.shL,AV.sh] at mB mV;by_cases h0:fr=0
 ·subst h0;simp only [ZCu,ZC6];refine Zbe func172 rfl ntmps172 results172 call172 zr zs ?_;(focus (refine wkap (w_2 mB mV) w_t (w_r 0) ?_;(repeat' first|exact w_t|apply w_l);all_goals intros));simp (disch:=omega) only [go_sem];refine Zig (Sub.agg2 (Sub.nil 4) (Sub.nil 4)) ⟨svV,rfl,rfl⟩ ?_;rw [Zd6 hV]
  (repeat' (first|exact Agr.start _|(refine Agr.own ?_ zo)|(refine Agr.put ?_ rfl rfl)|(refine Agr.mark ?_ zo)|(rw [ZCe];rfl)))
 ·by_cases h1:fr=1
  ·subst h1;simp only [ZBl h0,ZCu];refine Zbe func172 rfl ntmps172 results172 call172 zr zs ?_;(focus (refine wkap (w_2 mB mV) w_t (w_r 0) ?_;(repeat' first|exact w_t|apply w_l);all_goals intros));refine Zgy (Zjk _ (KB+1000) (KC+1000) (KV+1000) g svC svV vs 2 1 (i:Int) 0 (by(simp (disch:=omega) only [go_sem,mB,mV,ZBl,ZBm]<;>repeat' first|rfl|refine⟨?_,?_⟩)) (by(simp (disch:=omega) only [go_sem,mB,mV,ZBl,ZBm,ZCe,ZCm,ZDl]<;>repeat' first|rfl|refine⟨?_,?_⟩)) (by first|omega|(simp;omega)) zo) ?_;intro sv1;(focus (refine wkap (w_2 mB mV) w_t (w_r 0) ?_;(repeat' first|exact w_t|apply w_l);all_goals intros))
   simp (disch:=omega) only [go_sem];refine Zig (Sub.agg2 (Sub.refl _) (Sub.nil 4)) ⟨sv1,rfl,rfl⟩ ?_;simp only [ZCe,ZCm,ZDl];intro k;by_cases hk1:k=KB
   ·rw [hk1];simp (disch:=omega) only [Zam,ZBm,ZBl,ZCy,Ent.sh,AV.shL,AV.sh]
    try rfl
   ·by_cases hk2:k=KV
    ·rw [hk2];simp (disch:=omega) only [Zam,ZBm,ZBl,ZCy,Ent.sh,AV.shL,AV.sh]
     try rfl
    ·simp (disch:=omega) only [Zam,ZBl];exact Agr.start σ k
  ·simp only [ZBl h0,ZBl h1];have hl1:(vs++[((1:Int),(i:Int),(0:Int))]).length=vs.length+1:=by simp
   refine Zbe func172 rfl ntmps172 results172 call172 zr zs ?_;(focus (refine wkap (w_3 mB mV @Zbl) w_t (w_r 0) ?_;(repeat' first|exact w_t|apply w_l);all_goals intros));refine Zgy (Zjk _ (KB+1000) (KC+1000) (KV+1000) g svC svV vs (fr+1) 1 (i:Int) 0 (by(simp (disch:=omega) only [go_sem,mB,mV,ZBl,ZBm]<;>repeat' first|rfl|refine⟨?_,?_⟩)) (by(simp (disch:=omega) only [go_sem,mB,mV,ZBl,ZBm,ZCe,ZCm,ZDl]<;>repeat' first|rfl|refine⟨?_,?_⟩)) (by first|omega|(simp;omega)) zo) ?_;intro sv1;(focus (refine wkap (w_3 mB mV @Zbl) w_t (w_r 0) ?_;(repeat' first|exact w_t|apply w_l);all_goals intros))
   refine Zgy (Zjk _ (KB+1000) (KC+1000) (KV+1000) g svC sv1 (vs++[(1,(i:Int),0)]) (fr+1) 1 (i:Int) 1 (by(simp (disch:=omega) only [go_sem,mB,mV,ZBl,ZBm]<;>repeat' first|rfl|refine⟨?_,?_⟩)) (by(simp (disch:=omega) only [go_sem,mB,mV,ZBl,ZBm,ZCe,ZCm,ZDl]<;>repeat' first|rfl|refine⟨?_,?_⟩)) (by first|omega|(simp;omega)) zo) ?_;intro sv2;(focus (refine wkap (w_3 mB mV hl1) w_t (w_r 0) ?_;(repeat' first|exact w_t|apply w_l);all_goals intros));simp (disch:=omega) only [go_sem,hl1];refine Zig (Sub.refl _) ⟨sv2,rfl,rfl⟩ ?_;simp only [ZC4,ZFr,ZF0]
   intro k;by_cases hk1:k=KB
   ·rw [hk1];simp (disch:=omega) only [Zam,ZBm,ZBl,ZCy,Ent.sh,AV.shL,AV.sh]
    try rfl
   ·by_cases hk2:k=KV
    ·rw [hk2];simp (disch:=omega) only [Zam,ZBm,ZBl,ZCy,Ent.sh,AV.shL,AV.sh]
     try rfl
    ·simp (disch:=omega) only [Zam,ZBl];exact Agr.start σ k
theorem Zcw {K c:Nat} (h:c < 1000):(K+1000 == c)=false:=by rw [ZF5];omega
theorem Zsu {a b:List Nat} (h:u16s a=u16s b):a=b:=by
 induction a generalizing b with
 | nil=>cases b with
   | nil=>rfl
   | cons y b=>simp [u16s] at h
 | cons x a ih=>cases b with
   | nil=>simp [u16s] at h
   | cons y b =>
     rw [Zwq,Zwq] at h;simp only [List.cons.injEq,AV.v.injEq,Value.int.injEq,true_and] at h;rw [ih h.2,show x=y by omega]
theorem RQ.ok_eq {r:RQ} {k:Nat} (hl:r.lm k) (h:r.ok=true):r=⟨decide (r.q.num < 0),toL r.q.num.natAbs,toL r.q.den⟩:=by
 have h1:=(RQ.ok_av hl h).1;simp only [RQ.av,ratQ,AV.agg.injEq,List.cons.injEq,AV.v.injEq,Value.bool.injEq,lim,AV.sl.injEq,true_and,and_true] at h1;obtain⟨s,l,d⟩:=r;simp only at h1;rw [RQ.mk.injEq];exact⟨h1.1,Zsu h1.2.1,Zsu h1.2.2⟩
theorem coOf (c:Po × Po):Pure prog 171 [coA c] (coA c):=by
 obtain⟨p,q⟩:=c;refine pI func171 rfl ntmps171 results171 call171 ?_;(focus (refine wklp w_t w_t w_t (w_r 0) ?_;(repeat' first|exact w_t|apply w_l);all_goals intros))
theorem Zqa (f:Nat) (a b r:Po × Po) (c1:Pure prog f [poA a.1,poA b.1] (poA r.1)) (c2:Pure prog f [poA a.2,poA b.2] (poA r.2)):Pure prog 170 [coA a,coA b,.fn f []] (coA r):=by
 obtain⟨a1,a2⟩:=a;obtain⟨b1,b2⟩:=b;obtain⟨r1,r2⟩:=r;simp only at c1 c2;refine pI func170 rfl ntmps170 results170 call170 ?_;(focus (refine wkld w_t (w_2 c1 c2) w_t (w_1 (w_d 1 [(5,poA r1),(11,poA r2)] [] [6])) ?_;(repeat' first|exact w_t|apply w_l);all_goals intros))
theorem ZAm (a b:Po × Po) (h1:Pure prog 239 [poA b.1,poA a.1] (poA (subM b.1 a.1))) (h2:Pure prog 239 [poA b.2,poA a.2] (poA (subM b.2 a.2))):Pure prog 169 [coA a,coA b] (coA (subM b.1 a.1,subM b.2 a.2)):=by
 have c:=Zqa 239 b a (subM b.1 a.1,subM b.2 a.2) h1 h2;have oa:=coOf a;have ob:=coOf b;obtain⟨a1,a2⟩:=a;obtain⟨b1,b2⟩:=b;simp only at *;generalize subM b1 a1=x at *;generalize subM b2 a2=y at *;refine pI func169 rfl ntmps169 results169 call169 ?_;(focus (refine wkld w_t (w_3 oa ob c) w_t (w_1 (w_d 1 [(1,coA (b1,b2)),(3,coA (a1,a2)),(4,coA (x,y))] [] [4])) ?_;(repeat' first|exact w_t|apply w_l);all_goals intros))
theorem ZAt (K4 g4:Nat) (k:Int) (nm:ByteArray) (ar:List Int) (q:Rat) (p r:Po) (c:Pure prog 174 [poA p,ratQ q] (poA r)) :
 RdC prog [(K4,.box g4 81 [iv k,strA nm,ivs ar,.v (.bool (decide (q.num < 0))),lim (toL q.num.natAbs),lim (toL q.den)] false)] 173 [poA p,.pbox K4 g4 0] (poA r):=by
 intro σ hL;have m4:=Zax hL.1;simp only [Ent.sh,AV.shL,AV.sh] at m4;refine Zbe func173 rfl ntmps173 results173 call173 zr zs ?_;(focus (refine wkap (w_1 m4) (w_1 c) (w_r 0) ?_;(repeat' first|exact w_t|apply w_l);all_goals intros));simp (disch:=omega) only [go_sem];exact Zig (Sub.refl _) ⟨rfl,rfl⟩ (Agr.start σ)
def atL (K3 K4 KB KC KV g3 g4 gB:Nat) (svC svV:Value) (z:AV) (sc:List AV) (cs:List (Po × Po)):List (Nat × Ent) :=
 [(K3,.box g3 143 [.pbox KB gB 0] false),(K4,.box g4 81 sc false),(KB,.box gB 145 [.own KC svC,.own KV svV,z] false),(KC,.row svC 150 2 (cs.map coA) 0)]
theorem ZA1 (K3 K4 KB KC KV g3 g4 gB:Nat) (svC svV:Value) (z:AV) (sc:List AV) (cs:List (Po × Po)):atL K3 K4 KB KC KV g3 g4 gB svC svV z sc cs =
 [(K3,.box g3 143 [.pbox KB gB 0] false),(K4,.box g4 81 sc false),(KB,.box gB 145 [.own KC svC,.own KV svV,z] false),(KC,.row svC 150 2 (cs.map coA) 0)]:=rfl
theorem cbAt (K3 K4 KB KC KV g3 g4 gB:Nat) (svC svV:Value) (fr:Nat) (k0:Int) (nm:ByteArray) (ar:List Int) (x y w:AV) (cs:List (Po × Po)) (k:Nat) (hx:x.sh=x∧y.sh=y∧w.sh=w) (hk:k < ar.length) (h0:0≤gI ar k∧gI ar k < (cs.length:Int)) :
 RdC prog (atL K3 K4 KB KC KV g3 g4 gB svC svV (iv fr) [iv k0,strA nm,ivs ar,x,y,w] cs) 167 [iv k,.pbox K3 g3 0,.pbox K4 g4 0] (coA (cs.getD (gI ar k).toNat ([],[]))):=by
 intro σ hL;simp only [atL,Zia,Zjj] at hL;obtain⟨h3,h4,hB,hC,-⟩:=hL;have m3:=Zax h3;have m4:=Zax h4;have mB:=Zax hB;have mC:=Zax hC;simp only [Ent.sh,AV.shL,AV.sh,hx.1,hx.2.1,hx.2.2] at m3 m4 mB mC;have hga:(ar.map iv).getD k .u=iv (gI ar k):=by rw [Zaw iv hk,Zg4 hk]
 have hgc:(cs.map coA).getD (gI ar k).toNat .u=coA (cs.getD (gI ar k).toNat ([],[])):=Zfw zo;have hll:(ar.map iv).length=ar.length:=ZBt ..;have hcl:(cs.map coA).length=cs.length:=ZBt ..;generalize cs.getD (gI ar k).toNat ([],[])=c at *;generalize gI ar k=a at *;obtain⟨c1,c2⟩:=c;refine Zbe func167 rfl ntmps167 results167 call167 zr zs ?_;(focus (refine wkad (w_10 m3 m4 mB mC hga hgc hll hcl @Zcd @Zcw) w_t (w_1 (w_d 1 [] [] [4])) ?_;(repeat' first|exact w_t|apply w_l);all_goals intros));simp (disch:=omega) only [go_sem];refine Zig (Sub.refl _) ⟨rfl,rfl⟩ ?_
 exact((Agr.start σ).own zo).own zo
def fitS (s:RS):Bool:=!(decide (2 < s.r.l.length) || decide (2 < s.r.d.length) || decide (8 < s.ar.length))
def fitsB (ss:List RS) (gs:List RG):Bool:=ss.all fitS && (decide (nfN ss ss.length≤12) && (decide (ss.length≤42) && decide (gs.length≤10)))
theorem cbAlongS (K3 K4 K7 KB KC KV g3 g4 g7 gB:Nat) (svC svV:Value) (fr:Nat) (k0:Int) (nm:ByteArray) (ar:List Int) (q:Rat) (cs:List (Po × Po)) (a b x r:Po × Po) (hk:2≤ar.length) (h0:0≤gI ar 0∧gI ar 0 < (cs.length:Int)) (h1:0≤gI ar 1∧gI ar 1 < (cs.length:Int)) (ha:cs.getD (gI ar 0).toNat ([],[])=a) (hb:cs.getD (gI ar 1).toNat ([],[])=b)
 (s1:Pure prog 239 [poA b.1,poA a.1] (poA (subM b.1 a.1))) (s2:Pure prog 239 [poA b.2,poA a.2] (poA (subM b.2 a.2)))
 (c1:Pure prog 174 [poA (subM b.1 a.1),ratQ q] (poA x.1)) (c2:Pure prog 174 [poA (subM b.2 a.2),ratQ q] (poA x.2))
 (a1:Pure prog 107 [poA a.1,poA x.1] (poA r.1)) (a2:Pure prog 107 [poA a.2,poA x.2] (poA r.2)) :
 RdC prog ((K7,.box g7 198 [.fn 167 [.pbox K3 g3 0,.pbox K4 g4 0]] false) :: atL K3 K4 KB KC KV g3 g4 gB svC svV (iv fr) [iv k0,strA nm,ivs ar,.v (.bool (decide (q.num < 0))),lim (toL q.num.natAbs),lim (toL q.den)] cs) 168 [.fn 173 [.pbox K4 g4 0],.pbox K7 g7 0] (coA r):=by
 intro σ hL;have t0:=cbAt (K3+1000) (K4+1000) (KB+1000) (KC+1000) (KV+1000) g3 g4 gB svC svV fr k0 nm ar (.v (.bool (decide (q.num < 0)))) (lim (toL q.num.natAbs)) (lim (toL q.den)) cs 0 ⟨rfl,rfl,rfl⟩ zo h0;have t1:=cbAt (K3+1000) (K4+1000) (KB+1000) (KC+1000) (KV+1000) g3 g4 gB svC svV fr k0 nm ar (.v (.bool (decide (q.num < 0)))) (lim (toL q.num.natAbs)) (lim (toL q.den)) cs 1 ⟨rfl,rfl,rfl⟩ zo h1;rw [ha] at t0;rw [hb] at t1;have cB:=ZAm a b s1 s2;have oa:=coOf a;have cC:=Zqa 107 a x r a1 a2;have p1:=ZAt (K4+1000) g4 k0 nm ar q (subM b.1 a.1) x.1 c1;have p2:=ZAt (K4+1000) g4 k0 nm ar q (subM b.2 a.2) x.2 c2
 simp only [atL,Zia,Zjj] at hL;obtain⟨h7,h3,h4,hB,hC,-⟩:=hL;have m3:=Zax h3;have m4:=Zax h4;have m7:=Zax h7;have mB:=Zax hB;have mC:=Zax hC
 skip
 simp only [Ent.sh,AV.shL,AV.sh] at m3 m4 m7 mB mC;clear a1 a2 s1 s2 ha hb h0 h1;obtain⟨aa,ab⟩:=a;obtain⟨ba,bb⟩:=b;obtain⟨xa,xb⟩:=x;obtain⟨ra,rb⟩:=r;simp only at *;generalize subM ba aa=da at *;generalize subM bb ab=db at *;refine Zbe func168 rfl ntmps168 results168 call168 zr zs ?_;(focus (refine wkax (w_8 m3 m4 m7 mB mC @Zcd @Zcw @ZA1) (w_3 cB oa cC) (w_2 (w_d 1 [(1,coA (aa,ab)),(3,coA (ba,bb)),(4,coA (da,db))] [] []) (w_d 2 [(1,coA (aa,ab)),(2,coA (aa,ab)),(6,poA xa),(10,poA xb),(12,coA (ra,rb))] [] [3])) w_t w_t (w_4 t0 t1 p1 p2) w_y (w_r 0) ?_;(repeat' first|exact w_t|apply w_l);all_goals intros))
 simp (disch:=omega) only [go_sem];refine Zig (Sub.refl _) ⟨rfl,rfl⟩ ?_
 (repeat' (first|exact Agr.start _|(refine Agr.own ?_ zo)))
theorem PK.sub {p q:Po} {j k e:Nat} (hp:PK p j e) (hq:PK q k e):PK (subM p q) (j+k+1) e:=hp.add hq.neg
theorem PK.scl {p:Po} {j k e:Nat} {a:Rat} (hp:PK p j e) (ha:Sz a k):PK (sclM a p) (j+k) e:=by
 unfold sclM;split
 ·exact .nil
 ·exact hp.scale ha
theorem Zxf {a:Rat} {p:Po} (h:SrtM p):SrtM (sclM a p):=by
 unfold sclM;split
 ·exact .nil
 ·exact Zgs h ‹_›
theorem Zxg (a:Rat) (p:Po):(sclM a p).length≤p.length:=by
 unfold sclM;split
 ·simp
 ·rw [Zkz];exact ZBn _
theorem Zw5 (p q:Po):(subM p q).length≤p.length+q.length:=by
 have:=Zen (lt:=ltM) p (Zdc (-1) q);rw [Zkz] at this;exact this
structure Co (p:Po):Prop where
 pk:PK p 110 1
 st:SrtM p
 ln:p.length≤4000
structure StOk (cs:List (Po × Po)) (s:RS):Prop where
 k0:0≤arS s.k
 al:(s.ar.length:Int)=arS s.k
 ai:∀k,k < s.ar.length→0≤gI s.ar k∧gI s.ar k < (cs.length:Int)
 r2:s.k=2→s.r.ok=true
 rl:s.r.lm 2
theorem cbStep1 (σ:Mem) (KB KC KV g:Nat) (svC svV:Value) (cs:List (Po × Po)) (vs:List Vt) (fr:Nat) (i:Nat) (s:RS) (hB:σ KB=some (.box g 145 [.own KC svC,.own KV svV,iv fr] false)) (hV:σ KV=some (.row svV 259 3 (vs.map Vt.av) 0)) (hC:σ KC=some (.row svC 150 2 (cs.map coA) 0)) (hBV:KB≠KV) (hBC:KB≠KC) (hVC:KV≠KC) (hl:vs.length≤64) (hf:fr≤100) (hk:s.k=1):ACall prog 103 [.pbox KB g 0,s.av,iv i] σ λr σ'=>∃sv,r=coA (FS.nxt ⟨cs,vs,fr⟩ i s).2 ∧
 σ'=upd (upd σ KV (some (.row sv 259 3 ((vs++(FS.nxt ⟨cs,vs,fr⟩ i s).1).map Vt.av) 0))) KB (some (.box g 145 [.own KC svC,.own KV sv,iv (if s.k=1 then fr+1 else fr:Nat)] false)):=by
 have mB:=Zax hB;have mV:=Zax hV;have mC:=Zax hC;simp only [Ent.sh,AV.shL,AV.sh] at mB mV mC
 have en:FS.nxt ⟨cs,vs,fr⟩ i s=((if fr=0 then [] else if fr=1 then [(1,(i:Int),0)] else [(1,(i:Int),0),(1,(i:Int),1)]),(if fr=0 then ([],[]) else if fr=1 then (varM vs.length,[]) else (varM vs.length,varM (vs.length+1)))):=by
  unfold FS.nxt;simp only;rw [ZBm hk];split
  ·rfl
  ·split<;>rfl
 rw [en];simp only [ZBm hk];generalize hnv:(if fr=0 then [] else if fr=1 then [((1:Int),(i:Int),(0:Int))] else [(1,(i:Int),0),(1,(i:Int),1)])=nv at *;generalize hnc:(if fr=0 then (([]:Po),([]:Po)) else if fr=1 then (varM vs.length,[]) else (varM vs.length,varM (vs.length+1)))=nc at *;obtain⟨k,nm,ar,r,rl,rd⟩:=s;simp only at hk;subst hk;refine Zbe func103 rfl ntmps103 results103 call103 zr zs ?_;(focus (refine wkad (w_4 mB mV mC @Zcd) w_t w_t ?_;(repeat' first|exact w_t|apply w_l);all_goals intros));refine Zgy ((cbPoint _ (KB+1000) (KC+1000) (KV+1000) g svC svV vs fr i (by(simp (disch:=omega) only [go_sem,mB,mV,ZBl,ZBm]<;>repeat' first|rfl|refine⟨?_,?_⟩)) (by(simp (disch:=omega) only [go_sem,mB,mV,ZBl,ZBm]<;>repeat' first|rfl|refine⟨?_,?_⟩)) zo zo zo)) ?_
 rw [hnv,hnc];intro sv1;obtain⟨n1,n2⟩:=nc;(focus (refine wkad (w_4 mB mV mC @Zcd) w_t w_t ?_;(repeat' first|exact w_t|apply w_l);all_goals intros));simp (disch:=omega) only [go_sem];refine Zig (Sub.refl _) ⟨sv1,rfl,rfl⟩ ?_;intro k;by_cases hk1:k=KB
 ·rw [hk1];simp (disch:=omega) only [Zam,ZBm,ZBl,ZCy,Ent.sh,AV.shL,AV.sh]
  try rfl
 ·by_cases hk2:k=KV
  ·rw [hk2];simp (disch:=omega) only [Zam,ZBm,ZBl,ZCy,Ent.sh,AV.shL,AV.sh]
   try rfl
  ·simp (disch:=omega) only [Zam,ZBl];exact Agr.start σ k
theorem cbStep2 (σ:Mem) (KB KC KV g:Nat) (svC svV:Value) (cs:List (Po × Po)) (vs:List Vt) (fr:Nat) (i:Nat) (s:RS) (hB:σ KB=some (.box g 145 [.own KC svC,.own KV svV,iv fr] false)) (hV:σ KV=some (.row svV 259 3 (vs.map Vt.av) 0)) (hC:σ KC=some (.row svC 150 2 (cs.map coA) 0)) (hBV:KB≠KV) (hBC:KB≠KC) (hVC:KV≠KC) (hl:vs.length≤64) (hf:fr≤100) (hok:StOk cs s) (hco:∀c∈cs,Co c.1∧Co c.2) (hk:s.k=2):ACall prog 103 [.pbox KB g 0,s.av,iv i] σ λr σ'=>∃sv,r=coA (FS.nxt ⟨cs,vs,fr⟩ i s).2 ∧
 σ'=upd (upd σ KV (some (.row sv 259 3 ((vs++(FS.nxt ⟨cs,vs,fr⟩ i s).1).map Vt.av) 0))) KB (some (.box g 145 [.own KC svC,.own KV sv,iv (if s.k=1 then fr+1 else fr:Nat)] false)):=by
 have mB:=Zax hB;have mV:=Zax hV;have mC:=Zax hC;simp only [Ent.sh,AV.shL,AV.sh] at mB mV mC;have har:arS s.k=2:=by rw [hk];rfl
 have hal:=hok.al;have h0:=hok.ai 0 zo;obtain⟨a1,a2⟩:Co (cs.getD (gI s.ar 0).toNat ([],[])).1∧Co (cs.getD (gI s.ar 0).toNat ([],[])).2:=hco _ (Zdr zo);have h1:=hok.ai 1 zo;obtain⟨b1,b2⟩:Co (cs.getD (gI s.ar 1).toNat ([],[])).1∧Co (cs.getD (gI s.ar 1).toNat ([],[])).2:=hco _ (Zdr zo)
 have en:FS.nxt ⟨cs,vs,fr⟩ i s=([],(addM (cs.getD (gI s.ar 0).toNat ([],[])).1 (sclM s.r.q (subM (cs.getD (gI s.ar 1).toNat ([],[])).1 (cs.getD (gI s.ar 0).toNat ([],[])).1)),addM (cs.getD (gI s.ar 0).toNat ([],[])).2 (sclM s.r.q (subM (cs.getD (gI s.ar 1).toNat ([],[])).2 (cs.getD (gI s.ar 0).toNat ([],[])).2)))):=by
  unfold FS.nxt;simp only [hk];rfl
 rw [en];simp only [ZBl (show ¬s.k=1 by omega)];clear en;generalize ha:cs.getD (gI s.ar 0).toNat ([],[])=a at *;generalize hb:cs.getD (gI s.ar 1).toNat ([],[])=b at *;have ro:=hok.r2 hk;have zr:=(RQ.ok_av hok.rl ro).2;have s1:=poSub b.1 a.1 b1.pk a1.pk b1.st a1.st (by have:=b1.ln;omega) (by have:=a1.ln;omega) zo zo zo;have s2:=poSub b.2 a.2 b2.pk a2.pk b2.st a2.st (by have:=b2.ln;omega) (by have:=a2.ln;omega) zo zo zo;have d1:=b1.pk.sub a1.pk;have d2:=b2.pk.sub a2.pk;have t1:=Zw4 ordM b1.st a1.st;have t2:=Zw4 ordM b2.st a2.st;have l1:=Zw5 b.1 a.1;have l2:=Zw5 b.2 a.2;have n1:=a1.ln
 have n2:=a2.ln;have n3:=b1.ln;have n4:=b2.ln;have c1:=Zrg (subM b.1 a.1) s.r.q d1 zr t1 zo zo zo zo;have c2:=Zrg (subM b.2 a.2) s.r.q d2 zr t2 zo zo zo zo;have e1:=poAdd a.1 (sclM s.r.q (subM b.1 a.1)) a1.pk (d1.scl zr) a1.st (Zxf t1) zo (by have:=Zxg s.r.q (subM b.1 a.1);omega) zo zo zo;have e2:=poAdd a.2 (sclM s.r.q (subM b.2 a.2)) a2.pk (d2.scl zr) a2.st (Zxf t2) zo (by have:=Zxg s.r.q (subM b.2 a.2);omega) zo zo zo;have re:=RQ.ok_eq hok.rl ro;obtain⟨k,nm,ar,r⟩:=s;simp only at *;subst hk;generalize hq:r.q=q at *;rw [re];have al:=λg3 g4 g7=>cbAlongS 3 4 7 (KB+1000) (KC+1000) (KV+1000) g3 g4 g7 g svC svV fr 2 nm ar q cs a b (sclM q (subM b.1 a.1),sclM q (subM b.2 a.2)) (addM a.1 (sclM q (subM b.1 a.1)),addM a.2 (sclM q (subM b.2 a.2))) zo h0 h1 ha hb s1 s2 c1 c2 e1 e2
 clear s1 s2 c1 c2 e1 e2 d1 d2 t1 t2 l1 l2 a1 a2 b1 b2 hco hok re ro zr hq n1 n2 n3 n4;generalize addM a.1 (sclM q (subM b.1 a.1))=x1 at *;generalize addM a.2 (sclM q (subM b.2 a.2))=x2 at *;refine Zbe func103 rfl ntmps103 results103 call103 zr zs ?_;(focus (refine wkad (w_4 mB mV mC @Zcd) w_t w_t ?_;(repeat' first|exact w_t|apply w_l);all_goals intros));rename_i g3 g4 g6 g7;have al:=al g3 g4 g7;(focus (refine wkax (w_5 mB mV mC @Zcd @ZA1) w_t w_t w_t w_t (w_1 al) w_y (w_r 0) ?_;(repeat' first|exact w_t|apply w_l);all_goals intros));simp (disch:=omega) only [go_sem]
 refine Zig (Sub.refl _) ⟨svV,rfl,rfl⟩ ?_;rw [Zd6 hV,Zd6 hB]
 (repeat' (first|exact Agr.start _|(refine Agr.own ?_ zo)))
abbrev frmA (cs:List (Po × Po)) (vs:List Vt):AV:=.agg [.sl 2 (cs.map coA),.sl 3 (vs.map Vt.av)]
def parsN (l:List Vt) (i:Nat):List Int:=((List.range i).filter λj=>decide ((l.getD j (0,0,0)).1=1)).map λn:Nat=>(n:Int)
def cnt1 (l:List Vt):Nat:=(l.filter λv=>decide (v.1=1)).length
def cF (ss:List RS):Nat→Nat
 | 0=>0
 | i+1=>cF ss i+if (ss.getD i RS.zero).k=1 then 1 else 0
def cP (ss:List RS):Nat→Nat
 | 0=>0
 | i+1=>cP ss i+if (ss.getD i RS.zero).k=5∨(ss.getD i RS.zero).k=6 then 1 else 0
def cD (ss:List RS):Nat→Nat
 | 0=>0
 | i+1=>cD ss i+if (ss.getD i RS.zero).k=1∨(ss.getD i RS.zero).k=2∨(ss.getD i RS.zero).k=3∨(ss.getD i RS.zero).k=4∨(ss.getD i RS.zero).k=5 then 0 else 2
theorem frN_fr (ss:List RS):∀i,(frN ss i).fr≤i
 | 0=>ZBn _
 | i+1=>by
   have:=frN_fr ss i;unfold frN;simp only [FS.push];split<;>omega
theorem Ztm (ss:List RS):∀i k,nfN ss i≤nfN ss (i+k)
 | i,0=>ZBn _
 | i,k+1=>ZBs (Ztm ss i k) (by show _≤nfN ss (i+k)+_;omega)
structure FigOk (ss:List RS):Prop where
 len:ss.length≤40
 er:∀i,i < ss.length→errS ss i=0
 lm:∀s∈ss,s.r.lm 2
 nf:nfN ss ss.length≤20
theorem FigOk.fi {ss:List RS} (h:FigOk ss) {i:Nat} (hi:i≤ss.length) (hj:∀j,j < i→bigN ss j=false):∃D,FI (frN ss i) (nfN ss i) D∧nfN ss i≤20:=by
 have hr:∀s∈ss,s.k=2→s.r.ok=true:=λs hs=>by
  obtain⟨j,hj,rfl⟩:=List.mem_iff_getElem.1 hs;exact(Zn4 hj (h.er j hj)).2.2.2
 obtain⟨D,hD⟩:=frN_ok ss hr (λs hs=>lm_bd (h.lm s hs)) i hi hj;refine⟨D,hD,ZBs ?_ h.nf⟩;have:=Ztm ss i (ss.length - i)
 rwa [show i+(ss.length - i)=ss.length by omega] at this
theorem FI.co {f:FS} {n D:Nat} (h:FI f n D) (hn:n≤20):∀c∈f.cs,Co c.1∧Co c.2:=λc hc=>by
 obtain⟨h1,h2⟩:=h.cs c hc;obtain⟨l1,l2⟩:=h.ln c hc;have hv:=h.nv;exact⟨⟨h1.pk zo h.D0 h.Dl hn,h1.1,l1⟩,⟨h2.pk zo h.D0 h.Dl hn,h2.1,l2⟩⟩
theorem FigOk.st {ss:List RS} (h:FigOk ss) {i:Nat} (hi:i < ss.length):StOk (frN ss i).cs ss[i]:=by
 obtain⟨h1,h2,h3,h4⟩:=Zn4 hi (h.er i hi);exact⟨h1,h2,λk hk=>by rw [Zsa];exact h3 k hk,h4,h.lm _ (ZBy hi)⟩
theorem Zt8 {ss:List RS} {i:Nat} (hi:i < ss.length):frN ss (i+1)=⟨(frN ss i).cs++[((frN ss i).nxt i ss[i]).2],(frN ss i).vs++((frN ss i).nxt i ss[i]).1,if ss[i].k=1 then (frN ss i).fr+1 else (frN ss i).fr⟩:=by
 show(frN ss i).push i (ss.getD i RS.zero)=_;rw [show ss.getD i RS.zero=ss[i] from by rw [ZB6,ZBx hi];rfl];rfl
theorem bigN_at {ss:List RS} {i:Nat} (hi:i < ss.length):bigN ss i=(decide (64 < ((frN ss i).vs++((frN ss i).nxt i ss[i]).1).length) || decide (4000 < ((frN ss i).nxt i ss[i]).2.1.length) || decide (4000 < ((frN ss i).nxt i ss[i]).2.2.length)):=by
 unfold bigN;rw [Zt8 hi,show ss.getD i ⟨0,.empty,[],⟨false,[],[]⟩⟩=ss[i] from by rw [ZB6,ZBx hi];rfl]
theorem nxt_vars (f:FS) (i:Nat) (s:RS):(f.nxt i s).1.length≤3:=by
 unfold FS.nxt;simp only
 repeat' split
 all_goals simp
def CbStep (i:Nat) (s:RS):Prop:=∀(σ:Mem) (KB KC KV g:Nat) (svC svV:Value) (cs:List (Po × Po)) (vs:List Vt) (fr:Nat),σ KB=some (.box g 145 [.own KC svC,.own KV svV,iv fr] false)→σ KV=some (.row svV 259 3 (vs.map Vt.av) 0)→σ KC=some (.row svC 150 2 (cs.map coA) 0)→KB≠KV→KB≠KC→KV≠KC→vs.length≤64→fr≤100→StOk cs s→(∀c∈cs,Co c.1∧Co c.2)→ACall prog 103 [.pbox KB g 0,s.av,iv i] σ λr σ'=>∃sv,r=coA (FS.nxt ⟨cs,vs,fr⟩ i s).2 ∧
 σ'=upd (upd σ KV (some (.row sv 259 3 ((vs++(FS.nxt ⟨cs,vs,fr⟩ i s).1).map Vt.av) 0))) KB (some (.box g 145 [.own KC svC,.own KV sv,iv (if s.k=1 then fr+1 else fr:Nat)] false))
theorem coFrameG (ss:List RS) (gs:List RG) (cR:Pure prog 102 [figA ss gs] (iv 0)) (ho:FigOk ss) (hcb:∀i (h:i < ss.length),CbStep i ss[i]) :
 Pure prog 57 [figA ss gs] (if (List.range ss.length).any (bigN ss)=true then .tup [.agg [.v (.slice none 0 0),.v (.slice none 0 0)],iv 4] else .tup [frmA (frN ss ss.length).cs (frN ss ss.length).vs,iv 0]):=by
 have cR:Pure prog 102 [.agg [.sl 6 (ss.map RS.av),.sl 5 (gs.map RG.av)]] (iv 0):=cR;show Pure _ _ [.agg [.sl 6 (ss.map RS.av),.sl 5 (gs.map RG.av)]] _;have hg:∀i (h:i < ss.length),(ss.map RS.av).getD i .u=ss[i].av:=λi h=>Zaw RS.av h;have hls:(ss.map RS.av).length=ss.length:=ZBt ..;have hlen:=ho.len;generalize ss.map RS.av=M at *;generalize gs.map RG.av=N at *;refine pI func57 rfl ntmps57 results57 call57 ?_;(focus (refine wkad (w_1 hls) (w_1 cR) w_t ?_;(repeat' first|exact w_t|apply w_l);all_goals intros));rename_i g1 g2 gb;refine Zff (Frz.nilBox (k:=16) 0 20 2 150 (gC) rfl zo) ?_
 refine Zff (Frz.nilBox (k:=16) 1 21 3 259 (gC) rfl zo) ?_;refine Zad (ι:=Nat) (λi e m=>i≤ss.length∧e 2=.pbox 2 g2 0∧m 2=some (.box g2 105 [.v (.slice none 0 0),.v (.slice none 0 0)] false)∧e 5=.pbox 16 gb 0∧e 18=.sl 6 M∧e 19=iv ss.length∧e 20=iv i∧(∃svC svV,m 16=some (.box gb 145 [.own 20 svC,.own 21 svV,iv (frN ss i).fr] false)∧m 20=some (.row svC 150 2 ((frN ss i).cs.map coA) 0)∧m 21=some (.row svV 259 3 ((frN ss i).vs.map Vt.av) 0))∧∀j,j < i→bigN ss j=false) (λi=>ss.length - i) 0 zr ?_ ?_
 ·rintro i e m ⟨hi,e2,m2,e5,e18,e19,e20,⟨svC,svV,m16,m20,m21⟩,hbig⟩
  by_cases hlt:i < ss.length
  ·have hgi:=hg i hlt;obtain⟨D,hD,hn⟩:=ho.fi hi hbig;have hco:=hD.co hn;have hst:=ho.st hlt;have hfr:=frN_fr ss i;have hnv:=hD.nv;have hb:=bigN_at hlt;have hsu:=Zt8 hlt;have hn3:=nxt_vars (frN ss i) i ss[i];have hcl:=Zsa ss i;have hst2:=λm' hB hV hC=>hcb i hlt m' 16 20 21 gb svC svV (frN ss i).cs (frN ss i).vs (frN ss i).fr hB hV hC zo zo zo hnv zo hst hco;rw [show(FS.mk (frN ss i).cs (frN ss i).vs (frN ss i).fr)=frN ss i from rfl] at hst2;clear hD hco hst;generalize hs:ss[i]=s at *;generalize hf:frN ss i=f at *;generalize hx:f.nxt i s=nx at *;obtain⟨nv,c1,c2⟩:=nx;obtain⟨k,nm,ar,⟨rs,rl,rd⟩⟩:=s
   obtain⟨cs,vs,fr⟩:=f;simp only at *;(focus (refine wkad (w_11 e2 m2 e5 e18 e19 e20 m16 m20 m21 hgi hls) w_t w_t ?_;(repeat' first|exact w_t|apply w_l);all_goals intros));refine Zgy (hst2 _ (gW m16) (gW m21) (gW m20)) ?_;intro sv;generalize hfr2:(if k=1 then fr+1 else fr)=fr2 at *;have hvl:((vs++nv).map Vt.av).length=(vs++nv).length:=ZBt ..;have hvl2:(vs++nv).length≤67:=by rw [ZCg];omega
   have hnx:∀j,j < i+1→bigN ss i=false→bigN ss j=false:=λj hj h=>by
    by_cases e:j=i
    ·rw [e];exact h
    ·exact hbig j zo
   have hany:bigN ss i=true→(List.range ss.length).any (bigN ss)=true:=λh=>List.any_eq_true.2 ⟨i,List.mem_range.2 hlt,h⟩;generalize vs++nv=vs2 at *;have hc1:(c1.map tmA).length=c1.length:=ZBt ..;have hc2:(c2.map tmA).length=c2.length:=ZBt ..;have hcsl:(cs.map coA).length=cs.length:=ZBt ..;by_cases b1:64 < vs2.length
   ·rw [ZBm (hany (by rw [hb];simp [b1]))];(focus (refine wkld (w_8 e2 m2 e5 e18 e19 e20 hvl hls) w_t (w_1 e2) w_t ?_;(repeat' first|exact w_t|apply w_l);all_goals intros))
   ·by_cases b2:4000 < c1.length
    ·rw [ZBm (hany (by rw [hb];simp [b2]))];(focus (refine wkld (w_9 e2 m2 e5 e18 e19 e20 hvl hc1 hls) w_t (w_1 e2) w_t ?_;(repeat' first|exact w_t|apply w_l);all_goals intros))
    ·by_cases b3:4000 < c2.length
     ·rw [ZBm (hany (by rw [hb];simp [b3]))];(focus (refine wkld (w_10 e2 m2 e5 e18 e19 e20 hvl hc1 hc2 hls) w_t (w_1 e2) w_t ?_;(repeat' first|exact w_t|apply w_l);all_goals intros))
     ·have hbf:bigN ss i=false:=by rw [hb];simp [b1,b2,b3]
      clear hany;(focus (refine wkax (w_12 e2 m2 e5 e18 e19 e20 m20 hvl hc1 hc2 hcsl hls) w_t (w_1 (w_d 11 [] [12,2012,16] [20,60])) w_t w_t w_t w_y (w_r 0) ?_;(repeat' first|exact w_t|apply w_l);all_goals intros));rename_i svC2;refine⟨i+1,⟨zo,gW e2,gW m2,gW e5,gW e18,gW e19,gS,⟨svC2,sv,?_,?_,?_⟩,λj hj=>hnx j hj hbf⟩,zo⟩
      ·rw [hsu];exact gW hfr2
      ·rw [hsu,ZCe];exact gC
      ·rw [hsu];exact gC
  ·have hin:i=ss.length:=zo;subst hin
   have hno:¬(List.range ss.length).any (bigN ss)=true:=by
    rw [List.any_eq_true]
    rintro ⟨j,hj,hb⟩
    rw [hbig j (List.mem_range.1 hj)] at hb;cases hb
   rw [ZBl hno];generalize (frN ss ss.length).fr=fr at *;generalize (frN ss ss.length).cs=cs at *;generalize (frN ss ss.length).vs=vs at *;(focus (refine wkld (w_10 e2 m2 e5 e18 e19 e20 m16 m20 m21 hls) w_t (w_5 e2 m2 m16 m20 m21) w_t ?_;(repeat' first|exact w_t|apply w_l);all_goals intros))
 ·exact⟨ZBw _,gC,gC,gC,gC,gW hls,gC,⟨_,_,by(simp (disch:=omega) only [go_sem,List.set_cons_zero,List.set_cons_succ,frN]<;>repeat' first|rfl|refine⟨?_,?_⟩),by(simp (disch:=omega) only [go_sem,frN,ZDl]<;>repeat' first|rfl|refine⟨?_,?_⟩),by(simp (disch:=omega) only [go_sem,frN,ZDl]<;>repeat' first|rfl|refine⟨?_,?_⟩)⟩,λj hj=>zo⟩
end Go.Proofs.YtkefeinbjbeidaaGreatDoor
namespace Go.Proofs.YtkefeinbjbeidaaGreatDoor
attribute [-bool_to_prop] Bool.and_eq_decide Bool.or_eq_decide Bool.decide_beq_decide decide_eq_decide
section
open Go Go.RowKit Go.Pg
end
section
open Go Go.RowKit Go.Pg Go.Pol
end
end Go.Proofs.YtkefeinbjbeidaaGreatDoor
namespace Go.Pol
section
def cl (q:Rat):Nat:=(q.num.natAbs+q.den - 1)/q.den
theorem cl_le {q:Rat} {B:Nat}:cl q≤B↔q.num.natAbs≤B*q.den:=by
 have h:0 < q.den:=ZDg q.den_nz;unfold cl;rw [←Nat.lt_succ_iff,ZEo h,ZDh];omega
theorem cl_self (q:Rat):q.num.natAbs≤cl q*q.den:=cl_le.1 (ZBn _)
theorem Zn9 {q:Rat} {D:Nat} (h:q.den ∣ D):BQ D (cl q) q:=⟨h,cl_self q⟩
theorem cl_add (a b:Rat):cl (a+b)≤cl a+cl b:=cl_le.2 ((Zn9 (ZFm a.den b.den)).add (Zn9 (ZG8 b.den a.den))).2
theorem cl_mul (a b:Rat):cl (a*b)≤cl a*cl b:=cl_le.2 ((Zn9 (ZDs a.den)).mul (Zn9 (ZDs b.den))).2
theorem ZAi {a b:Rat} {D:Nat} (h:a.den ∣ D) (k:b.den ∣ D):(a+b).den ∣ D:=((Zn9 h).add (Zn9 k)).1
theorem ZAh {a b:Rat} {D E:Nat} (h:a.den ∣ D) (k:b.den ∣ E):(a*b).den ∣ D*E:=((Zn9 h).mul (Zn9 k)).1
variable {κ:Type}
def n1 (l:List (Rat × κ)):Nat:=(l.map λt=>cl t.1).sum
theorem Zbf (t:Rat × κ) (l:List (Rat × κ)):n1 (t :: l)=cl t.1+n1 l:=rfl
theorem Zyv (l m:List (Rat × κ)):n1 (l++m)=n1 l+n1 m:=by unfold n1;rw [ZCe,List.sum_append]
theorem n1_mem {l:List (Rat × κ)} {t:Rat × κ} (h:t∈l):cl t.1≤n1 l:=by
 induction l with
 | nil=>cases h
 | cons s l ih =>
   rw [Zbf];rcases List.mem_cons.1 h with rfl | h
   ·omega
   ·have:=ih h;omega
theorem Zyu (f:Rat × κ→Bool) (l:List (Rat × κ)):n1 (l.filter f)≤n1 l:=by
 induction l with
 | nil=>exact ZBn _
 | cons t l ih =>
   rw [ZE0];split
   ·rw [Zbf,Zbf];omega
   ·rw [Zbf];omega
theorem n1_take (l:List (Rat × κ)) (i:Nat):n1 (l.take i)≤n1 l:=by
 have:=Zyv (l.take i) (l.drop i);rw [ZDo] at this;omega
def NB (D B:Nat) (l:List (Rat × κ)):Prop:=(∀t∈l,t.1.den ∣ D)∧n1 l≤B
theorem NB.nil (D B:Nat):NB D B ([]:List (Rat × κ)):=⟨λt h=>(by cases h),ZBw _⟩
theorem NB.mono {D B E C:Nat} {l:List (Rat × κ)} (h:NB D B l) (hd:D ∣ E) (hb:B≤C):NB E C l:=⟨λt ht=>Nat.dvd_trans (h.1 t ht) hd,ZBs h.2 hb⟩
theorem NB.bq {D B:Nat} {l:List (Rat × κ)} (h:NB D B l) {t:Rat × κ} (ht:t∈l):BQ D B t.1:=(Zn9 (h.1 t ht)).mono (ZDs _) (ZBs (n1_mem ht) h.2)
theorem NB.filter {D B:Nat} {l:List (Rat × κ)} (h:NB D B l) (f:Rat × κ→Bool):NB D B (l.filter f):=⟨λt ht=>h.1 t (List.mem_filter.1 ht).1,ZBs (Zyu f l) h.2⟩
theorem NB.take {D B:Nat} {l:List (Rat × κ)} (h:NB D B l) (i:Nat):NB D B (l.take i):=⟨λt ht=>h.1 t (ZC3 ht),ZBs (n1_take l i) h.2⟩
theorem NB.app {D B C:Nat} {l m:List (Rat × κ)} (h:NB D B l) (k:NB D C m):NB D (B+C) (l++m) :=
 ⟨λt ht=>(List.mem_append.1 ht).elim (h.1 t) (k.1 t),by rw [Zyv];exact ZCx h.2 k.2⟩
theorem NB.scale {D B E:Nat} {l:List (Rat × κ)} (h:NB D B l) {a:Rat} (ha:a.den ∣ E):NB (D*E) (B*cl a) (Zdc a l):=by
 refine⟨λt ht=>?_,ZBs ?_ (ZB4 _ h.2)⟩
 ·obtain⟨s,hs,rfl⟩:=List.mem_map.1 ht;exact ZAh (h.1 s hs) ha
 ·clear h
  induction l with
  | nil=>exact ZBw _
  | cons t l ih =>
    show cl (t.1*a)+n1 (Zdc a l)≤(cl t.1+n1 l)*cl a;rw [ZCc];exact ZCx (cl_mul _ _) ih
end
section
variable {κ:Type} [DecidableEq κ]
theorem n1_addC (l:List (Rat × κ)) (t:Rat × κ):n1 (addC l t)≤n1 l+cl t.1:=by
 induction l with
 | nil=>show cl t.1+0≤0+cl t.1;omega
 | cons s l ih =>
   unfold addC;split
   ·rw [Zbf,Zbf];have:=cl_add s.1 t.1;simp only;omega
   ·rw [Zbf,Zbf];omega
theorem den_addC {D:Nat} {l:List (Rat × κ)} {t:Rat × κ} (h:∀s∈l,s.1.den ∣ D) (ht:t.1.den ∣ D):∀s∈addC l t,s.1.den ∣ D:=by
 induction l with
 | nil=>intro s hs;rw [List.mem_singleton.1 hs];exact ht
 | cons u l ih =>
   intro s hs;unfold addC at hs;split at hs
   ·rcases List.mem_cons.1 hs with rfl | hs
    ·exact ZAi (h u (.head _)) ht
    ·exact h s (.tail _ hs)
   ·rcases List.mem_cons.1 hs with rfl | hs
    ·exact h _ (.head _)
    ·exact ih (λv hv=>h v (.tail _ hv)) s hs
theorem NB.addC {D B C:Nat} {l:List (Rat × κ)} (h:NB D B l) {t:Rat × κ} (ht:t.1.den ∣ D) (hc:cl t.1≤C):NB D (B+C) (addC l t) :=
 ⟨den_addC h.1 ht,ZBs (n1_addC l t) (ZCx h.2 hc)⟩
end
section
variable {κ:Type} {lt:κ→κ→Prop} [DecidableRel lt]
theorem NB.addP {D B C:Nat} {p q:List (Rat × κ)} (hp:NB D B p) (hq:NB D C q):NB D (B+C) (addP lt p q):=by
 suffices h:(∀t∈Go.Pol.addP lt p q,t.1.den ∣ D)∧n1 (Go.Pol.addP lt p q)≤n1 p+n1 q from⟨h.1,ZBs h.2 (ZCx hp.2 hq.2)⟩
 replace hp:=hp.1
 replace hq:=hq.1
 fun_induction Go.Pol.addP lt p q with
 | case1 q=>exact⟨hq,by show n1 q≤0+n1 q;omega⟩
 | case2 s p=>exact⟨hp,ZGn _ _⟩
 | case3 s p u q h1 ih =>
   obtain⟨a,b⟩:=ih (λt h=>hp t (.tail _ h)) hq;exact⟨λt ht=>by
    rcases List.mem_cons.1 ht with rfl | ht
    ·exact hp _ (.head _)
    ·exact a t ht,by rw [Zbf,Zbf];omega⟩
 | case4 s p u q h1 h2 ih =>
   obtain⟨a,b⟩:=ih hp (λt h=>hq t (.tail _ h));exact⟨λt ht=>by
    rcases List.mem_cons.1 ht with rfl | ht
    ·exact hq _ (.head _)
    ·exact a t ht,by rw [Zbf,Zbf u];omega⟩
 | case5 s p u q h1 h2 h3 ih =>
   obtain⟨a,b⟩:=ih (λt h=>hp t (.tail _ h)) (λt h=>hq t (.tail _ h));exact⟨a,by rw [Zbf,Zbf];omega⟩
 | case6 s p u q h1 h2 h3 ih =>
   obtain⟨a,b⟩:=ih (λt h=>hp t (.tail _ h)) (λt h=>hq t (.tail _ h));exact⟨λt ht=>by
    rcases List.mem_cons.1 ht with rfl | ht
    ·exact ZAi (hp _ (.head _)) (hq _ (.head _))
    ·exact a t ht,by rw [Zbf,Zbf,Zbf];have:=cl_add s.1 u.1;simp only;omega⟩
theorem sumH_nb {D:Nat} (l:List (List (Rat × κ))) (h:∀p∈l,∀t∈p,t.1.den ∣ D):NB D ((l.map n1).sum) (sumH lt l):=by
 fun_induction sumH lt l with
 | case1=>exact .nil _ _
 | case2 p=>exact⟨h p (.head _),by simp⟩
 | case3 p q l ih1 ih2 =>
   have:=(ih1 λu hu=>h u (ZC3 hu)).addP (lt:=lt) (ih2 λu hu=>h u (ZD3 hu))
   rwa [←List.sum_append,←ZCe,ZDo] at this
end
section
variable {κ:Type} {cmp:κ→κ→Int}
theorem NB.sumG {D B:Nat} {l:List (Rat × κ)} (h:NB D B l):NB D B (sumG cmp l):=by
 have:=sumH_nb (lt:=λx y=>cmp y x < 0) (D:=D) (l.map λt=>if t.1=0 then [] else [t]) λp hp t ht=>by
  obtain⟨s,hs,rfl⟩:=List.mem_map.1 hp;split at ht
  ·cases ht
  ·rw [List.mem_singleton.1 ht];exact h.1 s hs
 refine this.mono (ZDs _) (ZBs ?_ h.2);clear this h
 induction l with
 | nil=>exact ZBn _
 | cons t l ih =>
   rw [ZCm,ZCm,List.sum_cons,Zbf];refine ZCx ?_ ih;split
   ·exact ZBw _
   ·show cl t.1+0≤_;omega
def prodL (mu:κ→κ→κ) (l m:List (Rat × κ)):List (Rat × κ):=l.flatMap λs=>m.map λt=>(s.1*t.1,mu s.2 t.2)
theorem Zfr (mu:κ→κ→κ) (s:Rat × κ) (l m:List (Rat × κ)):prodL mu (s :: l) m=(m.map λt=>(s.1*t.1,mu s.2 t.2))++prodL mu l m:=rfl
theorem Zlb (mu:κ→κ→κ) (l m:List (Rat × κ)):(prodL mu l m).length=l.length*m.length:=by
 induction l with
 | nil=>simp [prodL]
 | cons s l ih=>rw [Zfr,ZCg,ZBt,ih,ZB5,ZDh,ZEh]
theorem Zfq {mu:κ→κ→κ} {l m:List (Rat × κ)} {u:Rat × κ} (h:u∈prodL mu l m):∃s∈l,∃t∈m,u=(s.1*t.1,mu s.2 t.2):=by
 obtain⟨s,hs,hu⟩:=List.mem_flatMap.1 h;obtain⟨t,ht,rfl⟩:=List.mem_map.1 hu;exact⟨s,hs,t,ht,rfl⟩
theorem NB.prodL {mu:κ→κ→κ} {D B E C:Nat} {l m:List (Rat × κ)} (h:NB D B l) (k:NB E C m):NB (D*E) (B*C) (prodL mu l m):=by
 refine⟨λu hu=>?_,ZBs ?_ (ZCw h.2 k.2)⟩
 ·obtain⟨s,hs,t,ht,rfl⟩:=Zfq hu;exact ZAh (h.1 s hs) (k.1 t ht)
 ·clear h k
  induction l with
  | nil=>exact ZBw _
  | cons s l ih =>
    rw [Zfr,Zyv,Zbf,ZCc];refine ZCx ?_ ih;clear ih
    induction m with
    | nil=>exact ZBw _
    | cons t m ih =>
      rw [ZCm,Zbf,Zbf,ZCn];exact ZCx (cl_mul _ _) ih
end
section
variable {κ:Type}
theorem evl_lin (a:Rat) (f g:κ→Rat) (l:List (Rat × κ)):evl (λk=>a*f k+g k) l=a*evl f l+evl g l:=by
 induction l with
 | nil=>show(0:Rat)=a*0+0;rw [ZFn,ZDj]
 | cons t l ih=>simp only [evl];rw [ih];grind
theorem evl_zero (l:List (Rat × κ)):evl (λ_=>0) l=0:=by
 induction l with
 | nil=>rfl
 | cons t l ih=>simp only [evl];rw [ih,ZFn,ZDj]
theorem evl_swap (ψ:κ→κ→Rat) (l m:List (Rat × κ)):evl (λk=>evl (ψ k) m) l=evl (λk'=>evl (λk=>ψ k k') l) m:=by
 induction l with
 | nil=>show(0:Rat)=evl (λ_=>0) m;rw [evl_zero]
 | cons s l ih =>
   show s.1*evl (ψ s.2) m+evl (λk=>evl (ψ k) m) l=evl (λk'=>s.1*ψ s.2 k'+evl (λk=>ψ k k') l) m;rw [ih,evl_lin]
theorem evl_row (φ:κ→Rat) (mu:κ→κ→κ) (s:Rat × κ) (m:List (Rat × κ)):evl φ (m.map λt=>(s.1*t.1,mu s.2 t.2))=s.1*evl (λk=>φ (mu s.2 k)) m:=by
 induction m with
 | nil=>show(0:Rat)=s.1*0;rw [ZFn]
 | cons t m ih=>simp only [ZCm,evl];rw [ih];grind
theorem Zz2 (φ:κ→Rat) (mu:κ→κ→κ) (l m:List (Rat × κ)):evl φ (prodL mu l m)=evl (λk=>evl (λk'=>φ (mu k k')) m) l:=by
 induction l with
 | nil=>rfl
 | cons s l ih=>rw [Zfr,Zsd,ih,evl_row];rfl
theorem Zz3 [DecidableEq κ] (l:List (Rat × κ)) (x:κ):cof l x=evl (λk=>if k=x then 1 else 0) l:=by
 induction l with
 | nil=>rfl
 | cons t l ih =>
   simp only [cof,evl];rw [ih];split<;>grind
end
section
variable {κ:Type} {lt:κ→κ→Prop} [DecidableRel lt] {D:κ→Prop}
theorem evl_sumH (o:KO D lt) (φ:κ→Rat) (l:List (List (Rat × κ))) (h:∀p∈l,Srt D lt p):evl φ (sumH lt l)=(l.map (evl φ)).sum:=by
 fun_induction sumH lt l with
 | case1=>rfl
 | case2 p=>show evl φ p=evl φ p+0;rw [ZDj]
 | case3 p q l ih1 ih2 =>
   have h1:∀u∈(p :: q :: l).take ((p :: q :: l).length/2),Srt D lt u:=λu hu=>h u (ZC3 hu);have h2:∀u∈(p :: q :: l).drop ((p :: q :: l).length/2),Srt D lt u:=λu hu=>h u (ZD3 hu);have happ:∀l m:List Rat,(l++m).sum=l.sum+m.sum:=λl m=>by
    induction l with
    | nil=>show m.sum=0+m.sum;rw [ZFw]
    | cons a l ih=>show a+(l++m).sum=a+l.sum+m.sum;rw [ih,Rat.add_assoc]
   rw [Zue o φ (Zhd o _ h1).dom (Zhd o _ h2).dom,ih1 h1,ih2 h2,←happ,←ZCe,ZDo]
end
structure RG {κ:Type} (D:κ→Prop) (cmp:κ→κ→Int) (mu:κ→κ→κ) (e:κ):Prop where
 o:CO cmp
 comm:∀a b,mu a b=mu b a
 assoc:∀a b c,mu (mu a b) c=mu a (mu b c)
 one:∀a,D a→mu a e=a
 cl:∀a b,D a→D b→D (mu a b)
 de:D e
section
variable {κ:Type} {D:κ→Prop} {cmp:κ→κ→Int} {mu:κ→κ→κ} {e:κ}
theorem CO.koD (o:CO cmp):KO D (λx y=>cmp y x < 0):=⟨o.ko.irr,o.ko.tr,λx y _ _=>o.ko.tri x y trivial trivial⟩
abbrev SQ (D:κ→Prop) (cmp:κ→κ→Int) (p:List (Rat × κ)):Prop:=Srt D (λx y=>cmp y x < 0) p
abbrev adG (cmp:κ→κ→Int) (p q:List (Rat × κ)):List (Rat × κ):=addP (λx y=>cmp y x < 0) p q
def mlG (cmp:κ→κ→Int) (mu:κ→κ→κ) (p q:List (Rat × κ)):List (Rat × κ):=sumG cmp (prodL mu p q)
theorem Zkv {l:List (Rat × κ)} (h:∀t∈l,D t.2):∀p∈l.map (λt=>if t.1=0 then [] else [t]),SQ D cmp p:=λp hp=>by
 obtain⟨t,ht,rfl⟩:=List.mem_map.1 hp;split
 ·exact .nil
 ·rename_i h0;exact Srt.nil.cons h0 (h t ht) (λu hu=>by cases hu)
theorem Zgr (o:CO cmp) {l:List (Rat × κ)} (h:∀t∈l,D t.2):SQ D cmp (sumG cmp l):=Zhd o.koD _ (Zkv h)
theorem Zuc (o:CO cmp) (φ:κ→Rat) (l:List (Rat × κ)):evl φ (sumG cmp l)=evl φ l:=by
 unfold sumG;rw [evl_sumH (D:=λ_=>True) o.koD φ _ (Zkv λ_ _=>trivial)]
 induction l with
 | nil=>rfl
 | cons t l ih =>
   rw [ZCm,ZCm,List.sum_cons,ih];show _=t.1*φ t.2+evl φ l;congr 1;split
   ·rename_i h;rw [h,Rat.zero_mul];rfl
   ·show t.1*φ t.2+0=_;rw [ZDj]
theorem Zic (o:CO cmp) {p q:List (Rat × κ)} (hp:SQ D cmp p) (hq:SQ D cmp q) (h:∀φ,evl φ p=evl φ q):p=q:=by
 classical exact Zja o.koD hp hq λx=>by rw [Zz3,Zz3,h]
theorem Zlo (o:CO cmp) (φ:κ→Rat) (p q:List (Rat × κ)):evl φ (adG cmp p q)=evl φ p+evl φ q:=Zue (D:=λ_=>True) o.koD φ (λ_ _=>trivial) (λ_ _=>trivial)
theorem Zgh (o:CO cmp) {p q:List (Rat × κ)} (hp:SQ D cmp p) (hq:SQ D cmp q):SQ D cmp (adG cmp p q):=Zc0 o.koD hp hq
theorem adG_comm (o:CO cmp) {p q:List (Rat × κ)} (hp:SQ D cmp p) (hq:SQ D cmp q):adG cmp p q=adG cmp q p:=by classical exact ZA9 o.koD hp hq
theorem ZBd (o:CO cmp) {p q r:List (Rat × κ)} (hp:SQ D cmp p) (hq:SQ D cmp q) (hr:SQ D cmp r):adG cmp (adG cmp p q) r=adG cmp p (adG cmp q r):=by classical exact Zwb o.koD hp hq hr
theorem adG_nil (p:List (Rat × κ)):adG cmp p []=p:=Zod p
theorem adG_nil' (p:List (Rat × κ)):adG cmp [] p=p:=by cases p<;>simp [adG,addP]
theorem Zex (o:CO cmp) (φ:κ→Rat) (p q:List (Rat × κ)):evl φ (mlG cmp mu p q)=evl (λk=>evl (λk'=>φ (mu k k')) q) p:=by
 unfold mlG;rw [Zuc o,Zz2]
theorem Zbg (r:RG D cmp mu e) {p q:List (Rat × κ)} (hp:SQ D cmp p) (hq:SQ D cmp q):SQ D cmp (mlG cmp mu p q):=Zgr r.o λu hu=>by
 obtain⟨s,hs,t,ht,rfl⟩:=Zfq hu;exact r.cl _ _ (hp.dom s hs) (hq.dom t ht)
theorem Ztr (r:RG D cmp mu e) {p q:List (Rat × κ)} (hp:SQ D cmp p) (hq:SQ D cmp q):mlG cmp mu p q=mlG cmp mu q p :=
 Zic r.o (Zbg r hp hq) (Zbg r hq hp) λφ=>by
  rw [Zex r.o,Zex r.o,evl_swap];simp only [r.comm]
theorem Zir (r:RG D cmp mu e) {p q s:List (Rat × κ)} (hp:SQ D cmp p) (hq:SQ D cmp q) (hs:SQ D cmp s):mlG cmp mu (mlG cmp mu p q) s=mlG cmp mu p (mlG cmp mu q s) :=
 Zic r.o (Zbg r (Zbg r hp hq) hs) (Zbg r hp (Zbg r hq hs)) λφ=>by
  simp only [Zex r.o,r.assoc]
theorem mlG_add (r:RG D cmp mu e) {p q s:List (Rat × κ)} (hp:SQ D cmp p) (hq:SQ D cmp q) (hs:SQ D cmp s):mlG cmp mu (adG cmp p q) s=adG cmp (mlG cmp mu p s) (mlG cmp mu q s) :=
 Zic r.o (Zbg r (Zgh r.o hp hq) hs) (Zgh r.o (Zbg r hp hs) (Zbg r hq hs)) λφ=>by
  rw [Zex r.o,Zlo r.o,Zlo r.o,Zex r.o,Zex r.o]
theorem Zy0 (p:List (Rat × κ)):mlG cmp mu [] p=[]:=by
 show sumG cmp []=[];unfold sumG;simp [sumH]
theorem Zyn (r:RG D cmp mu e):SQ D cmp [((1:Rat),e)]:=Srt.nil.cons (show(1:Rat)≠0 by decide) r.de (λu hu=>by cases hu)
theorem Zyz (r:RG D cmp mu e) {p:List (Rat × κ)} (hp:SQ D cmp p):mlG cmp mu p [((1:Rat),e)]=p :=
 Zic r.o (Zbg r hp (Zyn r)) hp λφ=>by
  rw [Zex r.o];have hd:=hp.dom;clear hp
  induction p with
  | nil=>rfl
  | cons t p ih =>
    show t.1*(1*φ (mu t.2 e)+0)+_=t.1*φ t.2+_;rw [ih λu hu=>hd u (.tail _ hu),r.one _ (hd t (.head _)),ZE2,ZDj]
def pwG (cmp:κ→κ→Int) (mu:κ→κ→κ) (e:κ) (a:List (Rat × κ)):Nat→List (Rat × κ)
 | 0=>[((1:Rat),e)]
 | n+1=>mlG cmp mu (pwG cmp mu e a n) a
theorem Zh4 (r:RG D cmp mu e) {a:List (Rat × κ)} (ha:SQ D cmp a):∀n,SQ D cmp (pwG cmp mu e a n)
 | 0=>Zyn r
 | n+1=>Zbg r (Zh4 r ha n) ha
def rfG (cmp:κ→κ→Int) (mu:κ→κ→κ) (e:κ) (P:Nat→List (Rat × κ)) (a d:List (Rat × κ)) (m:Nat):Nat→List (Rat × κ)
 | 0=>[]
 | k+1=>adG cmp (rfG cmp mu e P a d m k) (mlG cmp mu (mlG cmp mu (P k) (pwG cmp mu e a k)) (pwG cmp mu e d (m - k)))
def hnG (cmp:κ→κ→Int) (mu:κ→κ→κ) (e:κ) (P:Nat→List (Rat × κ)) (a d:List (Rat × κ)) (m:Nat):Nat→List (Rat × κ)
 | 0=>[]
 | n+1=>adG cmp (mlG cmp mu (hnG cmp mu e P a d m n) a) (mlG cmp mu (P (m - n)) (pwG cmp mu e d n))
theorem Zxo (r:RG D cmp mu e) {P:Nat→List (Rat × κ)} {a d:List (Rat × κ)} (hP:∀k,SQ D cmp (P k)) (ha:SQ D cmp a) (hd:SQ D cmp d) (m:Nat):∀k,SQ D cmp (rfG cmp mu e P a d m k)
 | 0=>.nil
 | k+1=>Zgh r.o (Zxo r hP ha hd m k) (Zbg r (Zbg r (hP k) (Zh4 r ha k)) (Zh4 r hd _))
theorem Zr6 (r:RG D cmp mu e) {P:Nat→List (Rat × κ)} {a d:List (Rat × κ)} (hP:∀k,SQ D cmp (P k)) (ha:SQ D cmp a) (hd:SQ D cmp d) (m:Nat):∀n,SQ D cmp (hnG cmp mu e P a d m n)
 | 0=>.nil
 | n+1=>Zgh r.o (Zbg r (Zr6 r hP ha hd m n) ha) (Zbg r (hP _) (Zh4 r hd _))
theorem horner (r:RG D cmp mu e) {P:Nat→List (Rat × κ)} {a d:List (Rat × κ)} (hP:∀k,SQ D cmp (P k)) (ha:SQ D cmp a) (hd:SQ D cmp d) (m:Nat):hnG cmp mu e P a d m (m+1)=rfG cmp mu e P a d m (m+1):=by
 have key:∀n,n≤m+1→adG cmp (rfG cmp mu e P a d m (m+1 - n)) (mlG cmp mu (hnG cmp mu e P a d m n) (pwG cmp mu e a (m+1 - n)))=rfG cmp mu e P a d m (m+1):=by
  intro n
  induction n with
  | zero=>intro _;show adG cmp _ (mlG cmp mu [] _)=_;rw [Zy0,adG_nil];rfl
  | succ n ih =>
    intro hn;rw [←ih zo];obtain⟨k,hk⟩:∃k,m=n+k:=⟨m - n,zo⟩;have e1:m+1 - (n+1)=k:=zo;have e2:m+1 - n=k+1:=zo;have e3:m - k=n:=zo;have e4:m - n=k:=zo;rw [e1,e2];show adG cmp _ (mlG cmp mu (adG cmp (mlG cmp mu _ a) (mlG cmp mu (P (m - n)) _)) _)=adG cmp (adG cmp _ (mlG cmp mu (mlG cmp mu (P k) _) (pwG cmp mu e d (m - k)))) (mlG cmp mu _ (mlG cmp mu (pwG cmp mu e a k) a));rw [e3,e4];have s1:=Zxo r hP ha hd m k;have s2:=Zr6 r hP ha hd m n;have s3:=Zh4 r ha k;have s4:=Zh4 r hd n;have s5:=hP k;generalize rfG cmp mu e P a d m k=R at *;generalize hnG cmp mu e P a d m n=H at *;generalize pwG cmp mu e a k=A at *
    generalize pwG cmp mu e d n=N at *;generalize P k=Q at *;rw [mlG_add r (Zbg r s2 ha) (Zbg r s5 s4) s3,Zir r s2 ha s3,Ztr r ha s3,Zir r s5 s4 s3,Ztr r s4 s3,←Zir r s5 s3 s4,
     ZBd r.o s1 (Zbg r (Zbg r s5 s3) s4) (Zbg r s2 (Zbg r s3 ha)),adG_comm r.o (Zbg r s2 (Zbg r s3 ha)) (Zbg r (Zbg r s5 s3) s4)]
 have h:=key (m+1) (ZBn _);rw [ZEv] at h;rw [←h];show _=adG cmp [] (mlG cmp mu _ [((1:Rat),e)]);rw [Zyz r (Zr6 r hP ha hd m _),adG_nil']
end
end Go.Pol
namespace Go.Proofs.YtkefeinbjbeidaaGreatDoor
open Go Go.RowKit Go.Pg Go.Pol Go.Proofs.Tryz
attribute [-bool_to_prop] Bool.and_eq_decide Bool.or_eq_decide Bool.decide_beq_decide decide_eq_decide
attribute [local go_sem] Zaq Zau Zat Zag Zao Zah Bool.and_self Zal Zbb Za7
abbrev gatM (l:QTs):QTs:=sumG ordQ l
theorem gat_nil:gatM []=[]:=by simp [gatM,sumG,sumH]
theorem Znx (t:Rat × List Qt):gatM [t]=if t.1=0 then [] else [t]:=by simp [gatM,sumG,sumH]
theorem gat_two {l:QTs} (h:2≤l.length):gatM l=Za9 (gatM (l.take (l.length/2))) (gatM (l.drop (l.length/2))):=by
 match l,h with
 | a :: b :: r,_ =>
   unfold gatM sumG;rw [List.map_take,List.map_drop];show sumH _ (_ :: _ :: r.map _)=_;rw [sumH];simp only [ZB5,ZBt];rfl
theorem Zzq:∀(n:Nat) (l:QTs) {j m:Nat},l.length=n→QK l j m→QK (gatM l) (n*(j+1) - 1) m∧(gatM l).length≤n:=by
 intro n
 induction n using Nat.strongRecOn with
 | _ n ih =>
   intro l j m hl hq
   match n,l,hl with
   | 0,[],_=>rw [gat_nil];exact⟨λt ht=>by(cases ht),ZBn _⟩
   | 1,[t],_ =>
     rw [Znx];split
     ·exact⟨λt ht=>by(cases ht),ZBw _⟩
     ·exact⟨hq.mono zo (ZBn _),by simp⟩
   | n+2,l,hl =>
     rw [gat_two zo];have ht:(l.take (l.length/2)).length=(n+2)/2:=by rw [ZB9];omega
     have hd:(l.drop (l.length/2)).length=n+2 - (n+2)/2:=by rw [ZDt];omega
     obtain⟨a1,a2⟩:=ih _ zo (l.take (l.length/2)) ht (λt h=>hq t (ZC3 h));obtain⟨b1,b2⟩:=ih _ zo (l.drop (l.length/2)) hd (λt h=>hq t (ZD3 h));have e:(n+2)*(j+1)=(n+2)/2*(j+1)+(n+2 - (n+2)/2)*(j+1):=by rw [←ZCc];congr 1;omega
     have p1:1*(j+1)≤(n+2)/2*(j+1):=ZB4 _ zo;have p2:1*(j+1)≤(n+2 - (n+2)/2)*(j+1):=ZB4 _ zo;refine⟨(join_QK a1 b1).mono zo (ZBn _),?_⟩;refine ZBs (Zen _ _) ?_;omega
def GH (l:QTs) (k m:Nat):Prop:=∀s:QTs,s <:+: l→QK s k m∧QK (gatM s) k m
theorem GH.part {l s:QTs} {k m:Nat} (h:GH l k m) (hs:s <:+: l):GH s k m:=λu hu=>h u (hu.trans hs)
theorem nb_qk {D B a b:Nat} {l:QTs} (h:NB D B l) (h0:D≠0) (hd:D < 65536 ^ a) (hb:B < 65536 ^ b) {m:Nat} (hm:∀t∈l,t.2.length≤m):QK l (a+b) m :=
 λt ht=>⟨bq_sz (h.bq ht) h0 hd hb,hm t ht⟩
theorem Zki {l:QTs} {m:Nat} (hm:∀t∈l,t.2.length≤m):∀t∈gatM l,t.2.length≤m:=by
 have:∃j,QK l j m:=by
  induction l with
  | nil=>exact⟨0,λt ht=>by cases ht⟩
  | cons a l ih =>
    obtain⟨j,hj⟩:=ih λt ht=>hm t (.tail _ ht);refine⟨max j (max (toL a.1.num.natAbs).length (toL a.1.den).length),λt ht=>?_⟩;rcases List.mem_cons.1 ht with rfl | ht
    ·exact⟨⟨zo,zo⟩,hm _ (.head _)⟩
    ·exact⟨(hj t ht).1.mono zo,(hj t ht).2⟩
 obtain⟨j,hj⟩:=this;exact λt ht=>((Zzq _ l rfl hj).1 t ht).2
end Go.Proofs.YtkefeinbjbeidaaGreatDoor
