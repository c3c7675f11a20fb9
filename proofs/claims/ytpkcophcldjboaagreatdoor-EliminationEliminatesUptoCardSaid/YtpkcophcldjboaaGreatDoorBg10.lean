/- Contracts of the functions that the law reaches, and the rules by which they are walked. They say what a call hands back for every input within the bounds that each names; no other condition. -/
import Derived.Test.YtpkcophcldjboaaGreatDoorBg9
set_option linter.unusedSimpArgs false
set_option linter.unusedVariables false
set_option maxRecDepth 20000
set_option maxHeartbeats 16000000
namespace Go.Proofs.YtpkcophcldjboaaGreatDoor
open Go Go.RowKit Go.Pg Go.Pol Go.Proofs.Tryz
attribute [-bool_to_prop] Bool.and_eq_decide Bool.or_eq_decide Bool.decide_beq_decide decide_eq_decide
attribute [local go_sem] Zaw Zay Zax Zah Zap Zai Bool.and_self Zal Za8 Zba Zb4 Zb6
theorem Zx3 (a num den:QTs) (q:Qt) {ka kb na nb L LA M:Nat} (ha:XB a ka na) (hu:XB num kb nb) (hd:XB den kb nb) (la:a.length≤LA) (hLA:1≤LA∧LA≤100000) (hMM:M≤1000) (hmo:moQ q.norm.1 a≤M) (lu:num.length≤L) (ld:den.length≤L) (h1:1≤L)
 (hq:na+(M+1)*nb≤maxQ) (hL:(M+1)*LA*L ^ (M+1)≤100000000) (hk:ka+(M+1)*(2*kb)+10≤100000) :
 Pure prog 25 [qpA a,q.av,.agg [qpA num,qpA den]] (if q.norm.2=0 then .agg [qpA a,qpA [((1:Rat),[])]] else .agg [qpA (rpN q.norm.1 a (sclT (q.norm.2:Rat) num) den),qpA (rpD q.norm.1 a den)]):=by
 have cn0:=Ztm q.k q.a q.b q.c;have cn:Pure prog 62 [q.av] (.tup [q.norm.1.av,iv q.norm.2]):=cn0;clear cn0;have hs:=Zgi q;have c1:=rxOf1;have cc:=Ztl
 have o1:qpA [((1:Rat),[])]=.sl 4 [.agg [.v (.bool false),lim [1],lim [1],.sl 4 []]]:=by
  show AV.sl 4 [qtA ((1:Rat),[])]=_;rw [Ze2];rfl
 obtain⟨q1,q2,q3,q4⟩:=q;generalize hN:Qt.norm ⟨q1,q2,q3,q4⟩=nn at *;obtain⟨n,s⟩:=nn;simp only at hs cn ⊢;by_cases hs0:s=0
 ·subst hs0;rw [ZCh rfl,o1];show Pure _ _ [.sl 4 (a.map qtA),.agg [iv q1,iv q2,iv q3,iv q4],.agg [.sl 4 (num.map qtA),.sl 4 (den.map qtA)]] (.agg [.sl 4 (a.map qtA),.sl 4 [.agg [.v (.bool false),lim [1],lim [1],.sl 4 []]]]);have hal:(a.map qtA).length≤LA:=by rw [ZCj];exact la
  obtain⟨n1,n2,n3,n4⟩:=n;generalize a.map qtA=A at *;generalize num.map qtA=U at *;generalize den.map qtA=D at *;refine pI func25 rfl ntmps25 results25 call25 ?_
  (refine wkad (w_1 @l_napp) (w_3 cn c1 cc) w_t (w_s ?_);intros)
  all_goals exact gL
 ·rw [ZCg hs0];have hs':s=-1∨s=1:=by rcases hs with h | h | h;exact .inl h;exact absurd h hs0;exact .inr h
  have hv:=hu.scl hs';have lv:(sclT (s:Rat) num).length≤L:=by rw [Zco];exact lu
  have hsr:(s:Rat)≠0:=by rcases hs' with rfl | rfl<;>decide +kernel
  have c0:Pure prog 65 [iv s] (ratQ (s:Rat)):=qOfS hs;obtain⟨mm,hmm⟩:∃mm,mm=moQ n a:=⟨_,rfl⟩;have hm:mm≤M:=by rw [hmm];exact hmo
  have e0:L ^ (M+1)=L ^ M*L:=ZDk ..;have p1:∀i,i≤M+1→L ^ i≤L ^ (M+1):=λi hi=>ZDl h1 hi;have p0:∀i,i≤M→L ^ i≤L ^ M:=λi hi=>ZDl h1 hi;have p2:∀i,i≤M+1→i*nb≤(M+1)*nb:=λi hi=>ZCw _ hi;have p3:∀i,i≤M+1→i*kb≤(M+1)*(2*kb):=λi hi=>ZDe hi zo;have r3:∀i,i≤M+1→i*(2*kb)≤(M+1)*(2*kb):=λi hi=>ZCw _ hi;have hM:=Zii;have b0:(M+1)*LA*L ^ (M+1)≤100000000:=hL;have b1:(M+1)*LA*L ^ (M+1)=M*LA*L ^ (M+1)+LA*L ^ (M+1):=by rw [ZD8,ZC8]
  have b2:L ^ M≤L ^ (M+1):=ZDl h1 zo;have b3:L≤L ^ (M+1):=by have h:=p1 1 zo;rwa [Nat.pow_one] at h
  have b4:M*LA*L ^ M≤M*LA*L ^ (M+1):=ZEc _ b2;have b6':L ^ (M+1)≤LA*L ^ (M+1):=ZHm _ zo;have b7':LA*L ^ M≤LA*L ^ (M+1):=ZEc _ b2;have b8:1*(2*kb)≤(M+1)*(2*kb):=ZCw _ zo;have b5:nb≤(M+1)*nb:=ZHm _ zo;have hpa:∀k,XB (paQ n a k) ka na:=λk=>ha.part n k;have hpl:∀k,(paQ n a k).length≤LA:=λk=>ZCk (Zt7 n a k) la;have cV:=Zri num (s:Rat) hu.qk (Zl5 hs) hsr zo zo zo;rw [Zpc] at cV;have p4:∀i,i≤mm→L ^ i≤L ^ mm:=λi hi=>ZDl h1 hi;have p5:L ^ mm≤L ^ (M+1):=p1 mm zo;have p6:mm*nb≤(M+1)*nb:=p2 mm zo
  have p7:mm*kb≤(M+1)*(2*kb):=p3 mm zo;have q7:mm*(2*kb)≤(M+1)*(2*kb):=r3 mm zo;have b6:LA*L ^ mm≤LA*L ^ (M+1):=ZEc _ zo;have b7:(M+1)*(LA*L ^ mm)≤(M+1)*(LA*L ^ (M+1)):=ZEc _ b6;rw [←ZDm (M+1) LA (L ^ (M+1))] at b7;have hrl:∀i,i≤mm+1→(rfX (paQ n a) (sclT (s:Rat) num) den mm i).length≤(M+1)*(LA*L ^ mm):=λi hi=>ZCk (Ztr hpl lv ld mm i hi) (ZCw _ zo);have hrx:∀i,i≤mm+1→XB (rfX (paQ n a) (sclT (s:Rat) num) den mm i) (ka+1+mm*(2*kb)) (na+mm*nb):=λi hi=>rf_xb ha hv hd n mm i zo hi;have cW:∀k,k≤mm→Pure prog 67 [.sl 4 (a.map qtA),n.av,iv k] (.sl 4 ((paQ n a k).map qtA)):=λk hk=>Zx1 a n k ha zo zo zo zo
  have cP:∀k,k≤mm→Pure prog 27 [.sl 4 ((sclT (s:Rat) num).map qtA),iv k] (.sl 4 ((pwX (sclT (s:Rat) num) k).map qtA)):=λk hk=>by
   have x1:=p1 (k+1) zo;have x2:=p2 (k+1) zo;have x3:=p3 (k+1) zo;rw [ZD8] at x2 x3;exact Zrj _ k hv lv h1 zo zo zo zo
  have cQ:∀k,k≤mm→Pure prog 27 [.sl 4 (den.map qtA),iv k] (.sl 4 ((pwX den k).map qtA)):=λk hk=>by
   have x1:=p1 (k+1) zo;have x2:=p2 (k+1) zo;have x3:=p3 (k+1) zo;rw [ZD8] at x2 x3;exact Zrj _ k hd ld h1 zo zo zo zo
  have hT:∀k,(mulX (paQ n a k) (pwX (sclT (s:Rat) num) k)).length≤LA*L ^ k:=λk=>ZCk (Zc4 _ _) (ZDe (hpl k) (Zgq lv k));have cT:∀k,k≤mm→Pure prog 26 [.sl 4 ((paQ n a k).map qtA),.sl 4 ((pwX (sclT (s:Rat) num) k).map qtA)] (.sl 4 ((mulX (paQ n a k) (pwX (sclT (s:Rat) num) k)).map qtA)):=λk hk=>by
   have x1:=p4 k hk;have x2:=p2 k zo;have x3:=p3 k zo;have l0:=hpl k;have l1:=Zgq lv k;have l2:(paQ n a k).length*(pwX (sclT (s:Rat) num) k).length≤LA*L ^ mm:=ZDe l0 (ZCk l1 x1);exact Zx5 _ _ (hpa k) (hv.pw k) zo zo zo zo zo zo zo
  have cU:∀k,k≤mm→Pure prog 26 [.sl 4 ((mulX (paQ n a k) (pwX (sclT (s:Rat) num) k)).map qtA),.sl 4 ((pwX den (mm - k)).map qtA)] (.sl 4 ((mulX (mulX (paQ n a k) (pwX (sclT (s:Rat) num) k)) (pwX den (mm - k))).map qtA)):=λk hk=>by
   have x1:=p4 k hk;have x2:=p2 k zo;have x3:=p3 k zo;have x4:=p2 (mm - k) zo;have x5:=p3 (mm - k) zo;have l1:=hT k;have x7:LA*L ^ k≤LA*L ^ mm:=ZEc _ x1;have l2:=Zgq ld (mm - k);have x6:=p4 (mm - k) zo;have l3:(mulX (paQ n a k) (pwX (sclT (s:Rat) num) k)).length*(pwX den (mm - k)).length≤LA*L ^ k*L ^ (mm - k):=ZDe l1 l2;have e1:LA*L ^ k*L ^ (mm - k)=LA*L ^ mm:=by rw [ZDm,←ZDj];congr 2;omega
   rw [e1] at l3;exact Zx5 _ _ ((hpa k).mul (hv.pw k)) (hd.pw (mm - k)) zo zo zo zo zo zo zo
  have cA:∀k,k≤mm→Pure prog 68 [.sl 4 ((rfX (paQ n a) (sclT (s:Rat) num) den mm k).map qtA),.sl 4 ((mulX (mulX (paQ n a k) (pwX (sclT (s:Rat) num) k)) (pwX den (mm - k))).map qtA)] (.sl 4 ((rfX (paQ n a) (sclT (s:Rat) num) den mm (k+1)).map qtA)):=λk hk=>by
   have x2:k*nb+(mm - k)*nb=mm*nb:=by rw [←ZC8];congr 1;omega
   have x3:k*kb+(mm - k)*kb=mm*kb:=by rw [←ZC8];congr 1;omega
   have l1:=hrl k zo;have l3:=ZCk (Zc4 (mulX (paQ n a k) (pwX (sclT (s:Rat) num) k)) (pwX den (mm - k))) (ZDe (hT k) (Zgq ld (mm - k)));have e1:LA*L ^ k*L ^ (mm - k)=LA*L ^ mm:=by rw [ZDm,←ZDj];congr 2;omega
   rw [e1] at l3;exact Zx4 _ _ (hrx k zo).qk ((((hpa k).mul (hv.pw k)).mul (hd.pw (mm - k))).mono (ZCi _) (show _≤na+mm*nb by omega)).qk zo zo zo zo zo
  have cM0:=rxMost a n zo ha.2.1 zo;have cM:Pure prog 24 [.sl 4 (a.map qtA),n.av] (iv mm):=by rw [hmm];exact cM0
  have d00:(rfX (paQ n a) (sclT (s:Rat) num) den mm 0).map qtA=[]:=rfl;show Pure _ _ [.sl 4 (a.map qtA),.agg [iv q1,iv q2,iv q3,iv q4],.agg [.sl 4 (num.map qtA),.sl 4 (den.map qtA)]] (.agg [.sl 4 ((rfX (paQ n a) (sclT (s:Rat) num) den (moQ n a) (moQ n a+1)).map qtA),.sl 4 ((pwX den (moQ n a)).map qtA)]);rw [←hmm];clear cM0 hrx hrl hT hpa hpl b0 b1 b2 b3 b4 b5 b6' b7' b8 b6 b7 p1 p0 p2 p3 r3 p4 p5 p6 p7 q7 e0 hq hL hk;generalize hRF:(λi=>(rfX (paQ n a) (sclT (s:Rat) num) den mm i).map qtA)=RF at *;have hRF:∀i,(rfX (paQ n a) (sclT (s:Rat) num) den mm i).map qtA=RF i:=λi=>by rw [←hRF]
  generalize hUU:(λk=>(mulX (mulX (paQ n a k) (pwX (sclT (s:Rat) num) k)) (pwX den (mm - k))).map qtA)=UU at *;have hUU:∀k,(mulX (mulX (paQ n a k) (pwX (sclT (s:Rat) num) k)) (pwX den (mm - k))).map qtA=UU k:=λi=>by rw [←hUU]
  generalize hTT:(λk=>(mulX (paQ n a k) (pwX (sclT (s:Rat) num) k)).map qtA)=TT at *;have hTT:∀k,(mulX (paQ n a k) (pwX (sclT (s:Rat) num) k)).map qtA=TT k:=λi=>by rw [←hTT]
  generalize hDN:(λi=>(pwX den i).map qtA)=DN at *;have hDN:∀i,(pwX den i).map qtA=DN i:=λi=>by rw [←hDN]
  generalize hVN:(λi=>(pwX (sclT (s:Rat) num) i).map qtA)=VN at *;have hVN:∀i,(pwX (sclT (s:Rat) num) i).map qtA=VN i:=λi=>by rw [←hVN]
  generalize hPN:(λi=>(paQ n a i).map qtA)=PN at *;have hPN:∀i,(paQ n a i).map qtA=PN i:=λi=>by rw [←hPN]
  simp only [hRF,hUU,hTT,hDN,hVN,hPN] at cW cP cQ cT cU cA d00 ⊢;clear hRF hUU hTT hDN hVN hPN;obtain⟨n1,n2,n3,n4⟩:=n;have cV:Pure prog 64 [.sl 4 (num.map qtA),ratQ (s:Rat)] (.sl 4 ((sclT (s:Rat) num).map qtA)):=cV;generalize a.map qtA=A at *;generalize (sclT (s:Rat) num).map qtA=V at *;generalize num.map qtA=U at *;generalize den.map qtA=D at *;have c0:Pure prog 65 [iv s] (.agg [.v (.bool (decide ((s:Rat).num < 0))),lim (toL (s:Rat).num.natAbs),lim (toL (s:Rat).den)]):=c0;have cV:Pure prog 64 [.sl 4 U,.agg [.v (.bool (decide ((s:Rat).num < 0))),lim (toL (s:Rat).num.natAbs),lim (toL (s:Rat).den)]] (.sl 4 V):=cV
  generalize toL (s:Rat).num.natAbs=sn at *;generalize toL (s:Rat).den=sd at *;generalize decide ((s:Rat).num < 0)=sb at *;have cM:Pure prog 24 [.sl 4 A,.agg [iv n1,iv n2,iv n3,iv n4]] (iv mm):=cM;have cW:∀k,k≤mm→Pure prog 67 [.sl 4 A,.agg [iv n1,iv n2,iv n3,iv n4],iv k] (.sl 4 (PN k)):=cW;clear hN hv lv hu hd ha hmm c1 cc;refine pI func25 rfl ntmps25 results25 call25 ?_
  (refine wkad (w_1 hs0) (w_4 cn c0 cV cM) (w_1 (w_d 4 [(3,.agg [.v (.bool sb),lim sn,lim sd]),(4,.sl 4 V)] [] [])) (w_s ?_);intros)
  refine Zdj (Frz.nil (d:=11) 4 (gC)) ?_;refine Zad (ι:=Nat) (λk e m=>k≤mm+1∧(∃g x,e 5=.pbox 5 g 0∧m 5=some (.box g 29 [x,.sl 4 D] false))∧(∃g,e 6=.pbox 6 g 0∧m 6=some (.box g 29 [.v (.slice none 0 0),.v (.slice none 0 0)] false))∧(∃g,e 7=.pbox 7 g 0∧m 7=some (.box g 39 [iv n1,iv n2,iv n3,iv n4] false))∧(e 0=.sl 4 A∧e 9=.sl 4 V∧e 10=iv mm)∧e 11=.sl 4 (RF k)∧e 12=iv k) (λk=>mm+1 - k) 0 zr ?_ ?_
  ·rintro k e m ⟨hk,⟨g5,x5,e5,m5⟩,⟨g6,e6,m6⟩,⟨g7,e7,m7⟩,⟨e0,e9,e10⟩,e11,e12⟩
   by_cases hlt:k≤mm
   ·have w1:=cW k hlt;have v1:=cP k hlt;have t1:=cT k hlt;have d1:=cQ (mm - k) zo;have u1:=cU k hlt;have a1:=cA k hlt;have hd1:(mm:Int) - (k:Int)=((mm - k:Nat):Int):=zo;have hlt':(k:Int)≤(mm:Int):=zo;clear cW cP cQ cT cU cA cn c0 cV cM
    (refine wkad (w_13 e0 e5 m5 e6 m6 e7 m7 e9 e10 e11 e12 hd1 hlt') (w_6 w1 v1 t1 d1 u1 a1) w_t (w_s ?_);intros)
    exact⟨k+1,⟨zo,⟨g5,x5,gW e5,gW m5⟩,⟨g6,gW e6,gW m6⟩,⟨g7,gW e7,gW m7⟩,⟨gW e0,gW e9,gW e10⟩,gC,gS⟩,zo⟩
   ·have hkm:k=mm+1:=zo;subst hkm;have d1:=cQ mm (ZCi _);have hlt':¬((mm+1:Nat):Int)≤(mm:Int):=zo;clear cW cP cQ cT cU cA cn c0 cV cM;generalize RF (mm+1)=H at *;generalize DN mm=E at *
    (refine wkad (w_12 e0 e5 m5 e6 m6 e7 m7 e9 e10 e11 e12 hlt') (w_1 d1) w_t (w_s ?_);intros)
    all_goals exact gM (w_2 e6 m6)
  ·exact⟨ZCr _,⟨_,_,gC,gC⟩,⟨_,gC,gC⟩,⟨_,gC,gC⟩,⟨gC,gC,gC⟩,by rw [d00];exact gC,gC⟩
theorem rxSame (p d:QTs) {j k n m:Nat} (hp:QK p j n) (hd:QK d k m) (lp:p.length≤1000000) (ld:d.length≤1000000) (hj:j≤1000000) (hk:k≤1000000) (hn:n≤1000000) (hm:m≤1000000) :
 Pure prog 10 [.agg [qpA p,qpA d],.agg [qpA p,qpA d]] (.v (.bool true)):=by
 have c1:Pure prog 30 [.sl 4 (p.map qtA),.sl 4 (p.map qtA)] (.v (.bool true)):=Ztj p hp lp hj hn;have c2:Pure prog 30 [.sl 4 (d.map qtA),.sl 4 (d.map qtA)] (.v (.bool true)):=Ztj d hd ld hk hm;show Pure _ _ [.agg [.sl 4 (p.map qtA),.sl 4 (d.map qtA)],.agg [.sl 4 (p.map qtA),.sl 4 (d.map qtA)]] _;generalize p.map qtA=A at *;generalize d.map qtA=D at *;refine pI func10 rfl ntmps10 results10 call10 ?_
 (refine wkap w_t (w_2 c1 c2) (w_r 0) (w_s ?_);intros)
 all_goals exact gL
end Go.Proofs.YtpkcophcldjboaaGreatDoor
namespace Go.Proofs.YtpkcophcldjboaaGreatDoor
open Go Go.RowKit Go.Pg Go.Pol Go.Proofs.Tryz
section
variable {ps:List PQ} {rs:List Rat}
def vlQ (ps:List PQ) (rs:List Rat):List Qt→Rat
 | []=>1
 | q :: l=>Qt.val q ps rs*vlQ ps rs l
def pwr (x:Rat):Nat→Rat
 | 0=>1
 | n+1=>pwr x n*x
def swX (W:Nat→Rat) (x:Rat):Nat→Rat
 | 0=>0
 | i+1=>swX W x i+W i*pwr x i
end
def alQ (C:Qt→Prop) (l:QTs):Prop:=∀t∈l,∀q∈t.2,C q
section
variable {C:Qt→Prop}
theorem alQ.join {p q:QTs} (hp:alQ C p) (hq:alQ C q):alQ C (Zav p q):=λt ht=>by
 obtain⟨s,hs,e⟩:=Ziz ht;rw [e];rcases List.mem_append.1 hs with h | h
 ·exact hp s h
 ·exact hq s h
theorem alQ.gat {l:QTs} (h:alQ C l):alQ C (gatM l):=by
 rw [←Zr7];intro t ht;exact Zjp (P:=λx=>∀q∈x,C q) l [] (λt ht=>by cases ht) h t (List.mem_filter.1 ((Za3 _).mem_iff.1 ht)).1
theorem alQ.mul {p q:QTs} (hp:alQ C p) (hq:alQ C q):alQ C (mulX p q):=alQ.gat λu hu=>by
 obtain⟨s,hs,t,ht,rfl⟩:=Zf0 hu;intro x hx;rcases List.mem_append.1 ((Za3 _).mem_iff.1 hx) with h | h
 ·exact hp s hs x h
 ·exact hq t ht x h
theorem alQ.pw {d:QTs} (h:alQ C d):∀i,alQ C (pwX d i)
 | 0=>λt ht x hx=>by
   rw [List.mem_singleton.1 ht] at hx;cases hx
 | i+1=>(h.pw i).mul h
theorem alQ.part {a:QTs} (h:alQ C a) (q:Qt) (k:Nat):alQ C (paQ q a k):=alQ.gat λu hu x hx=>by
 obtain⟨t,ht,rfl⟩:=Ziy hu;exact h t ht x (List.mem_filter.1 hx).1
theorem alQ.scl {p:QTs} (h:alQ C p) (s:Rat):alQ C (sclT s p):=λu hu=>by
 obtain⟨t,ht,rfl⟩:=List.mem_map.1 hu;exact h t ht
theorem alQ.rf {P:Nat→QTs} {a d:QTs} (hP:∀k,alQ C (P k)) (ha:alQ C a) (hd:alQ C d) (m:Nat):∀i,alQ C (rfX P a d m i)
 | 0=>λt ht=>by cases ht
 | i+1=>(alQ.rf hP ha hd m i).join (((hP i).mul (ha.pw i)).mul (hd.pw (m - i)))
end
def cstT (u:Rat):QTs:=if u=0 then [] else [(u,[])]
theorem cstT_xb {u:Rat} {k:Nat} (h:Sz u k):XB (cstT u) (k+1) 0:=by
 have hd:=Zaf.1 h.2;have hn:=Zaf.1 h.1;have hk:65536 ^ k < 65536 ^ (k+1):=Nat.pow_lt_pow_right zo zo;unfold cstT;split
 ·exact Zmb.mono zo (ZCi _)
 ·rename_i h0;refine⟨⟨λt ht=>by rw [List.mem_singleton.1 ht];exact⟨h0,rgQ.de⟩,ZGs _ _⟩,λt ht=>by rw [List.mem_singleton.1 ht];exact ZCi _,u.den,u.num.natAbs,u.den_nz,zo,zo,λt ht=>by rw [List.mem_singleton.1 ht];exact ZEv _,?_⟩;rw [Zbd];exact ZBn.2 (ZFn _ (ZEe u.den_nz))
theorem Zgm (u:Rat):(cstT u).length≤1:=by unfold cstT;split<;>simp
theorem ZBm {C:Qt→Prop} (u:Rat):alQ C (cstT u):=by
 unfold cstT;split
 ·exact λt ht=>by cases ht
 ·exact λt ht x hx=>by rw [List.mem_singleton.1 ht] at hx;cases hx
theorem Zr3 {q:Qt} (h:q.ok=true) (hs:q.norm.2≠0):q.norm.1.norm=(q.norm.1,1):=by
 obtain⟨k,a,b,c⟩:=q
 have hk:(k=3∧0≤a∧a < 64∧b=0∧c=0)∨((k=1∨k=2)∧(0≤a∧a < 40)∧(0≤b∧b < 40)∧(0≤c∧c < 40)):=by
  unfold Qt.ok at h;simpa using h
 have hc:Qt.chk ⟨k,a,b,c⟩ (List.replicate 40 ((0:Rat),(0:Rat))).length (List.replicate 64 (0:Rat)).length=0:=by
  rw [ZGo,ZGo];unfold Qt.chk;rw [ZCh h];simp only;rcases hk with⟨rfl,h1,h2,_⟩ | ⟨h0,h1,h2,h3⟩
  ·rw [ZCh rfl,ZCg zo]
  ·rw [ZCg zo,ZCg zo]
 rcases Zv8 (ps:=List.replicate 40 ((0:Rat),(0:Rat))) (rs:=List.replicate 64 (0:Rat)) hc (by rw [ZGo];exact ZCi _) with⟨hn,_⟩ | ⟨k1,a1,b1,e1,s,hn,_,hn2,_,_⟩
 ·rw [hn] at hs;exact absurd rfl hs
 ·rw [hn];exact hn2
structure XL (p:QTs) (k n l:Nat):Prop where
 x:XB p k n
 l:p.length≤l
theorem XL.mono {p:QTs} {k n l j m i:Nat} (h:XL p k n l) (hk:k≤j) (hn:n≤m) (hl:l≤i):XL p j m i:=⟨h.x.mono hk hn,ZCk h.l hl⟩
theorem XL.mul {p q:QTs} {k n l j m i:Nat} (h:XL p k n l) (g:XL q j m i):XL (mulX p q) (k+j) (n+m) (l*i):=⟨h.x.mul g.x,ZCk (Zc4 p q) (ZDe h.l g.l)⟩
theorem XL.add {p q:QTs} {k n l j m i:Nat} (h:XL p k n l) (g:XL q j m i):XL (Zav p q) (k+j+1) (max n m) (l+i):=⟨h.x.add g.x,ZCk (Zfo p q) (ZDt h.l g.l)⟩
abbrev subX (p q:QTs):QTs:=Zav p (sclT (-1) q)
theorem XL.neg {q:QTs} {j m i:Nat} (g:XL q j m i):XL (sclT (-1) q) j m i:=⟨g.x.neg,by rw [Zco];exact g.l⟩
theorem XL.sub {p q:QTs} {k n l j m i:Nat} (h:XL p k n l) (g:XL q j m i):XL (subX p q) (k+j+1) (max n m) (l+i):=h.add g.neg
theorem XL.nil:XL [] 1 0 0:=⟨Zmb,ZCi _⟩
def ofX (q:Qt):QTs:=if q.norm.2=0 then [] else [((q.norm.2:Rat),[q.norm.1])]
theorem of_ok {q:Qt} (h:q.ok=true):nrmR (ofE q)=qpA (ofX q):=by
 rw [Zzu (by show(RE.ok ⟨rawQ 1,[q]⟩ && true)=true;rw [ZG1];show((rawQ 1).ok && [q].all Qt.ok)=true;rw [Zrq,ZEf,ZF9,h];rfl)];congr 2;show gatM [RE.t ⟨rawQ 1,[q]⟩]=ofX q;have hs:sgP [q]=q.norm.2:=by show 1*q.norm.2=_;rw [Int.one_mul]
 have ht:RE.t ⟨rawQ 1,[q]⟩=((q.norm.2:Rat),putP [q]):=by
  show((rawQ 1).q*(sgP [q]:Rat),putP [q])=_;rw [Zyv,hs,ZGl]
 rw [ht,Zlo];unfold ofX;by_cases h0:q.norm.2=0
 ·rw [ZCh h0,ZCh (by show(q.norm.2:Rat)=0;rw [h0];rfl)]
 ·have h1:¬(q.norm.2:Rat)=0:=by
   rcases Zgi q with h2 | h2 | h2
   ·rw [h2];decide +kernel
   ·exact absurd h2 h0
   ·rw [h2];decide +kernel
  rw [ZCg h0,ZCg h1];have hp:=putP_y [] (q:=q) h0;rw [ZFu] at hp;rw [hp];rfl
theorem Za9 {q:Qt} (h:q.ok=true):XL (ofX q) 1 1 1:=by
 unfold ofX;split
 ·exact XL.nil.mono (ZCi _) zo zo
 ·rename_i h0;have hn:=Zr3 h h0
  have hs:(q.norm.2:Rat)≠0∧(q.norm.2:Rat).den ∣ 1∧cl (q.norm.2:Rat)≤65535:=by
   rcases Zgi q with h2 | h2 | h2
   ·rw [h2];decide +kernel
   ·exact absurd h2 h0
   ·rw [h2];decide +kernel
  refine⟨⟨⟨λt ht=>?_,ZGs _ _⟩,λt ht=>by rw [List.mem_singleton.1 ht];exact ZCi _,1,65535,by decide,by decide,by decide,λt ht=>by rw [List.mem_singleton.1 ht];exact hs.2.1,?_⟩,ZCi _⟩
  ·rw [List.mem_singleton.1 ht];exact⟨hs.1,ZGs _ _,λx hx=>by rw [List.mem_singleton.1 hx];exact hn⟩
  ·rw [Zbd];exact hs.2.2
theorem Zch {u:Rat} {k:Nat} (h:Sz u k):XL (cstT u) (k+1) 0 1:=⟨cstT_xb h,Zgm u⟩
theorem Zoj {c:Rat} {p:QTs} (h:EX p):mulX (cstT c) p=if c=0 then [] else sclT c p:=by
 unfold cstT;split
 ·exact Zz1 p
 ·rename_i h0;refine Zhb (D:=okQ) Zbb (Zbh rgQ ⟨λt ht=>by rw [List.mem_singleton.1 ht];exact⟨h0,rgQ.de⟩,ZGs _ _⟩ h) ⟨λt ht=>?_,List.pairwise_map.2 h.2⟩ λφ=>?_
  ·obtain⟨u,hu,rfl⟩:=List.mem_map.1 ht;exact⟨λh1=>(Rat.mul_eq_zero.1 h1).elim h0 (h.1 u hu).1,(h.1 u hu).2⟩
  ·rw [Zfu Zbb,Zst];show c*evl (λk=>φ (muQ [] k)) p+0=_;rw [ZEu];congr 1
   have key:∀p:QTs,(∀t∈p,okQ t.2)→evl (λk=>φ (muQ [] k)) p=evl φ p:=by
    intro p
    induction p with
    | nil=>intro _;rfl
    | cons t p ih =>
      intro h;show t.1*φ (muQ [] t.2)+_=t.1*φ t.2+_;rw [ih λu hu=>h u (.tail _ hu),rgQ.comm,rgQ.one _ (h t (.head _))]
   exact key p h.dom
structure Cb where
 ps:List Int
 ab:List QTs
 be:QTs
abbrev aX (a b c:Int):QTs:=ofX ⟨1,a,b,c⟩
abbrev pX (a b c:Int):QTs:=ofX ⟨2,a,b,c⟩
abbrev nX (n:Rat):QTs:=cstT n
abbrev twX (p:QTs):QTs:=mulX (nX 2) p
def prC (a b:Int) (part below:QTs):Cb:=⟨[a,b],[subX below part,part],below⟩
def ctW (p q r:Int):QTs:=mulX (pX q r q) (pX q p r)
def cbOf (k:Int) (a:List Int) (r:Rat) (t:Int):Option Cb :=
 if k=2 then some (prC (gI a 0) (gI a 1) (nX r) (nX 1))
 else if k=3 then some ⟨a,[nX 1,nX (-1),nX 1],nX 1⟩
 else if k=5 then some (prC (gI a 0) (gI a 1) (ofX ⟨3,t,0,0⟩) (nX 1))
 else if k=9 then some (prC (gI a 0) (gI a 1) (aX (gI a 0) (gI a 2) (gI a 3)) (subX (aX (gI a 0) (gI a 2) (gI a 3)) (aX (gI a 1) (gI a 2) (gI a 3))))
 else if k=7 then some (prC (gI a 1) (gI a 2) (pX (gI a 0) (gI a 1) (gI a 2)) (pX (gI a 2) (gI a 1) (gI a 2)))
 else if k=8 then some ⟨[gI a 1,gI a 2,gI a 0],[twX (subX (pX (gI a 2) (gI a 1) (gI a 2)) (pX (gI a 0) (gI a 1) (gI a 2))),twX (pX (gI a 0) (gI a 1) (gI a 2)),subX [] (pX (gI a 2) (gI a 1) (gI a 2))],pX (gI a 2) (gI a 1) (gI a 2)⟩
 else if k=10 then some (prC (gI a 0) (gI a 1) (twX (pX (gI a 2) (gI a 0) (gI a 1))) (pX (gI a 1) (gI a 0) (gI a 1)))
 else if k=11 then some ⟨a,[ctW (gI a 0) (gI a 1) (gI a 2),ctW (gI a 1) (gI a 2) (gI a 0),ctW (gI a 2) (gI a 0) (gI a 1)],Zav (Zav (ctW (gI a 0) (gI a 1) (gI a 2)) (ctW (gI a 1) (gI a 2) (gI a 0))) (ctW (gI a 2) (gI a 0) (gI a 1))⟩
 else none
structure CbOk (c:Cb) (n:Int):Prop where
 len:c.ab.length=c.ps.length
 few:c.ps.length≤3
 ab:∀w∈c.ab,XL w 10 2 4
 be:XL c.be 10 2 4
 ps:∀x∈c.ps,0≤x∧x < n
theorem Zan {k a b c:Int} (hk:k=1∨k=2) (ha:0≤a∧a < 40) (hb:0≤b∧b < 40) (hc:0≤c∧c < 40):Qt.ok ⟨k,a,b,c⟩=true:=by
 unfold Qt.ok;rw [ZDb];exact .inr ⟨hk,ha,hb,hc⟩
theorem Zl0 {k t:Int} {a:List Int} {r:Rat} {n:Int} {c:Cb} (h:cbOf k a r t=some c) (hr:Sz r 2) (ha:∀i,i < a.length→0≤gI a i∧gI a i < n) (hn:n≤40) (ht:0≤t∧t < 64)
 (hl:(k=3→a.length=3)∧(k=11→a.length=3)∧(k=2∨k=5→2≤a.length)∧(k=7∨k=8∨k=10→3≤a.length)∧(k=9→4≤a.length)):CbOk c n:=by
 obtain⟨l3,l11,l2,l7,l9⟩:=hl;have g:∀i,i < a.length→0≤gI a i∧gI a i < 40:=λi hi=>by have:=ha i hi;omega
 have pA:∀i j m,i < a.length→j < a.length→m < a.length→XL (aX (gI a i) (gI a j) (gI a m)) 1 1 1:=λi j m h1 h2 h3=>Za9 (Zan (.inl rfl) (g i h1) (g j h2) (g m h3));have pP:∀i j m,i < a.length→j < a.length→m < a.length→XL (pX (gI a i) (gI a j) (gI a m)) 1 1 1:=λi j m h1 h2 h3=>Za9 (Zan (.inr rfl) (g i h1) (g j h2) (g m h3));have c1:XL (nX 1) 2 0 1:=Zch Zh7;have c2:XL (nX 2) 2 0 1:=Zch Zeh;have cm:XL (nX (-1)) 2 0 1:=Zch Zxm;have cr:XL (nX r) 3 0 1:=Zch hr
 have pr:∀{x y:Int} {p b:QTs} {j m i j' m' i':Nat},XL p j m i→XL b j' m' i'→j+j'+1≤10→m≤2→m'≤2→i+i'≤4→(0≤x∧x < n)→(0≤y∧y < n)→CbOk (prC x y p b) n:=by
  intro x y p b j m i j' m' i' hp hb h1 h2 h3 h4 hx hy;refine⟨rfl,by show 2≤3;decide,λw hw=>?_,hb.mono zo h3 zo,λz hz=>?_⟩
  ·rcases List.mem_cons.1 hw with rfl | hw
   ·exact(hb.sub hp).mono zo zo zo
   ·rw [List.mem_singleton.1 hw];exact hp.mono zo h2 zo
  ·rcases List.mem_cons.1 hz with rfl | hz
   ·exact hx
   ·rw [List.mem_singleton.1 hz];exact hy
 have hmem:∀x∈a,0≤x∧x < n:=λx hx=>by
  obtain⟨i,hi,rfl⟩:=ZIe hx;have:=ha i hi
  rwa [Zfb hi] at this
 have tri:∀{x y z:QTs} {w:QTs},XL x 10 2 4→XL y 10 2 4→XL z 10 2 4→w∈[x,y,z]→XL w 10 2 4:=by
  intro x y z w hx hy hz hw;rcases List.mem_cons.1 hw with rfl | hw
  ·exact hx
  ·rcases List.mem_cons.1 hw with rfl | hw
   ·exact hy
   ·rw [List.mem_singleton.1 hw];exact hz
 unfold cbOf at h;split at h
 ·rename_i hk;cases h;have:=l2 (.inl hk);exact pr cr c1 zd zd zd zd (ha 0 zo) (ha 1 zo)
 split at h
 ·rename_i hk;cases h;have:=l3 hk;exact⟨this.symm,by show a.length≤3;omega,λw hw=>tri (c1.mono zd zd zd) (cm.mono zd zd zd) (c1.mono zd zd zd) hw,c1.mono zd zd zd,hmem⟩
 split at h
 ·rename_i hk;cases h;have:=l2 (.inr hk);have ho:XL (ofX ⟨3,t,0,0⟩) 1 1 1:=Za9 (by unfold Qt.ok;rw [ZDb];exact .inl ⟨rfl,ht.1,ht.2,rfl,rfl⟩);exact pr ho c1 zd zd zd zd (ha 0 zo) (ha 1 zo)
 split at h
 ·rename_i hk;cases h;have:=l9 hk;have p1:=pA 0 2 3 zo zo zo;have p2:=pA 1 2 3 zo zo zo;exact pr p1 (p1.sub p2) zd zd zd zd (ha 0 zo) (ha 1 zo)
 split at h
 ·rename_i hk;cases h;have:=l7 (.inl hk);exact pr (pP 0 1 2 zo zo zo) (pP 2 1 2 zo zo zo) zd zd zd zd (ha 1 zo) (ha 2 zo)
 split at h
 ·rename_i hk;cases h;have:=l7 (.inr (.inl hk));have p1:=pP 0 1 2 zo zo zo;have p2:=pP 2 1 2 zo zo zo;refine⟨rfl,by show 3≤3;decide,λw hw=>tri ((c2.mul (p2.sub p1)).mono zd zd zd) ((c2.mul p1).mono zd zd zd) ((XL.nil.sub p2).mono zd zd zd) hw,p2.mono zd zd zd,λx hx=>?_⟩;rcases List.mem_cons.1 hx with rfl | hx
  ·exact ha 1 zo
  ·rcases List.mem_cons.1 hx with rfl | hx
   ·exact ha 2 zo
   ·rw [List.mem_singleton.1 hx];exact ha 0 zo
 split at h
 ·rename_i hk;cases h;have:=l7 (.inr (.inr hk));exact pr (c2.mul (pP 2 0 1 zo zo zo)) (pP 1 0 1 zo zo zo) zd zd zd zd (ha 0 zo) (ha 1 zo)
 split at h
 ·rename_i hk;cases h;have:=l11 hk;have w1:=(pP 1 2 1 zo zo zo).mul (pP 1 0 2 zo zo zo);have w2:=(pP 2 0 2 zo zo zo).mul (pP 2 1 0 zo zo zo);have w3:=(pP 0 1 0 zo zo zo).mul (pP 0 2 1 zo zo zo);exact⟨this.symm,by show a.length≤3;omega,λw hw=>tri (w1.mono zd zd zd) (w2.mono zd zd zd) (w3.mono zd zd zd) hw,((w1.add w2).add w3).mono zd zd zd,hmem⟩
 ·cases h
structure Pl where
 k:Int
 q:Int
 r:Int
 mid:Bool
def plOf (n:Qt) (x:Int):Pl :=
 if n.k=1 then (if n.a=x then ⟨n.k,n.b,n.c,false⟩ else if n.b=x then ⟨n.k,n.c,n.a,false⟩ else ⟨n.k,n.a,n.b,false⟩)
 else if n.a=x∧n.c=x then ⟨n.k,n.b,n.b,true⟩
 else if n.b=x then ⟨n.k,n.a,n.c,true⟩
 else if n.a=x then ⟨n.k,n.b,n.c,false⟩
 else ⟨n.k,n.b,n.a,false⟩
def Pl.at (p:Pl) (x:Int):QTs:=if p.k=1 then aX x p.q p.r else if p.mid=true then pX p.q x p.r else pX x p.q p.r
def afS (c:Cb) (p:Pl):Nat→QTs
 | 0=>[]
 | i+1=>Zav (afS c p i) (mulX (c.ab.getD i []) (p.at (gI c.ps i)))
def prT (c:Cb) (i j:Nat):QTs:=mulX (mulX (c.ab.getD i []) (c.ab.getD j [])) (pX (gI c.ps i) (gI c.ps j) (gI c.ps i))
def in2 (c:Cb) (i:Nat) (acc:QTs):Nat→QTs
 | 0=>acc
 | d+1=>subX (in2 c i acc d) (prT c i (i+1+d))
def out2 (c:Cb) (n:Nat) (acc:QTs):Nat→QTs
 | 0=>acc
 | i+1=>in2 c i (out2 c n acc i) (n - (i+1))
def afN (c:Cb) (p:Pl):QTs:=if p.mid=true then out2 c c.ps.length (mulX c.be (afS c p c.ps.length)) c.ps.length else afS c p c.ps.length
def afD (c:Cb) (p:Pl):QTs:=if p.mid=true then mulX c.be c.be else c.be
structure PlOk (p:Pl) (n:Int):Prop where
 q:0≤p.q∧p.q < n
 r:0≤p.r∧p.r < n
theorem pl_ok {q:Qt} {x n:Int} (ha:0≤q.a∧q.a < n) (hb:0≤q.b∧q.b < n) (hc:0≤q.c∧q.c < n):PlOk (plOf q x) n:=by
 unfold plOf;split
 ·split
  ·exact⟨hb,hc⟩
  ·split
   ·exact⟨hc,ha⟩
   ·exact⟨ha,hb⟩
 ·split
  ·exact⟨hb,hb⟩
  ·split
   ·exact⟨ha,hc⟩
   ·split
    ·exact⟨hb,hc⟩
    ·exact⟨hb,ha⟩
theorem Zh6 {c:Cb} {n:Int} (h:CbOk c n) {i:Nat} (hi:i < c.ps.length):XL (c.ab.getD i []) 10 2 4:=by
 rw [Zeg (show i < c.ab.length by rw [h.len];exact hi)];exact h.ab _ (ZCt _)
theorem Zd9 {c:Cb} {n:Int} (h:CbOk c n) {i:Nat} (hi:i < c.ps.length):0≤gI c.ps i∧gI c.ps i < n:=by
 rw [Zfb hi];exact h.ps _ (ZCt _)
theorem Zwz {p:Pl} {x n:Int} (h:PlOk p n) (hx:0≤x∧x < n) (hn:n≤40):XL (p.at x) 1 1 1:=by
 have:=h.q;have:=h.r;unfold Pl.at;split
 ·exact Za9 (Zan (.inl rfl) zo zo zo)
 ·split
  ·exact Za9 (Zan (.inr rfl) zo zo zo)
  ·exact Za9 (Zan (.inr rfl) zo zo zo)
theorem Zl2 {c:Cb} {p:Pl} {n:Int} (hc:CbOk c n) (hp:PlOk p n) (hn:n≤40):∀i,i≤c.ps.length→XL (afS c p i) (1+12*i) 3 (4*i)
 | 0,_=>XL.nil.mono zo zo zo
 | i+1,hi=>((Zl2 hc hp hn i zo).add ((Zh6 hc (show i < _ by omega)).mul (Zwz hp (Zd9 hc zo) hn))).mono zo zo zo
theorem Zy8 {c:Cb} {n:Int} (hc:CbOk c n) (hn:n≤40) {i j:Nat} (hi:i < c.ps.length) (hj:j < c.ps.length):XL (prT c i j) 21 5 16:=by
 have h1:=Zd9 hc hi;have h2:=Zd9 hc hj;exact(((Zh6 hc hi).mul (Zh6 hc hj)).mul (Za9 (Zan (.inr rfl) zo zo zo))).mono zo zo zo
theorem Zuv {c:Cb} {n:Int} (hc:CbOk c n) (hn:n≤40) {i:Nat} {acc:QTs} {k l:Nat} (ha:XL acc k 5 l):∀d,i+d < c.ps.length→XL (in2 c i acc d) (k+22*d) 5 (l+16*d)
 | 0,_=>ha.mono zo zo zo
 | d+1,h=>((Zuv hc hn ha d zo).sub (Zy8 hc hn (show i < _ by omega) (show i+1+d < _ by omega))).mono zo zo zo
theorem Znr {c:Cb} {n:Int} (hc:CbOk c n) (hn:n≤40) {acc:QTs} {k l:Nat} (ha:XL acc k 5 l):∀i,i≤c.ps.length→XL (out2 c c.ps.length acc i) (k+66*i) 5 (l+48*i)
 | 0,_=>ha.mono zo zo zo
 | i+1,h=>by
   have h3:=hc.few;have h1:=Zuv hc hn (Znr hc hn ha i zo) (c.ps.length - (i+1)) (i:=i) zo;exact h1.mono zo (ZCi _) zo
theorem ZB4 {c:Cb} {p:Pl} {n:Int} (hc:CbOk c n) (hp:PlOk p n) (hn:n≤40):XL (mulX c.be (afS c p c.ps.length)) 47 5 48:=by
 have h3:=hc.few;have h1:=hc.be.mul (Zl2 hc hp hn c.ps.length (ZCi _));exact h1.mono zo zo zo
theorem ZB3 {c:Cb} {p:Pl} {n:Int} (hc:CbOk c n) (hp:PlOk p n) (hn:n≤40):XL (afN c p) 245 5 192:=by
 have h3:=hc.few;unfold afN;split
 ·exact(Znr hc hn (ZB4 hc hp hn) c.ps.length (ZCi _)).mono zo (ZCi _) zo
 ·exact(Zl2 hc hp hn c.ps.length (ZCi _)).mono zo zo zo
theorem afD_xl {c:Cb} {p:Pl} {n:Int} (hc:CbOk c n):XL (afD c p) 20 4 16:=by
 unfold afD;split
 ·exact(hc.be.mul hc.be).mono zo zo zo
 ·exact hc.be.mono zo zo zo
abbrev hfX (p:QTs):QTs:=mulX (nX (1/2)) p
def tuX (s a b:Int) (p:Pl):QTs :=
 if p.k=1 then Zav (aX s p.q p.r) (hfX (subX (pX p.r p.q b) (pX p.r p.q a)))
 else if p.mid=true then Zav (pX p.q s p.r) (subX (pX a b a) (twX (subX (Zav (aX a b p.q) (aX a b p.r)) (twX (aX a b s)))))
 else Zav (pX s p.q p.r) (twX (subX (aX a b p.r) (aX a b p.q)))
def tuR (s a b:Int) (p:Pl):QTs :=
 if p.k=1 then Zav (aX s p.q p.r) (sclT (1/2) (subX (pX p.r p.q b) (pX p.r p.q a)))
 else if p.mid=true then Zav (subX (pX p.q s p.r) (sclT 2 (subX (Zav (aX a b p.q) (aX a b p.r)) (sclT 2 (aX a b s))))) (pX a b a)
 else Zav (pX s p.q p.r) (sclT 2 (subX (aX a b p.r) (aX a b p.q)))
theorem Zob {p:QTs} (h:EX p):hfX p=sclT (1/2) p:=by
 show mulX (cstT (1/2)) p=_;rw [Zoj h,ZCg (by decide +kernel)]
theorem Zjv {p:QTs} (h:EX p):twX p=sclT 2 p:=by
 show mulX (cstT 2) p=_;rw [Zoj h,ZCg (by decide +kernel)]
theorem EX.sub {p q:QTs} (hp:EX p) (hq:EX q):EX (subX p q):=Zgp Zbb hp hq.neg
theorem EX.add {p q:QTs} (hp:EX p) (hq:EX q):EX (Zav p q):=Zgp Zbb hp hq
theorem EX.scl {p:QTs} (hp:EX p) {c:Rat} (h0:c≠0):EX (sclT c p):=by
 refine⟨λt ht=>?_,List.pairwise_map.2 hp.2⟩;obtain⟨u,hu,rfl⟩:=List.mem_map.1 ht;exact⟨λh1=>(Rat.mul_eq_zero.1 h1).elim h0 (hp.1 u hu).1,(hp.1 u hu).2⟩
theorem tu_eq {s a b n:Int} {p:Pl} (hp:PlOk p n) (hn:n≤40) (hs:0≤s∧s < n) (ha:0≤a∧a < n) (hb:0≤b∧b < n):tuX s a b p=tuR s a b p:=by
 have hq:=hp.q;have hr:=hp.r;have eA:∀x y z:Int,(0≤x∧x < n)→(0≤y∧y < n)→(0≤z∧z < n)→EX (aX x y z):=λx y z h1 h2 h3=>(Za9 (Zan (.inl rfl) zo zo zo)).x.1;have eP:∀x y z:Int,(0≤x∧x < n)→(0≤y∧y < n)→(0≤z∧z < n)→EX (pX x y z):=λx y z h1 h2 h3=>(Za9 (Zan (.inr rfl) zo zo zo)).x.1;unfold tuX tuR;split
 ·rw [Zob ((eP _ _ _ hr hq hb).sub (eP _ _ _ hr hq ha))]
 ·split
  ·have e1:=eA a b s ha hb hs;have e2:=(eA a b p.q ha hb hq).add (eA a b p.r ha hb hr);rw [Zjv e1];have e3:=e2.sub (e1.scl (c:=2) zd);rw [Zjv e3];have e4:=e3.scl (c:=2) zd;have e5:=eP a b a ha hb ha;have e6:=eP p.q s p.r hq hs hr;exact Zhb (D:=okQ) Zbb (e6.add (e5.sub e4)) ((e6.sub e4).add e5) λφ=>by
    rw [Zil Zbb,Zil Zbb,Zil Zbb,Zil Zbb];generalize evl φ (sclT (-1) _)=z
    grind
  ·rw [Zjv ((eA _ _ _ ha hb hr).sub (eA _ _ _ ha hb hq))]
theorem Zjg:Sz (1/2:Rat) 1:=⟨by decide +kernel,by decide +kernel⟩
theorem tu_xl {s a b n:Int} {p:Pl} (hp:PlOk p n) (hn:n≤40) (hs:0≤s∧s < n) (ha:0≤a∧a < n) (hb:0≤b∧b < n):XL (tuX s a b p) 16 1 8:=by
 have hq:=hp.q;have hr:=hp.r;have eA:∀x y z:Int,(0≤x∧x < n)→(0≤y∧y < n)→(0≤z∧z < n)→XL (aX x y z) 1 1 1:=λx y z h1 h2 h3=>Za9 (Zan (.inl rfl) zo zo zo);have eP:∀x y z:Int,(0≤x∧x < n)→(0≤y∧y < n)→(0≤z∧z < n)→XL (pX x y z) 1 1 1:=λx y z h1 h2 h3=>Za9 (Zan (.inr rfl) zo zo zo);have c2:XL (nX 2) 2 0 1:=Zch Zeh;have ch:XL (nX (1/2)) 2 0 1:=Zch Zjg;unfold tuX;split
 ·exact((eA _ _ _ hs hq hr).add (ch.mul ((eP _ _ _ hr hq hb).sub (eP _ _ _ hr hq ha)))).mono zd zd zd
 ·split
  ·exact((eP _ _ _ hq hs hr).add ((eP _ _ _ ha hb ha).sub (c2.mul (((eA _ _ _ ha hb hq).add (eA _ _ _ ha hb hr)).sub (c2.mul (eA _ _ _ ha hb hs)))))).mono zd zd zd
  ·exact((eP _ _ _ hs hq hr).add (c2.mul ((eA _ _ _ ha hb hr).sub (eA _ _ _ ha hb hq)))).mono zd zd zd
section
variable {α:Type} {cmp:α→α→Int}
theorem Zz6 (o:CO cmp) (x:α):∀{l m:List α},Asc cmp l→Asc cmp m→l.length=m.length→lexL cmp l m < 0→lexL cmp (putQ cmp l x) (putQ cmp m x) < 0
 | [],[],_,_,_,h=>by exact absurd h (by simp [lexL])
 | [],_ :: _,_,_,h,_=>by simp at h
 | _ :: _,[],_,_,h,_=>by simp at h
 | a :: l,b :: m,hl,hm,hlen,h=>by
   rw [Zb5] at h;have fl:∀y z,¬cmp y z≤0→cmp z y < 0:=λy z h=>(o.flip z y).2 zo;by_cases hab:cmp a b=0
   ·rw [ZCh hab] at h;obtain rfl:=o.eqz _ _ hab;have ih:=Zz6 o x (List.pairwise_cons.1 hl).2 (List.pairwise_cons.1 hm).2 (by simpa using hlen) h;unfold putQ;by_cases hx:cmp a x≤0
    ·rw [ZCh hx,ZCh hx,Zb5,ZCh (o.refl a)];exact ih
    ·rw [ZCg hx,ZCg hx,Zb5,ZCh (o.refl x),Zb5,ZCh (o.refl a)];exact h
   ·rw [ZCg hab] at h;have hal:∀c∈l,cmp a c≤0:=(List.pairwise_cons.1 hl).1;unfold putQ;by_cases hx:cmp a x≤0
    ·rw [ZCh hx];by_cases hy:cmp b x≤0
     ·rw [ZCh hy,Zb5,ZCg hab];exact h
     ·rw [ZCg hy,Zb5];have hxb:=fl _ _ hy;by_cases hax:cmp a x=0
      ·rw [ZCh hax];obtain rfl:=o.eqz _ _ hax
       cases l with
       | nil =>
         show lexL cmp [a] (b :: m) < 0;rw [Zb5,ZCg hab];exact h
       | cons c l =>
         unfold putQ;by_cases hc:cmp c a≤0
         ·rw [ZCh hc,Zb5];have h1:=hal c (.head _)
          have h2:cmp a c=0:=by
           rcases Int.lt_or_eq_of_le h1 with h3 | h3
           ·have:=(o.flip a c).1 h3;omega
           ·exact h3
          obtain rfl:=o.eqz _ _ h2;rw [ZCg hab];exact h
         ·rw [ZCg hc,Zb5,ZCg hab];exact h
      ·rw [ZCg hax];omega
    ·rw [ZCg hx];have hxa:=fl _ _ hx;have hxb:=o.tr _ _ _ hxa h;have hb:¬cmp b x≤0:=by have:=(o.flip x b).1 hxb;omega
     rw [ZCg hb,Zb5,ZCh (o.refl x),Zb5,ZCg hab];exact h
theorem Zt1 (x:α) (l:List α):(putQ cmp l x).length=l.length+1:=(Zfz x l).length_eq
theorem ord_put (o:CO cmp) (x:α) {l m:List α} (hl:Asc cmp l) (hm:Asc cmp m) (h:ordL cmp l m < 0):ordL cmp (putQ cmp l x) (putQ cmp m x) < 0:=by
 unfold ordL at *;rw [Zt1,Zt1];by_cases h1:l.length < m.length
 ·rw [ZCh zo];decide
 ·rw [ZCg h1] at h;by_cases h2:m.length < l.length
  ·rw [ZCh h2] at h;exact absurd h zd
  ·rw [ZCg h2] at h;rw [ZCg zo,ZCg zo];exact Zz6 o x hl hm zo h
end
theorem mu_put (a c:List Qt) (x:Qt):muQ a (x :: c)=putQ Qt.cmp (muQ a c) x :=
 Ze8 qtO (Zby qtO.cp _) (Zkh qtO.cp x (Zby qtO.cp _)) ((Za3 _).trans ((List.perm_middle).trans (((Za3 (a++c)).symm.cons x).trans (Zfz x _).symm)))
theorem mu_nil {a:List Qt} (h:Asc Qt.cmp a):muQ a []=a:=Ze8 qtO (Zby qtO.cp _) h (by show(srtQ Qt.cmp (a++[])).Perm a;rw [ZDo];exact Za3 _)
theorem mu_lt {a b:List Qt} (ha:Asc Qt.cmp a) (hb:Asc Qt.cmp b) (h:ordQ a b < 0):∀c,ordQ (muQ a c) (muQ b c) < 0
 | []=>by rw [mu_nil ha,mu_nil hb];exact h
 | x :: c=>by
   rw [mu_put,mu_put];exact ord_put qtO x (Zby qtO.cp _) (Zby qtO.cp _) (mu_lt ha hb h c)
theorem Zkn {κ:Type} {f:κ→Rat}:∀{l:List (Rat × κ)},(∀t∈l,f t.2=0)→evl f l=0
 | [],_=>rfl
 | t :: l,h=>by
   show t.1*f t.2+evl f l=0;rw [h t (.head _),Zkn λu hu=>h u (.tail _ hu),ZGu,ZEu]
theorem mul_ne {p q:QTs} (hp:EX p) (hq:EX q) (h1:p≠[]) (h2:q≠[]):mulX p q≠[]:=by
 cases p with
 | nil=>exact absurd rfl h1
 | cons s p =>
   cases q with
   | nil=>exact absurd rfl h2
   | cons t q =>
     have dp:=hp.dom;have dq:=hq.dom;have op:∀u∈p,ordQ s.2 u.2 < 0:=(List.pairwise_cons.1 hp.2).1;have oq:∀u∈q,ordQ t.2 u.2 < 0:=(List.pairwise_cons.1 hq.2).1;intro h0;have ne:∀{a b:List Qt},ordQ a b < 0→b≠a:=λh e=>by rw [e,Zbb.refl] at h;omega
     have k1:∀u∈q,muQ s.2 u.2≠muQ s.2 t.2:=λu hu=>by
      rw [rgQ.comm s.2,rgQ.comm s.2];exact ne (mu_lt (dq t (.head _)).1 (dq u (.tail _ hu)).1 (oq u hu) s.2)
     have k2:∀u∈p,∀v∈t :: q,muQ u.2 v.2≠muQ s.2 t.2:=λu hu v hv=>by
      have a1:=mu_lt (dp s (.head _)).1 (dp u (.tail _ hu)).1 (op u hu) v.2;rcases List.mem_cons.1 hv with rfl | hv
      ·exact ne a1
      ·have a2:=mu_lt (dq t (.head _)).1 (dq v (.tail _ hv)).1 (oq v hv) s.2;rw [rgQ.comm t.2,rgQ.comm v.2] at a2;exact ne (Zbb.tr _ _ _ a2 a1)
     have e:=Zfu Zbb (λk:List Qt=>if k=muQ s.2 t.2 then (1:Rat) else 0) (s :: p) (t :: q) (mu:=muQ);have e0:mlG ordQ muQ (s :: p) (t :: q)=[]:=h0;rw [e0] at e
     have e1:evl (λk'=>if muQ s.2 k'=muQ s.2 t.2 then (1:Rat) else 0) (t :: q)=t.1:=by
      show t.1*(if muQ s.2 t.2=muQ s.2 t.2 then (1:Rat) else 0)+_=_;rw [ZCh rfl,Zkn λu hu=>ZCg (k1 u hu),ZGt,ZEu]
     have e2:evl (λk=>evl (λk'=>if muQ k k'=muQ s.2 t.2 then (1:Rat) else 0) (t :: q)) p=0:=Zkn λu hu=>Zkn λv hv=>ZCg (k2 u hu v hv);have e3:(0:Rat)=s.1*evl (λk'=>if muQ s.2 k'=muQ s.2 t.2 then (1:Rat) else 0) (t :: q)+evl (λk=>evl (λk'=>if muQ k k'=muQ s.2 t.2 then (1:Rat) else 0) (t :: q)) p:=e;rw [e1,e2,ZEu] at e3;rcases Rat.mul_eq_zero.1 e3.symm with h | h
     ·exact(hp.1 s (.head _)).1 h
     ·exact(hq.1 t (.head _)).1 h
abbrev noP (x:Int) (q:Qt):Prop:=hasQ x q=false
theorem Zmu {q:Qt} {x:Int} (h:hasQ x q=true):q.ok=true∧q.k≠3∧(x=q.a∨x=q.b∨x=q.c):=by
 unfold hasQ Qt.pts at h;split at h
 ·rename_i hk;obtain⟨y,hy,hxy⟩:=List.any_eq_true.1 h;obtain⟨n,hn,rfl⟩:=List.mem_map.1 hy;have hp:=(List.mem_filter.1 hn).2;have hxy:x=(n:Int):=by simpa using hxy
  unfold isP at hp;simp at hp;exact⟨hk.1,hk.2,zo⟩
 ·simp at h
theorem Zuw {q:Qt} {x:Int} (hok:q.ok=true) (hk:q.k≠3) (h:x=q.a∨x=q.b∨x=q.c):hasQ x q=true:=by
 have hr:0≤x∧x < 40:=by
  unfold Qt.ok at hok;simp at hok;omega
 unfold hasQ Qt.pts;rw [ZCh ⟨hok,hk⟩];refine List.any_eq_true.2 ⟨x,List.mem_map.2 ⟨x.toNat,List.mem_filter.2 ⟨List.mem_range.2 zo,?_⟩,zo⟩,by simp⟩;unfold isP;simp;omega
theorem Zkj {q:Qt} {x:Int} (hs:q.norm.2≠0) (h:hasQ x q.norm.1=true):x=q.a∨x=q.b∨x=q.c:=by
 obtain⟨_,_,h⟩:=Zmu h;obtain⟨k,a,b,c⟩:=q;unfold Qt.norm at h hs;simp only at h hs ⊢;split at h
 ·rename_i hk;rw [ZCh hk] at hs;split at h
  ·rename_i h1;rw [ZCh h1] at hs;unfold Zea at h hs;split at h
   ·rename_i h2;rw [ZCh h2] at hs;exact absurd rfl hs
   ·(repeat' split at h)<;>simp only at h<;>omega
  ·rename_i h1;rw [ZCg h1] at hs;split at h
   ·rename_i h3;rw [ZCh h3] at hs;unfold Ze9 at h hs;split at h
    ·rename_i h2;rw [ZCh h2] at hs;exact absurd rfl hs
    ·(repeat' split at h)<;>simp only at h<;>omega
   ·exact h
 ·rename_i hk;rw [ZCg hk] at hs;exact absurd rfl hs
theorem of_no {q:Qt} {x:Int} (h:q.k=3∨(x≠q.a∧x≠q.b∧x≠q.c)):alQ (noP x) (ofX q):=by
 unfold ofX;split
 ·exact λt ht=>by cases ht
 ·rename_i hs;intro t ht r hr;rw [List.mem_singleton.1 ht] at hr;rw [List.mem_singleton.1 hr]
  cases hh:hasQ x q.norm.1 with
  | false=>exact hh
  | true =>
    exfalso;rcases h with h3 | ⟨h1,h2,h3⟩
    ·obtain⟨h4,h5,_⟩:=Zmu hh;obtain⟨k,a,b,c⟩:=q;simp only at h3;subst h3;unfold Qt.norm at h5 hs;split at h5
     ·exact h5 rfl
     ·rename_i hk;rw [ZCg hk] at hs;exact hs rfl
    ·rcases Zkj hs hh with h4 | h4 | h4
     ·exact h1 h4
     ·exact h2 h4
     ·exact h3 h4
theorem a_no {x a b c:Int} (h1:x≠a) (h2:x≠b) (h3:x≠c):alQ (noP x) (aX a b c):=of_no (.inr ⟨h1,h2,h3⟩)
theorem p_no {x a b c:Int} (h1:x≠a) (h2:x≠b) (h3:x≠c):alQ (noP x) (pX a b c):=of_no (.inr ⟨h1,h2,h3⟩)
theorem alQ.sub {C:Qt→Prop} {p q:QTs} (hp:alQ C p) (hq:alQ C q):alQ C (subX p q):=hp.join (hq.scl _)
theorem alQ.emp {C:Qt→Prop}:alQ C []:=λt ht=>by cases ht
theorem cb_no {k t:Int} {a:List Int} {r:Rat} {x:Int} {c:Cb} (h:cbOf k a r t=some c) (ha:∀i,i < a.length→x≠gI a i) (h0:x≠0∨4≤a.length)
 (hl:(k=3→a.length=3)∧(k=11→a.length=3)∧(k=2∨k=5→2≤a.length)∧(k=7∨k=8∨k=10→3≤a.length)∧(k=9→4≤a.length)) :
 (∀w∈c.ab,alQ (noP x) w)∧alQ (noP x) c.be∧∀y∈c.ps,x≠y:=by
 obtain⟨l3,l11,l2,l7,l9⟩:=hl;have hmem:∀y∈a,x≠y:=λy hy=>by
  obtain⟨i,hi,rfl⟩:=ZIe hy;have:=ha i hi
  rwa [Zfb hi] at this
 have nn:∀u:Rat,alQ (noP x) (nX u):=λu=>ZBm u
 have pr:∀{y z:Int} {p b:QTs},alQ (noP x) p→alQ (noP x) b→x≠y→x≠z→(∀w∈(prC y z p b).ab,alQ (noP x) w)∧alQ (noP x) (prC y z p b).be∧∀y'∈(prC y z p b).ps,x≠y':=by
  intro y z p b hp hb hy hz;refine⟨λw hw=>?_,hb,λv hv=>?_⟩
  ·rcases List.mem_cons.1 hw with rfl | hw
   ·exact hb.sub hp
   ·rw [List.mem_singleton.1 hw];exact hp
  ·rcases List.mem_cons.1 hv with rfl | hv
   ·exact hy
   ·rw [List.mem_singleton.1 hv];exact hz
 have tri:∀{u v z:QTs} {w:QTs},alQ (noP x) u→alQ (noP x) v→alQ (noP x) z→w∈[u,v,z]→alQ (noP x) w:=by
  intro u v z w hx hy hz hw;rcases List.mem_cons.1 hw with rfl | hw
  ·exact hx
  ·rcases List.mem_cons.1 hw with rfl | hw
   ·exact hy
   ·rw [List.mem_singleton.1 hw];exact hz
 unfold cbOf at h;split at h
 ·rename_i hk;cases h;have:=l2 (.inl hk);exact pr (nn _) (nn _) (ha 0 zo) (ha 1 zo)
 split at h
 ·rename_i hk;cases h;exact⟨λw hw=>tri (nn 1) (nn (-1)) (nn 1) hw,nn 1,hmem⟩
 split at h
 ·rename_i hk;cases h;have:=l2 (.inr hk);exact pr (of_no (.inl rfl)) (nn _) (ha 0 zo) (ha 1 zo)
 split at h
 ·rename_i hk;cases h;have:=l9 hk;have p1:=a_no (ha 0 zo) (ha 2 zo) (ha 3 zo);have p2:=a_no (ha 1 zo) (ha 2 zo) (ha 3 zo);exact pr p1 (p1.sub p2) (ha 0 zo) (ha 1 zo)
 split at h
 ·rename_i hk;cases h;have:=l7 (.inl hk);exact pr (p_no (ha 0 zo) (ha 1 zo) (ha 2 zo)) (p_no (ha 2 zo) (ha 1 zo) (ha 2 zo)) (ha 1 zo) (ha 2 zo)
 split at h
 ·rename_i hk;cases h;have:=l7 (.inr (.inl hk));have p1:=p_no (ha 0 zo) (ha 1 zo) (ha 2 zo);have p2:=p_no (ha 2 zo) (ha 1 zo) (ha 2 zo);refine⟨λw hw=>tri ((nn _).mul (p2.sub p1)) ((nn _).mul p1) (alQ.emp.sub p2) hw,p2,λy hy=>?_⟩;rcases List.mem_cons.1 hy with rfl | hy
  ·exact ha 1 zo
  ·rcases List.mem_cons.1 hy with rfl | hy
   ·exact ha 2 zo
   ·rw [List.mem_singleton.1 hy];exact ha 0 zo
 split at h
 ·rename_i hk;cases h;have:=l7 (.inr (.inr hk));exact pr ((nn _).mul (p_no (ha 2 zo) (ha 0 zo) (ha 1 zo))) (p_no (ha 1 zo) (ha 0 zo) (ha 1 zo)) (ha 0 zo) (ha 1 zo)
 split at h
 ·rename_i hk;cases h;have:=l11 hk;have g0:=ha 0 zo;have g1:=ha 1 zo;have g2:=ha 2 zo;have w1:=(p_no g1 g2 g1).mul (p_no g1 g0 g2);have w2:=(p_no g2 g0 g2).mul (p_no g2 g1 g0);have w3:=(p_no g0 g1 g0).mul (p_no g0 g2 g1);exact⟨λw hw=>tri w1 w2 w3 hw,(w1.join w2).join w3,hmem⟩
 ·cases h
theorem pl_no {n:Qt} {x:Int} (hn:n.norm=(n,1)) (hx:hasQ x n=true):x≠(plOf n x).q∧x≠(plOf n x).r∧(plOf n x).k=n.k:=by
 obtain⟨_,hk,hx⟩:=Zmu hx;have hok:=Zg7 hn;obtain⟨k,a,b,c⟩:=n;simp only at hk hx
 have h1:k=1∨k=2:=by
  unfold Qt.ok at hok;simp at hok;omega
 unfold Qt.norm at hn;rw [ZCh hok] at hn;simp only at hn;unfold plOf;simp only;rcases h1 with rfl | rfl
 ·rw [ZCh rfl] at hn
  have h3:a≠b∧b≠c∧a≠c:=by
   unfold Zea at hn;split at hn
   ·simp [Qt.zero] at hn
   ·omega
  rw [ZCh rfl];split
  ·exact⟨by show x≠b;omega,by show x≠c;omega,rfl⟩
  ·split
   ·exact⟨by show x≠c;omega,by show x≠a;omega,rfl⟩
   ·exact⟨by show x≠a;omega,by show x≠b;omega,rfl⟩
 ·rw [ZCg zd,ZCh rfl] at hn
  have h3:a≠b∧b≠c:=by
   unfold Ze9 at hn;split at hn
   ·simp [Qt.zero] at hn
   ·omega
  rw [ZCg zd];split
  ·exact⟨by show x≠b;omega,by show x≠b;omega,rfl⟩
  ·split
   ·exact⟨by show x≠a;omega,by show x≠c;omega,rfl⟩
   ·split
    ·exact⟨by show x≠b;omega,by show x≠c;omega,rfl⟩
    ·exact⟨by show x≠b;omega,by show x≠a;omega,rfl⟩
theorem at_no {p:Pl} {x y:Int} (h1:x≠p.q) (h2:x≠p.r) (h3:x≠y):alQ (noP x) (p.at y):=by
 unfold Pl.at;split
 ·exact a_no h3 h1 h2
 ·split
  ·exact p_no h1 h3 h2
  ·exact p_no h3 h1 h2
section
variable {c:Cb} {p:Pl} {x:Int}
theorem ab_no (ha:∀w∈c.ab,alQ (noP x) w) (i:Nat):alQ (noP x) (c.ab.getD i []):=by
 by_cases h:i < c.ab.length
 ·rw [Zeg h];exact ha _ (ZCt h)
 ·rw [ZCx,ZD6 zo];exact alQ.emp
theorem ZB2 (ha:∀w∈c.ab,alQ (noP x) w) (hp:∀y∈c.ps,x≠y) (h1:x≠p.q) (h2:x≠p.r):∀i,i≤c.ps.length→alQ (noP x) (afS c p i)
 | 0,_=>alQ.emp
 | i+1,hi=>(ZB2 ha hp h1 h2 i zo).join ((ab_no ha i).mul (at_no h1 h2 (by rw [Zfb (show i < c.ps.length by omega)];exact hp _ (ZCt _))))
theorem prT_no (ha:∀w∈c.ab,alQ (noP x) w) (hp:∀y∈c.ps,x≠y) {i j:Nat} (hi:i < c.ps.length) (hj:j < c.ps.length):alQ (noP x) (prT c i j):=by
 have g:∀{i:Nat},i < c.ps.length→x≠gI c.ps i:=λh=>by rw [Zfb h];exact hp _ (ZCt _)
 exact((ab_no ha i).mul (ab_no ha j)).mul (p_no (g hi) (g hj) (g hi))
theorem in2_no (ha:∀w∈c.ab,alQ (noP x) w) (hp:∀y∈c.ps,x≠y) {i:Nat} {acc:QTs} (hc:alQ (noP x) acc):∀d,i+d < c.ps.length→alQ (noP x) (in2 c i acc d)
 | 0,_=>hc
 | d+1,h=>(in2_no ha hp hc d zo).sub (prT_no ha hp zo zo)
theorem Zzi (ha:∀w∈c.ab,alQ (noP x) w) (hp:∀y∈c.ps,x≠y) {acc:QTs} (hc:alQ (noP x) acc):∀i,i≤c.ps.length→alQ (noP x) (out2 c c.ps.length acc i)
 | 0,_=>hc
 | i+1,h=>in2_no ha hp (Zzi ha hp hc i zo) _ zo
theorem afN_no (ha:∀w∈c.ab,alQ (noP x) w) (hb:alQ (noP x) c.be) (hp:∀y∈c.ps,x≠y) (h1:x≠p.q) (h2:x≠p.r):alQ (noP x) (afN c p):=by
 unfold afN;split
 ·exact Zzi ha hp (hb.mul (ZB2 ha hp h1 h2 _ (ZCi _))) _ (ZCi _)
 ·exact ZB2 ha hp h1 h2 _ (ZCi _)
theorem afD_no (hb:alQ (noP x) c.be):alQ (noP x) (afD c p):=by
 unfold afD;split
 ·exact hb.mul hb
 ·exact hb
theorem afD_ne (he:EX c.be) (h0:c.be≠[]):afD c p≠[]:=by
 unfold afD;split
 ·exact mul_ne he he h0 h0
 ·exact h0
theorem tu_no {s a b:Int} (h1:x≠p.q) (h2:x≠p.r) (hs:x≠s) (ha:x≠a) (hb:x≠b):alQ (noP x) (tuX s a b p):=by
 have nn:∀u:Rat,alQ (noP x) (nX u):=λu=>ZBm u;unfold tuX;split
 ·exact(a_no hs h1 h2).join ((nn _).mul ((p_no h2 h1 hb).sub (p_no h2 h1 ha)))
 ·split
  ·exact(p_no h1 hs h2).join ((p_no ha hb ha).sub ((nn _).mul (((a_no ha hb h1).join (a_no ha hb h2)).sub ((nn _).mul (a_no ha hb hs)))))
  ·exact(p_no hs h1 h2).join ((nn _).mul ((a_no ha hb h2).sub (a_no ha hb h1)))
end
theorem Zge {α:Type} {P:List α→Prop} (h0:P []) (h1:∀l a,P l→P (l++[a])):∀l,P l:=λl=>by
 have h:∀l:List α,P l.reverse:=λl=>by
  induction l with
  | nil=>exact h0
  | cons a l ih=>rw [List.reverse_cons];exact h1 _ _ ih
 have g:=h l.reverse
 rwa [List.reverse_reverse] at g
theorem Zq4 {q:Qt} {l:List Qt}:tmQ q l=0↔q ∉ l:=by
 unfold tmQ;rw [List.length_eq_zero_iff,List.filter_eq_nil_iff];constructor
 ·intro h hq;exact h q hq zs
 ·intro h x hx hd;have:x=q:=by simpa using hd
  exact h (this ▸ hx)
def hvS (x:Int) (s:List Qt × List Qt) (q:Qt):List Qt × List Qt:=(s.1++[q],if tmQ q s.1=0∧hasQ x q=true then s.2++[q] else s.2)
def hvP (x:Int) (l:List Qt):List Qt:=(l.foldl (hvS x) ([],[])).2
def hvR (x:Int) (o:List Qt) (q:Qt):List Qt:=if hasQ x q=true∧tmQ q o=0 then putQ Qt.cmp o q else o
def hvL (x:Int) (l:List Qt):List Qt:=l.foldl (hvR x) []
theorem ZAi (x:Int):∀(l:List Qt) (s:List Qt × List Qt),(l.foldl (hvS x) s).1=s.1++l
 | [],s=>(ZDo _).symm
 | q :: l,s=>by rw [ZHd,ZAi x l];show(s.1++[q])++l=_;rw [ZDv];rfl
theorem Zi5 (x:Int) (l:List Qt) (q:Qt):hvP x (l++[q])=if tmQ q l=0∧hasQ x q=true then hvP x l++[q] else hvP x l:=by
 unfold hvP;rw [ZGm];show(hvS x (l.foldl (hvS x) ([],[])) q).2=_;unfold hvS;simp only;have h:=ZAi x l ([],[]);rw [ZFu] at h;unfold hvS at h;rw [h]
theorem Zkm (x:Int) (l:List Qt) (q:Qt):hvL x (l++[q])=hvR x (hvL x l) q:=by
 unfold hvL;rw [ZGm];rfl
theorem Zz3 {x:Int} {q:Qt}:∀l,q∈hvP x l↔q∈l∧hasQ x q=true:=by
 refine Zge ?_ λl a ih=>?_
 ·show q∈([]:List Qt)↔_;simp
 ·rw [Zi5,ZFy,ZHb];split
  ·rename_i h;rw [ZFy,ZHb,ih];constructor
   ·rintro (⟨h1,h2⟩ | h1)
    ·exact⟨.inl h1,h2⟩
    ·exact⟨.inr h1,h1 ▸ h.2⟩
   ·rintro ⟨h1 | h1,h2⟩
    ·exact .inl ⟨h1,h2⟩
    ·exact .inr h1
  ·rename_i h;rw [ih];constructor
   ·rintro ⟨h1,h2⟩;exact⟨.inl h1,h2⟩
   ·rintro ⟨h1 | h1,h2⟩
    ·exact⟨h1,h2⟩
    ·subst h1;refine⟨Classical.byContradiction λh3=>h ⟨Zq4.2 h3,h2⟩,h2⟩
theorem Zsk {x:Int}:∀l,(hvP x l).Perm (hvL x l):=by
 refine Zge (List.Perm.refl _) λl a ih=>?_;rw [Zi5,Zkm];unfold hvR
 have e:tmQ a l=0∧hasQ x a=true↔hasQ x a=true∧tmQ a (hvL x l)=0:=by
  rw [Zq4,Zq4,←ih.mem_iff,Zz3];constructor
  ·rintro ⟨h1,h2⟩;exact⟨h2,λh=>h1 h.1⟩
  ·rintro ⟨h1,h2⟩;exact⟨λh=>h2 ⟨h,h1⟩,h1⟩
 by_cases h:tmQ a l=0∧hasQ x a=true
 ·rw [ZCh h,ZCh (e.1 h)];exact((ih.append_right _).trans List.perm_append_comm).trans (Zfz a _).symm
 ·rw [ZCg h,ZCg λg=>h (e.2 g)];exact ih
theorem ZAj {x:Int}:∀l,Asc Qt.cmp (hvL x l):=by
 refine Zge List.Pairwise.nil λl a ih=>?_;rw [Zkm];unfold hvR;split
 ·exact Zkh qtO.cp a ih
 ·exact ih
theorem hv_eq (x:Int) (l:List Qt):srtQ Qt.cmp (hvP x l)=hvL x l:=Ze8 qtO (Zby qtO.cp _) (ZAj l) ((Za3 _).trans (Zsk l))
theorem Zsd {x:Int} {q:Qt} {l:List Qt}:q∈hvL x l↔q∈l∧hasQ x q=true:=by rw [←(Zsk l).mem_iff,Zz3]
theorem Zsl (x:Int):∀l,(hvP x l).length≤l.length:=by
 refine Zge (ZCi _) λl a ih=>?_;rw [Zi5,ZDa];split
 ·rw [ZDa];exact Nat.add_le_add_right ih _
 ·omega
theorem Zoa (x:Int) (l:List Qt):(hvL x l).length≤l.length:=by rw [←(Zsk l).length_eq];exact Zsl x l
def flQ (p:QTs):List Qt:=p.flatMap λt=>t.2
theorem Znz {p:QTs} {q:Qt}:q∈flQ p↔∃t∈p,q∈t.2:=List.mem_flatMap
def rsX (p q:QTs):Nat→QTs
 | 0=>p
 | n+1=>mulX (rsX p q n) q
theorem rs_pw {p q:QTs} (hp:EX p) (hq:EX q):∀n,rsX p q n=mulX p (pwX q n)
 | 0=>(Zz0 rgQ hp).symm
 | n+1=>by
   show mulX (rsX p q n) q=mulX p (mulX (pwX q n) q);rw [rs_pw hp hq n];exact Zix rgQ hp (Zig rgQ hq n) hq
abbrev XX:=QTs × QTs
def elS (q:Qt) (b x:XX):XX:=(mulX (rpN q x.1 b.1 b.2) (pwX b.2 (moQ q x.2 - moQ q x.1)),mulX (rpN q x.2 b.1 b.2) (pwX b.2 (moQ q x.1 - moQ q x.2)))
def elF (lem:Qt→Int × XX):List Qt→XX→Int × XX
 | [],x=>(0,x)
 | q :: l,x =>
   if (lem q).1≠0 then ((lem q).1,([],[]))
   else if 4000 < (elS q (lem q).2 x).1.length∨4000 < (elS q (lem q).2 x).2.length then (4,([],[]))
   else elF lem l (elS q (lem q).2 x)
def elT (r:Int × XX):Int × XX :=
 if r.1≠0 then (r.1,([],[]))
 else if r.2.2=[] then (3,([],[]))
 else if r.2.1=[] then (0,([],[((1:Rat),[])]))
 else (0,r.2)
def cntX (x:Int) (c:Nat) (p:QTs):Prop:=∀t∈p,(t.2.filter λq=>hasQ x q).length≤c
section
variable {x:Int} {c d:Nat} {p q:QTs}
theorem cntX.mono (h:cntX x c p) (hc:c≤d):cntX x d p:=λt ht=>ZCk (h t ht) hc
theorem cntX.join (hp:cntX x c p) (hq:cntX x c q):cntX x c (Zav p q):=λt ht=>by
 obtain⟨s,hs,e⟩:=Ziz ht;rw [e];rcases List.mem_append.1 hs with h | h
 ·exact hp s h
 ·exact hq s h
theorem cntX.gat {l:QTs} (h:cntX x c l):cntX x c (gatM l):=by
 rw [←Zr7];intro t ht;exact Zjp (P:=λy=>(y.filter λq=>hasQ x q).length≤c) l [] (λt ht=>by cases ht) h t (List.mem_filter.1 ((Za3 _).mem_iff.1 ht)).1
theorem cntX.mul (hp:cntX x c p) (hq:cntX x d q):cntX x (c+d) (mulX p q):=cntX.gat λu hu=>by
 obtain⟨s,hs,t,ht,rfl⟩:=Zf0 hu;show((muQ s.2 t.2).filter _).length≤_;rw [((Za3 (cmp:=Qt.cmp) (s.2++t.2)).filter _).length_eq,ZFe,ZDa];exact ZDt (hp s hs) (hq t ht)
theorem cntX.part {a:QTs} (h:cntX x c a) (q:Qt) (k:Nat):cntX x c (paQ q a k):=cntX.gat λu hu=>by
 obtain⟨t,ht,rfl⟩:=Ziy hu;refine ZCk ?_ (h t ht);show((woQ q t.2).filter _).length≤_;exact((List.filter_sublist (p:=λx=>decide (x≠q)) (l:=t.2)).filter _).length_le
theorem Zu7 (h:alQ (noP x) p):cntX x 0 p:=λt ht=>by
 rw [List.filter_eq_nil_iff.2 λq hq=>by rw [h t ht q hq];decide];exact ZCi _
theorem cntX.rf {P:Nat→QTs} {a d:QTs} (hP:∀k,cntX x c (P k)) (ha:alQ (noP x) a) (hd:alQ (noP x) d) (m:Nat):∀i,cntX x c (rfX P a d m i)
 | 0=>λt ht=>by cases ht
 | i+1=>(cntX.rf hP ha hd m i).join (((hP i).mul (Zu7 (ha.pw i))).mul (Zu7 (hd.pw (m - i))))
theorem tm_cnt {q:Qt} (hq:hasQ x q=true) (l:List Qt):tmQ q l≤(l.filter λq=>hasQ x q).length:=by
 unfold tmQ
 induction l with
 | nil=>exact ZCi _
 | cons a l ih =>
   by_cases h:a=q
   ·subst h;rw [ZF4 zs,ZF4 (by simpa using hq),ZCu,ZCu];omega
   ·rw [ZF3 (by simpa using h),ZFo];split
    ·rw [ZCu];omega
    ·exact ih
theorem mo_cnt {q:Qt} (hq:hasQ x q=true) {a:QTs} (h:cntX x c a):moQ q a≤c:=by
 have key:∀(a:QTs) (n:Nat),n≤c→(∀t∈a,tmQ q t.2≤c)→a.foldl (λn t=>max n (tmQ q t.2)) n≤c:=by
  intro a
  induction a with
  | nil=>intro n hn _;exact hn
  | cons t a ih=>intro n hn h;exact ih _ (Nat.max_le.2 ⟨hn,h t (.head _)⟩) λu hu=>h u (.tail _ hu)
 exact key a 0 (ZCr _) λt ht=>ZCk (tm_cnt hq t.2) (h t ht)
end
theorem Zzd {C:Qt→Prop} {a:QTs} (h:alQ C a) (q:Qt) (k:Nat):alQ (λu=>C u∧u≠q) (paQ q a k):=alQ.gat λu hu x hx=>by
 obtain⟨t,ht,rfl⟩:=Ziy hu;have g:=List.mem_filter.1 hx;exact⟨h t ht x g.1,by simpa using g.2⟩
theorem alQ.imp {C D:Qt→Prop} {p:QTs} (h:alQ C p) (g:∀q,C q→D q):alQ D p:=λt ht q hq=>g q (h t ht q hq)
theorem el_al {C:Qt→Prop} {x:Int} {q:Qt} {b y:XX} (h1:alQ C y.1) (h2:alQ C y.2) (hb:alQ (noP x) b.1) (hd:alQ (noP x) b.2) :
 alQ (λu=>C u∧u≠q∨noP x u) (elS q b y).1∧alQ (λu=>C u∧u≠q∨noP x u) (elS q b y).2:=by
 have g1:=hb.imp (D:=λu=>C u∧u≠q∨noP x u) λu h=>.inr h;have g2:=hd.imp (D:=λu=>C u∧u≠q∨noP x u) λu h=>.inr h;exact⟨(alQ.rf (λk=>(Zzd h1 q k).imp λu h=>.inl h) g1 g2 _ _).mul (g2.pw _),(alQ.rf (λk=>(Zzd h2 q k).imp λu h=>.inl h) g1 g2 _ _).mul (g2.pw _)⟩
theorem el_cnt {c:Nat} {x:Int} {q:Qt} {b y:XX} (h1:cntX x c y.1) (h2:cntX x c y.2) (hb:alQ (noP x) b.1) (hd:alQ (noP x) b.2):cntX x c (elS q b y).1∧cntX x c (elS q b y).2 :=
 ⟨(cntX.rf (λk=>h1.part q k) hb hd _ _).mul (Zu7 (hd.pw _)),(cntX.rf (λk=>h2.part q k) hb hd _ _).mul (Zu7 (hd.pw _))⟩
theorem el_xb {x:Int} {q:Qt} {b y:XX} {k n kb nb:Nat} (h1:XB y.1 k n) (h2:XB y.2 k n) (hb:XB b.1 kb nb) (hd:XB b.2 kb nb) (m1:moQ q y.1≤2) (m2:moQ q y.2≤2) :
 XB (elS q b y).1 (k+2+6*kb) (n+4*nb)∧XB (elS q b y).2 (k+2+6*kb) (n+4*nb):=by
 have key:∀{p:QTs} {i:Nat},XB p k n→moQ q p≤2→i≤2→XB (mulX (rpN q p b.1 b.2) (pwX b.2 i)) (k+2+6*kb) (n+4*nb):=by
  intro p i hp hm hi;have g:=(rf_xb hp hb hd q (moQ q p) (moQ q p+1) zo (ZCi _)).mul (hd.pw i);have e1:moQ q p*(2*kb)≤2*(2*kb):=ZCw _ hm;have e2:moQ q p*nb≤2*nb:=ZCw _ hm;have e3:i*kb≤2*kb:=ZCw _ hi;have e4:i*nb≤2*nb:=ZCw _ hi;exact g.mono zo zo
 exact⟨key h1 m1 zo,key h2 m2 zo⟩
theorem Zjk (q:Qt):(ofX q).length≤1:=by unfold ofX;split<;>simp
theorem Zee (p q:QTs):(subX p q).length≤p.length+q.length:=ZCk (Zfo _ _) (by rw [Zco];exact ZCi _)
theorem Zmp {p q:QTs} {i j:Nat} (hp:p.length≤i) (hq:q.length≤j):(mulX p q).length≤i*j:=ZCk (Zc4 p q) (ZDe hp hq)
theorem Ztb {p:QTs} {i:Nat} (h:p.length≤i):(twX p).length≤i:=by have:=Zmp (Zgm 2) h;rwa [ZEp] at this
theorem at_len (p:Pl) (x:Int):(p.at x).length≤1:=by
 unfold Pl.at;split
 ·exact Zjk _
 ·split<;>exact Zjk _
def CbL (c:Cb):Prop :=
 c.be.length≤3∧((∃u v,c.ab=[u,v]∧c.ps.length=2∧u.length+v.length≤4∧c.be.length*(u.length+v.length)+u.length*v.length≤12) ∨
  (∃u v w,c.ab=[u,v,w]∧c.ps.length=3∧u.length+v.length+w.length≤4∧c.be.length*(u.length+v.length+w.length)+u.length*v.length+u.length*w.length+v.length*w.length≤12))
theorem cl2 {ps:List Int} {u v b:QTs} {i j m:Nat} (hp:ps.length=2) (hu:u.length≤i) (hv:v.length≤j) (hb:b.length≤m) (h1:m≤3) (h2:i+j≤4) (h3:m*(i+j)+i*j≤12):CbL ⟨ps,[u,v],b⟩:=by
 refine⟨ZCk hb h1,.inl ⟨u,v,rfl,hp,zo,?_⟩⟩;exact ZCk (ZDt (ZDe hb (ZDt hu hv)) (ZDe hu hv)) h3
theorem cl3 {ps:List Int} {u v w b:QTs} {i j k m:Nat} (hp:ps.length=3) (hu:u.length≤i) (hv:v.length≤j) (hw:w.length≤k) (hb:b.length≤m) (h1:m≤3) (h2:i+j+k≤4) (h3:m*(i+j+k)+i*j+i*k+j*k≤12):CbL ⟨ps,[u,v,w],b⟩:=by
 refine⟨ZCk hb h1,.inr ⟨u,v,w,rfl,hp,zo,?_⟩⟩;exact ZCk (ZDt (ZDt (ZDt (ZDe hb (ZDt (ZDt hu hv) hw)) (ZDe hu hv)) (ZDe hu hw)) (ZDe hv hw)) h3
theorem ZBv {k t:Int} {a:List Int} {r:Rat} {c:Cb} (h:cbOf k a r t=some c) (h3:k=3∨k=11→a.length=3):CbL c:=by
 have o:=Zjk;have n1:∀u,(nX u).length≤1:=λu=>Zgm u;have ct:∀p q r,(ctW p q r).length≤1:=λp q r=>Zmp (o _) (o _);unfold cbOf at h;split at h
 ·cases h;exact cl2 (i:=2) (j:=1) (m:=1) rfl (ZCk (Zee _ _) (ZDt (n1 _) (n1 _))) (n1 _) (n1 _) zd zd zd
 split at h
 ·rename_i hk;cases h;exact cl3 (i:=1) (j:=1) (k:=1) (m:=1) (h3 (.inl hk)) (n1 _) (n1 _) (n1 _) (n1 _) zd zd zd
 split at h
 ·cases h;exact cl2 (i:=2) (j:=1) (m:=1) rfl (ZCk (Zee _ _) (ZDt (n1 _) (o _))) (o _) (n1 _) zd zd zd
 split at h
 ·cases h;have hs:=ZCk (Zee (aX (gI a 0) (gI a 2) (gI a 3)) (aX (gI a 1) (gI a 2) (gI a 3))) (ZDt (o _) (o _));exact cl2 (i:=3) (j:=1) (m:=2) rfl (ZCk (Zee _ _) (ZDt hs (o _))) (o _) hs zd zd zd
 split at h
 ·cases h;exact cl2 (i:=2) (j:=1) (m:=1) rfl (ZCk (Zee _ _) (ZDt (o _) (o _))) (o _) (o _) zd zd zd
 split at h
 ·cases h;exact cl3 (i:=2) (j:=1) (k:=1) (m:=1) rfl (Ztb (ZCk (Zee _ _) (ZDt (o _) (o _)))) (Ztb (o _)) (ZCk (Zee _ _) (ZDt (ZCi 0) (o _))) (o _) zd zd zd
 split at h
 ·cases h;exact cl2 (i:=2) (j:=1) (m:=1) rfl (ZCk (Zee _ _) (ZDt (o _) (Ztb (o _)))) (Ztb (o _)) (o _) zd zd zd
 split at h
 ·rename_i hk;cases h;exact cl3 (i:=1) (j:=1) (k:=1) (m:=3) (h3 (.inr hk)) (ct _ _ _) (ct _ _ _) (ct _ _ _) (ZCk (Zfo _ _) (ZDt (ZCk (Zfo _ _) (ZDt (ct _ _ _) (ct _ _ _))) (ct _ _ _))) zd zd zd
 ·cases h
theorem Zfv (c:Cb) (p:Pl) (i:Nat):(afS c p (i+1)).length≤(afS c p i).length+(c.ab.getD i []).length :=
 ZCk (Zfo _ _) (Nat.add_le_add_left (by have:=Zmp (ZCi (c.ab.getD i []).length) (at_len p (gI c.ps i));rwa [ZFa] at this) _)
theorem Znq (c:Cb) (i j:Nat):(prT c i j).length≤(c.ab.getD i []).length*(c.ab.getD j []).length:=by
 have:=Zmp (Zc4 (c.ab.getD i []) (c.ab.getD j [])) (Zjk ⟨2,gI c.ps i,gI c.ps j,gI c.ps i⟩)
 rwa [ZFa] at this
theorem af_len {c:Cb} (p:Pl) (h:CbL c):(afN c p).length≤12∧(afD c p).length≤9:=by
 obtain⟨hb,h⟩:=h;refine⟨?_,?_⟩
 ·rcases h with⟨u,v,e,hp,h1,h2⟩ | ⟨u,v,w,e,hp,h1,h2⟩
  ·have s1:=Zfv c p 0;have s2:=Zfv c p 1;rw [e] at s1 s2;have s0:(afS c p 0).length=0:=rfl;have s1:(afS c p 1).length≤(afS c p 0).length+u.length:=s1;have s2:(afS c p 2).length≤(afS c p 1).length+v.length:=s2;unfold afN;rw [hp];split
   ·have t1:=Znq c 0 1;rw [e] at t1;have t1:(prT c 0 1).length≤u.length*v.length:=t1;have m1:(mulX c.be (afS c p 2)).length≤c.be.length*(u.length+v.length):=ZCk (Zc4 _ _) (ZEc _ zo);have g:=Zee (mulX c.be (afS c p 2)) (prT c 0 1);show(subX (mulX c.be (afS c p 2)) (prT c 0 1)).length≤12;omega
   ·omega
  ·have s1:=Zfv c p 0;have s2:=Zfv c p 1;have s3:=Zfv c p 2;rw [e] at s1 s2 s3;have s0:(afS c p 0).length=0:=rfl;have s1:(afS c p 1).length≤(afS c p 0).length+u.length:=s1;have s2:(afS c p 2).length≤(afS c p 1).length+v.length:=s2;have s3:(afS c p 3).length≤(afS c p 2).length+w.length:=s3;unfold afN;rw [hp];split
   ·have t1:=Znq c 0 1;have t2:=Znq c 0 2;have t3:=Znq c 1 2;rw [e] at t1 t2 t3;have t1:(prT c 0 1).length≤u.length*v.length:=t1;have t2:(prT c 0 2).length≤u.length*w.length:=t2;have t3:(prT c 1 2).length≤v.length*w.length:=t3;have m1:(mulX c.be (afS c p 3)).length≤c.be.length*(u.length+v.length+w.length):=ZCk (Zc4 _ _) (ZEc _ zo);have g1:=Zee (mulX c.be (afS c p 3)) (prT c 0 1);have g2:=Zee (subX (mulX c.be (afS c p 3)) (prT c 0 1)) (prT c 0 2);have g3:=Zee (subX (subX (mulX c.be (afS c p 3)) (prT c 0 1)) (prT c 0 2)) (prT c 1 2);show(subX (subX (subX (mulX c.be (afS c p 3)) (prT c 0 1)) (prT c 0 2)) (prT c 1 2)).length≤12
    omega
   ·omega
 ·unfold afD;split
  ·exact ZCk (Zmp hb hb) zd
  ·omega
def lmX (k:Int) (a:List Int) (r:Rat) (t x:Int) (q:Qt):Int × XX :=
 if q.norm.2=0∨hasQ x q.norm.1=false then (0,(ofX q,[((1:Rat),[])]))
 else if k=4 then (0,(sclT (q.norm.2:Rat) (tuX (gI a 0) (gI a 1) (gI a 2) (plOf q.norm.1 x)),[((1:Rat),[])]))
 else match cbOf k a r t with
  | none=>(8,([],[]))
  | some c=>if c.be=[] then (3,([],[])) else (0,(sclT (q.norm.2:Rat) (afN c (plOf q.norm.1 x)),afD c (plOf q.norm.1 x)))
structure LmOk (x:Int) (b:XX):Prop where
 xn:XB b.1 245 5
 xd:XB b.2 245 5
 ln:b.1.length≤12
 ld:b.2.length≤12
 nn:alQ (noP x) b.1
 nd:alQ (noP x) b.2
 ne:b.2≠[]
structure StA (k t x n:Int) (a:List Int) (r:Rat):Prop where
 n40:n≤40
 sz:Sz r 2
 rg:∀i,i < a.length→0≤gI a i∧gI a i < n
 lt:∀i,i < a.length→gI a i < x
 tr:0≤t∧t < 64
 l:(k=3→a.length=3)∧(k=11→a.length=3)∧(k=2∨k=5→2≤a.length)∧(k=7∨k=8∨k=10→3≤a.length)∧(k=9→4≤a.length)
 l4:k=4→a.length=3
theorem Znv {q:Qt} {n:Int} (hs:q.norm.2≠0) (h:0≤q.norm.1.a∧q.norm.1.a < n∧0≤q.norm.1.b∧q.norm.1.b < n∧0≤q.norm.1.c∧q.norm.1.c < n) (x:Int):PlOk (plOf q.norm.1 x) n:=pl_ok ⟨h.1,h.2.1⟩ ⟨h.2.2.1,h.2.2.2.1⟩ ⟨h.2.2.2.2.1,h.2.2.2.2.2⟩
theorem alQ.sg {C:Qt→Prop} {p:QTs} (h:alQ C p) (s:Int):alQ C (sclT (s:Rat) p):=h.scl _
theorem xb_sg {p:QTs} {k n:Nat} (h:XB p k n) {s:Int} (hs:s=-1∨s=1):XB (sclT (s:Rat) p) k n:=by
 rcases hs with rfl | rfl
 ·exact h.neg
 ·show XB (sclT 1 p) k n;rw [Zk1];exact h
theorem Zzr (x:Int):alQ (noP x) [((1:Rat),[])]:=λt ht q hq=>by rw [List.mem_singleton.1 ht] at hq;cases hq
theorem lm_ok {k t x n:Int} {a:List Int} {r:Rat} {q:Qt} (hs:StA k t x n a r) (hq:q.ok=true)
 (hp:q.norm.2≠0→hasQ x q.norm.1=true→0≤q.norm.1.a∧q.norm.1.a < n∧0≤q.norm.1.b∧q.norm.1.b < n∧0≤q.norm.1.c∧q.norm.1.c < n) (h0:(lmX k a r t x q).1=0):LmOk x (lmX k a r t x q).2:=by
 have one:XB [((1:Rat),[])] 245 5:=Zs3.mono zd zd;unfold lmX at *;split
 ·rename_i h;have ho:=Za9 hq;refine⟨ho.x.mono zd zd,one,ZCk (Zjk q) zd,by show 1≤12;decide,?_,Zzr x,by simp⟩;unfold ofX;split
  ·exact alQ.emp
  ·rename_i h1;rcases h with h | h
   ·exact absurd h h1
   ·intro u hu v hv;rw [List.mem_singleton.1 hu] at hv;rw [List.mem_singleton.1 hv];exact h
 ·rename_i h;rw [ZCg h] at h0;have h1:q.norm.2≠0:=λg=>h (.inl g)
  have h2:hasQ x q.norm.1=true:=by
   cases g:hasQ x q.norm.1 with
   | true=>rfl
   | false=>exact absurd (.inr g) h
  have hsg:q.norm.2=-1∨q.norm.2=1:=by
   rcases Zgi q with g | g | g
   ·exact .inl g
   ·exact absurd g h1
   ·exact .inr g
  have hpl:=Znv h1 (hp h1 h2) x;obtain⟨n1,n2,_⟩:=pl_no (Zr3 hq h1) h2;have hxa:∀i,i < a.length→x≠gI a i:=λi hi=>by have:=hs.lt i hi;omega
  split
  ·rename_i hk;have l4:=hs.l4 hk;have g:=tu_xl hpl hs.n40 (hs.rg 0 zo) (hs.rg 1 zo) (hs.rg 2 zo);refine⟨xb_sg (g.x.mono zd zd) hsg,one,by show(sclT _ _).length≤_;rw [Zco];exact ZCk g.l zd,by show 1≤12;decide,(tu_no n1 n2 (hxa 0 zo) (hxa 1 zo) (hxa 2 zo)).sg _,Zzr x,by simp⟩
  ·rename_i hk;rw [ZCg hk] at h0
   cases hc:cbOf k a r t with
   | none=>rw [hc] at h0;exact absurd (show(8:Int)=0 from h0) zd
   | some c =>
     rw [hc] at h0;simp only at h0 ⊢;by_cases hb:c.be=[]
     ·rw [ZCh hb] at h0;exact absurd h0 zd
     ·rw [ZCg hb];have ok:=Zl0 hc hs.sz hs.rg hs.n40 hs.tr hs.l
      have hx0:x≠0∨4≤a.length:=by
       have hl:0 < a.length:=by
        rcases ZDr a.length with g | g
        ·obtain⟨l3,l11,l2,l7,l9⟩:=hs.l;exfalso;unfold cbOf at hc;split at hc
         ·have:=l2 (.inl ‹_›);omega
         split at hc
         ·have:=l3 ‹_›;omega
         split at hc
         ·have:=l2 (.inr ‹_›);omega
         split at hc
         ·have:=l9 ‹_›;omega
         split at hc
         ·have:=l7 (.inl ‹_›);omega
         split at hc
         ·have:=l7 (.inr (.inl ‹_›));omega
         split at hc
         ·have:=l7 (.inr (.inr ‹_›));omega
         split at hc
         ·have:=l11 ‹_›;omega
         ·cases hc
        ·exact g
       have:=hs.lt 0 hl;have:=hs.rg 0 hl;exact .inl zo
      obtain⟨c1,c2,c3⟩:=cb_no hc hxa hx0 hs.l;have hl:=af_len (plOf q.norm.1 x) (ZBv hc (λg=>by rcases g with g | g;exact hs.l.1 g;exact hs.l.2.1 g));have an:=ZB3 ok hpl hs.n40;have ad:=afD_xl (p:=plOf q.norm.1 x) ok;exact⟨xb_sg (an.x.mono zd zd) hsg,ad.x.mono zd zd,by show(sclT _ _).length≤_;rw [Zco];exact hl.1,ZCk hl.2 zd,(afN_no c1 c2 c3 n1 n2).sg _,afD_no c2,afD_ne ok.be.x.1 hb⟩
structure EI (x:Int) (l:List Qt) (K N:Nat) (y:XX):Prop where
 x1:XB y.1 K N
 x2:XB y.2 K N
 l1:y.1.length≤4000
 l2:y.2.length≤4000
 c1:cntX x 2 y.1
 c2:cntX x 2 y.2
 a1:alQ (λu=>hasQ x u=true→u∈l) y.1
 a2:alQ (λu=>hasQ x u=true→u∈l) y.2
theorem EI.mo {x:Int} {l:List Qt} {K N:Nat} {y:XX} (h:EI x l K N y) {q:Qt} (hq:hasQ x q=true):moQ q y.1≤2∧moQ q y.2≤2:=⟨mo_cnt hq h.c1,mo_cnt hq h.c2⟩
theorem EI.step {x:Int} {l:List Qt} {K N:Nat} {y b:XX} {q:Qt} (h:EI x (q :: l) K N y) (hq:hasQ x q=true) (hb:LmOk x b) (l1:(elS q b y).1.length≤4000) (l2:(elS q b y).2.length≤4000) :
 EI x l (K+1472) (N+20) (elS q b y):=by
 obtain⟨m1,m2⟩:=h.mo hq;obtain⟨e1,e2⟩:=el_xb (x:=x) h.x1 h.x2 hb.xn hb.xd m1 m2;obtain⟨c1,c2⟩:=el_cnt (q:=q) h.c1 h.c2 hb.nn hb.nd;obtain⟨a1,a2⟩:=el_al (q:=q) h.a1 h.a2 hb.nn hb.nd
 have key:∀u,((hasQ x u=true→u∈q :: l)∧u≠q∨noP x u)→hasQ x u=true→u∈l:=by
  intro u hu hx;rcases hu with⟨h1,h2⟩ | h1
  ·rcases List.mem_cons.1 (h1 hx) with h3 | h3
   ·exact absurd h3 h2
   ·exact h3
  ·rw [h1] at hx;exact absurd hx zd
 exact⟨e1.mono zo zo,e2.mono zo zo,l1,l2,c1,c2,a1.imp key,a2.imp key⟩
theorem EI.fin {x:Int} {K N:Nat} {y:XX} (h:EI x [] K N y):alQ (noP x) y.1∧alQ (noP x) y.2:=by
 have key:∀u,(hasQ x u=true→u∈([]:List Qt))→noP x u:=λu hu=>by
  cases g:hasQ x u with
  | false=>exact g
  | true=>cases hu g
 exact⟨h.a1.imp key,h.a2.imp key⟩
theorem EI.beg {x:Int} {K N:Nat} {n d:QTs} (h1:XB n K N) (h2:XB d K N) (l1:n.length≤4000) (l2:d.length≤4000) (c1:∀t∈n,t.2.length≤2) (c2:∀t∈d,t.2.length≤2):EI x (hvL x (flQ n++flQ d)) K N (n,d) :=
 ⟨h1,h2,l1,l2,λt ht=>ZCk (ZG5 _ _) (c1 t ht),λt ht=>ZCk (ZG5 _ _) (c2 t ht),
  λt ht q hq hx=>Zsd.2 ⟨List.mem_append.2 (.inl (Znz.2 ⟨t,ht,hq⟩)),hx⟩,λt ht q hq hx=>Zsd.2 ⟨List.mem_append.2 (.inr (Znz.2 ⟨t,ht,hq⟩)),hx⟩⟩
theorem el_run {x:Int} {lem:Qt→Int × XX}:∀{l:List Qt} {K N:Nat} {y z:XX},elF lem l y=(0,z)→EI x l K N y→(∀q∈l,hasQ x q=true∧((lem q).1=0→LmOk x (lem q).2))→EI x [] (K+l.length*1472) (N+l.length*20) z
 | [],K,N,y,z,h,hy,_=>by
   have:y=z:=by cases h;rfl
   subst this;rw [ZC6,ZE6];exact hy
 | q :: l,K,N,y,z,h,hy,hl=>by
   unfold elF at h;obtain⟨hq,hb⟩:=hl q (.head _);split at h
   ·rename_i h0;exact absurd (ZD2 Prod.fst h) h0
   ·rename_i h0;have h0:(lem q).1=0:=Classical.not_not.1 h0;split at h
    ·exact absurd (ZD2 Prod.fst h) (by show ¬(4:Int)=0;decide)
    ·rename_i h1;have g:=el_run h (hy.step hq (hb h0) zo zo) λu hu=>hl u (.tail _ hu);rw [ZCu];have e1:K+(l.length+1)*1472=K+1472+l.length*1472:=zo;have e2:N+(l.length+1)*20=N+20+l.length*20:=zo;rw [e1,e2];exact g
theorem el_free {x:Int} {K N:Nat} {r:Int × XX} {w:XX} (h:elT r=(0,w)) (hr:r.1=0→EI x [] K N r.2) (hK:1≤K):w.2≠[]∧alQ (noP x) w.1∧alQ (noP x) w.2∧XB w.1 K N∧XB w.2 K N∧w.1.length≤4000∧w.2.length≤4000:=by
 unfold elT at h;split at h
 ·rename_i h0;exact absurd (ZD2 Prod.fst h) h0
 ·rename_i h0;have g:=hr (Classical.not_not.1 h0);split at h
  ·exact absurd (ZD2 Prod.fst h) (by show ¬(3:Int)=0;decide)
  ·rename_i h1;split at h
   ·cases h;exact⟨by simp,alQ.emp,Zzr x,Zmb.mono hK (ZCr _),Zs3.mono hK (ZCr _),by decide,by show 1≤4000;decide⟩
   ·cases h;exact⟨h1,g.fin.1,g.fin.2,g.x1,g.x2,g.l1,g.l2⟩
theorem rs_len {d:QTs} {L:Nat} (hd:d.length≤L) (p:QTs):∀i,(rsX p d i).length≤p.length*L ^ i
 | 0=>by rw [ZGg,ZFa];exact ZCi _
 | i+1=>ZCk (Zmp (rs_len hd p i) hd) (by rw [ZDk,ZDm];exact ZCi _)
theorem Ztn {q:Qt} {p:QTs} {b:XX} (lp:p.length≤4000) (l1:b.1.length≤12) (l2:b.2.length≤12) {i:Nat} (hm:moQ q p+i≤2):(rsX (rpN q p b.1 b.2) b.2 i).length≤1728000:=by
 refine ZCk (rs_len l2 _ i) ?_;have g:=Ztr (P:=paQ q p) (LP:=4000) (λk=>ZCk (Zt7 q p k) lp) l1 l2 (moQ q p) (moQ q p+1) (ZCi _);refine ZCk (ZCw _ g) ?_;generalize moQ q p=m at hm;have hh:(m=0∧i=0)∨(m=0∧i=1)∨(m=0∧i=2)∨(m=1∧i=0)∨(m=1∧i=1)∨(m=2∧i=0):=zo;rcases hh with⟨rfl,rfl⟩ | ⟨rfl,rfl⟩ | ⟨rfl,rfl⟩ | ⟨rfl,rfl⟩ | ⟨rfl,rfl⟩ | ⟨rfl,rfl⟩<;>decide
theorem rs_xb {q:Qt} {p:QTs} {b:XX} {k n kb nb i:Nat} (hp:XB p k n) (hb:XB b.1 kb nb) (hd:XB b.2 kb nb) (hm:moQ q p≤2) (hi:i≤2):XB (rsX (rpN q p b.1 b.2) b.2 i) (k+2+6*kb) (n+4*nb):=by
 have g0:=rf_xb hp hb hd q (moQ q p) (moQ q p+1) zo (ZCi _);rw [rs_pw g0.1 hd.1];have g:=g0.mul (hd.pw i);have e1:moQ q p*(2*kb)≤2*(2*kb):=ZCw _ hm;have e2:moQ q p*nb≤2*nb:=ZCw _ hm;have e3:i*kb≤2*kb:=ZCw _ hi;have e4:i*nb≤2*nb:=ZCw _ hi;exact g.mono zo zo
def vwX (n:Qt) (x:Int):Int × Int × Bool :=
 if n.k=2∧n.a=n.c then (n.a+n.b - x,n.a+n.b - x,true)
 else if x=n.b then (if n.k=1 then (n.c,n.a,false) else (n.a,n.c,true))
 else if x=n.a then (n.b,n.c,false)
 else if n.k=1 then (n.a,n.b,false) else (n.b,n.a,false)
theorem vw_pl {n:Qt} {x:Int} (hn:n.norm=(n,1)) (hx:hasQ x n=true):vwX n x=((plOf n x).q,(plOf n x).r,(plOf n x).mid):=by
 obtain⟨_,hk,hy⟩:=Zmu hx;clear hx;have hok:=Zg7 hn;obtain⟨k,a,b,c⟩:=n;simp only at hk hy
 have h1:k=1∨k=2:=by
  unfold Qt.ok at hok;simp at hok;omega
 unfold Qt.norm at hn;rw [ZCh hok] at hn;simp only at hn;unfold plOf vwX;simp only;rcases h1 with rfl | rfl
 ·rw [ZCh rfl] at hn
  have h3:a≠b∧b≠c∧a≠c:=by
   unfold Zea at hn;split at hn
   ·simp [Qt.zero] at hn
   ·omega
  rw [ZCg zo,ZCh rfl,ZCh rfl,ZCh rfl];rcases hy with rfl | rfl | rfl
  ·rw [ZCg h3.1,ZCh rfl,ZCh rfl]
  ·rw [ZCh rfl,ZCg h3.1,ZCh rfl]
  ·rw [ZCg (λh=>h3.2.1 h.symm),ZCg (λh=>h3.2.2 h.symm),ZCg h3.2.2,ZCg h3.2.1]
 ·rw [ZCg zd,ZCh rfl] at hn
  have h3:a≠b∧b≠c:=by
   unfold Ze9 at hn;split at hn
   ·simp [Qt.zero] at hn
   ·omega
  rw [ZCg (show ¬(2:Int)=1 by decide),ZCg (show ¬(2:Int)=1 by decide),ZCg (show ¬(2:Int)=1 by decide)];by_cases hac:a=c
  ·subst hac;rw [ZCh ⟨rfl,rfl⟩];rcases hy with rfl | rfl | rfl
   ·rw [ZCh ⟨rfl,rfl⟩];simp only [Prod.mk.injEq,and_true];omega
   ·rw [ZCg (λh=>h3.1 h.1),ZCh rfl];simp only [Prod.mk.injEq,and_true];omega
   ·rw [ZCh ⟨rfl,rfl⟩];simp only [Prod.mk.injEq,and_true];omega
  ·rw [ZCg (λh=>hac h.2)];rcases hy with rfl | rfl | rfl
   ·rw [ZCg h3.1,ZCh rfl,ZCg (λh=>hac h.2.symm),ZCg (λh=>h3.1 h.symm),ZCh rfl]
   ·rw [ZCh rfl,ZCg (λh=>h3.1 h.1),ZCh rfl]
   ·rw [ZCg (λh=>h3.2 h.symm),ZCg (λh=>hac h.symm),ZCg (λh=>hac h.1),ZCg h3.2,ZCg hac]
def prS (s:Int × Int) (k:Int):Int × Int:=if k=1 then (s.1+min s.2 2,s.2+1) else if k=5∨k=6 then (s.1+1,s.2) else s
def prN (ks:List Int):Int × Int:=ks.foldl prS (0,0)
theorem Zt5 (ks:List Int) (k:Int):prN (ks++[k])=prS (prN ks) k:=by unfold prN;rw [ZGm];rfl
theorem prN_bd:∀ks:List Int,0≤(prN ks).1∧(prN ks).1≤2*ks.length∧0≤(prN ks).2∧(prN ks).2≤ks.length:=by
 refine Zge ⟨by decide,by decide,by decide,by decide⟩ λl a ih=>?_;rw [Zt5,ZDa];have h1:([a]:List Int).length=1:=rfl;unfold prS;obtain⟨i1,i2,i3,i4⟩:=ih;split
 ·refine⟨?_,?_,?_,?_⟩<;>simp only<;>omega
 ·split
  ·refine⟨?_,?_,?_,?_⟩<;>simp only<;>omega
  ·refine⟨?_,?_,?_,?_⟩<;>omega
def wtX (k:Int) (a:List Int) (r:Rat) (t:Int):Int × List Int × List XX :=
 match cbOf k a r t with
 | none=>(8,[],[])
 | some c=>if c.be=[] then (3,[],[]) else (0,c.ps,c.ab.map λw=>(w,c.be))
theorem exC {p:QTs} (h:(∀t∈p,t.1≠0∧(t.2.Pairwise λa b=>Qt.cmp a b≤0)∧∀q∈t.2,q.norm=(q,1))∧p.Pairwise λs t=>ordQ s.2 t.2 < 0):EX p :=
 ⟨λt ht=>⟨(h.1 t ht).1,(h.1 t ht).2.1,(h.1 t ht).2.2⟩,h.2⟩
abbrev hlX:QTs:=[((1/2:Rat),[])]
abbrev onX:QTs:=[((1:Rat),[])]
theorem mid_c:cbOf 2 [1,2] (1/2) 0=some ⟨[1,2],[hlX,hlX],onX⟩:=by
 have e1:nX (1/2)=hlX:=by decide +kernel
 have e2:nX 1=onX:=by decide +kernel
 have e3:subX onX hlX=hlX:=Zw1 (exC (by decide +kernel)) (exC (by decide +kernel)) (by decide +kernel);show some (prC 1 2 (nX (1/2)) (nX 1))=_;unfold prC;rw [e1,e2,e3]
theorem mid1:lmX 2 [1,2] (1/2) 0 3 ⟨1,3,0,1⟩=(0,([((1/2:Rat),[(⟨1,0,1,2⟩:Qt)])],onX)):=by
 have hn:Qt.norm ⟨1,3,0,1⟩=(⟨1,0,1,3⟩,1):=by decide +kernel
 have hp:plOf ⟨1,0,1,3⟩ 3=⟨1,0,1,false⟩:=rfl;have a1:aX 1 0 1=[]:=by decide +kernel
 have a2:aX 2 0 1=[((1:Rat),[(⟨1,0,1,2⟩:Qt)])]:=by decide +kernel
 have m1:mulX hlX []=[]:=Zp7 (by decide +kernel);have m2:mulX hlX [((1:Rat),[(⟨1,0,1,2⟩:Qt)])]=[((1/2:Rat),[(⟨1,0,1,2⟩:Qt)])]:=Zp7 (by decide +kernel);have j1:Zav [] []=[]:=Zw1 (exC (by decide +kernel)) (exC (by decide +kernel)) (by decide +kernel);have j2:Zav [] [((1/2:Rat),[(⟨1,0,1,2⟩:Qt)])]=[((1/2:Rat),[(⟨1,0,1,2⟩:Qt)])]:=Zw1 (exC (by decide +kernel)) (exC (by decide +kernel)) (by decide +kernel);have s1:sclT ((1:Int):Rat) [((1/2:Rat),[(⟨1,0,1,2⟩:Qt)])]=[((1/2:Rat),[(⟨1,0,1,2⟩:Qt)])]:=by decide +kernel
 unfold lmX;rw [hn];simp only;rw [ZCg (by decide +kernel),ZCg zd,mid_c];simp only;rw [ZCg zs,hp];show((0:Int),(sclT ((1:Int):Rat) (Zav (Zav [] (mulX hlX (aX 1 0 1))) (mulX hlX (aX 2 0 1))),onX))=_;rw [a1,a2,m1,m2,j1,j2,s1]
abbrev pM (a b:Int):List Qt:=[⟨2,a,b,a⟩]
theorem mid2:lmX 2 [1,2] (1/2) 0 3 ⟨2,3,0,3⟩=(0,([((1/2:Rat),pM 0 1),((1/2:Rat),pM 0 2),((-1/4:Rat),pM 1 2)],onX)):=by
 have hn:Qt.norm ⟨2,3,0,3⟩=(⟨2,0,3,0⟩,1):=by decide +kernel
 have hp:plOf ⟨2,0,3,0⟩ 3=⟨2,0,0,true⟩:=rfl;have a1:pX 0 1 0=[((1:Rat),pM 0 1)]:=by decide +kernel
 have a2:pX 0 2 0=[((1:Rat),pM 0 2)]:=by decide +kernel
 have a3:pX 1 2 1=[((1:Rat),pM 1 2)]:=by decide +kernel
 have m1:mulX hlX [((1:Rat),pM 0 1)]=[((1/2:Rat),pM 0 1)]:=Zp7 (by decide +kernel);have m2:mulX hlX [((1:Rat),pM 0 2)]=[((1/2:Rat),pM 0 2)]:=Zp7 (by decide +kernel);have m3:mulX hlX hlX=[((1/4:Rat),[])]:=Zp7 (by decide +kernel);have m4:mulX [((1/4:Rat),[])] [((1:Rat),pM 1 2)]=[((1/4:Rat),pM 1 2)]:=Zp7 (by decide +kernel);have j1:Zav [] [((1/2:Rat),pM 0 1)]=[((1/2:Rat),pM 0 1)]:=Zw1 (exC (by decide +kernel)) (exC (by decide +kernel)) (by decide +kernel);have j2:Zav [((1/2:Rat),pM 0 1)] [((1/2:Rat),pM 0 2)]=[((1/2:Rat),pM 0 1),((1/2:Rat),pM 0 2)]:=Zw1 (exC (by decide +kernel)) (exC (by decide +kernel)) (by decide +kernel)
 have m5:mulX onX [((1/2:Rat),pM 0 1),((1/2:Rat),pM 0 2)]=[((1/2:Rat),pM 0 1),((1/2:Rat),pM 0 2)]:=Zp7 (by decide +kernel);have m6:mulX onX onX=onX:=Zp7 (by decide +kernel);have s2:sclT (-1) [((1/4:Rat),pM 1 2)]=[((-1/4:Rat),pM 1 2)]:=by decide +kernel
 have j3:Zav [((1/2:Rat),pM 0 1),((1/2:Rat),pM 0 2)] [((-1/4:Rat),pM 1 2)]=[((1/2:Rat),pM 0 1),((1/2:Rat),pM 0 2),((-1/4:Rat),pM 1 2)]:=Zw1 (exC (by decide +kernel)) (exC (by decide +kernel)) (by decide +kernel);have s1:sclT ((1:Int):Rat) [((1/2:Rat),pM 0 1),((1/2:Rat),pM 0 2),((-1/4:Rat),pM 1 2)]=[((1/2:Rat),pM 0 1),((1/2:Rat),pM 0 2),((-1/4:Rat),pM 1 2)]:=by decide +kernel
 unfold lmX;rw [hn];simp only;rw [ZCg (by decide +kernel),ZCg zd,mid_c];simp only;rw [ZCg zs,hp];show((0:Int),(sclT ((1:Int):Rat) (subX (mulX onX (Zav (Zav [] (mulX hlX (pX 0 1 0))) (mulX hlX (pX 0 2 0)))) (mulX (mulX hlX hlX) (pX 1 2 1))),mulX onX onX))=_;rw [a1,a2,a3,m1,m2,m3,m4,j1,j2,m5,m6];show((0:Int),(sclT ((1:Int):Rat) (Zav _ (sclT (-1) [((1/4:Rat),pM 1 2)])),onX))=_;rw [s2,j3,s1]
end Go.Proofs.YtpkcophcldjboaaGreatDoor
namespace Go.Proofs.YtpkcophcldjboaaGreatDoor
open Go Go.RowKit Go.Pg Go.Pol Go.Proofs.Tryz
attribute [-bool_to_prop] Bool.and_eq_decide Bool.or_eq_decide Bool.decide_beq_decide decide_eq_decide
attribute [local go_sem] Zaw Zay Zax Zah Zap Zai Bool.and_self Zal Za8 Zba Zb4 Zb6
theorem elMost (a:QTs) (q:Qt) {n:Nat} (hl:a.length≤1000000) (hq:∀t∈a,t.2.length≤n) (hn:n≤1000000):Pure prog 52 [qpA a,q.av] (iv (moQ q a)):=by
 have hlm:(a.map qtA).length=a.length:=ZCj ..;have hg:∀k (h:k < a.length),(a.map qtA).getD k .u=.agg [.v (.bool (decide (a[k].1.num < 0))),lim (toL a[k].1.num.natAbs),lim (toL a[k].1.den),.sl 4 (a[k].2.map Qt.av)]:=λk h=>Zak qtA h;have hts:∀k (h:k < a.length),moQ q (a.take (k+1))=max (moQ q (a.take k)) (tmQ q a[k].2):=λk h=>by rw [ZEs h,Zsb]
 have hf:a.take a.length=a:=ZDu;have hq2:∀k (h:k < a.length),a[k].2.length≤1000000:=λk h=>ZCk (hq _ (ZCt h)) hn;have hmb:∀k,moQ q (a.take k)≤1000000:=λk=>mo_le λt ht=>ZCk (hq t (ZDw ht)) hn;obtain⟨q1,q2,q3,q4⟩:=q;show Pure _ _ [.sl 4 (a.map qtA),.agg [iv q1,iv q2,iv q3,iv q4]] _;generalize a.map qtA=A at *;refine pI func52 rfl ntmps52 results52 call52 ?_
 (refine wkad (w_1 hlm) w_t w_t (w_s ?_);intros)
 rename_i g3;refine Zad (ι:=Nat) (λk e m=>k≤a.length∧(e 3=.pbox 3 g3 0∧m 3=some (.box g3 39 [iv q1,iv q2,iv q3,iv q4] false))∧e 5=iv (moQ ⟨q1,q2,q3,q4⟩ (a.take k))∧e 11=.sl 4 A∧e 12=iv a.length∧e 13=iv k) (λk=>a.length - k) 0 zr ?_ ?_
 ·rintro k e m ⟨hk,⟨e3,m3⟩,e5,e11,e12,e13⟩
  by_cases hlt:k < a.length
  ·have hgk:=hg k hlt;have htk:=hts k hlt;have hqk:=hq2 k hlt;have hmk:=hmb k;have hwm:(a[k].2.map Qt.av).length=a[k].2.length:=ZCj ..;have hwe:∀b (h:b < a[k].2.length),(a[k].2.map Qt.av).getD b .u=Qt.av a[k].2[b]:=λb h=>Zak Qt.av h;clear hts hg hf hq hq2 hmb;generalize moQ _ (a.take k)=mo at *;generalize a[k]=u at *;obtain⟨u1,w⟩:=u;simp only at htk hqk hwm hwe hgk;have hws:∀b (h:b < w.length),tmQ ⟨q1,q2,q3,q4⟩ (w.take (b+1))=if w[b]=⟨q1,q2,q3,q4⟩ then tmQ ⟨q1,q2,q3,q4⟩ (w.take b)+1 else tmQ ⟨q1,q2,q3,q4⟩ (w.take b):=λb h=>by rw [ZEs h,Zq6]
   have hwb:∀b,tmQ ⟨q1,q2,q3,q4⟩ (w.take b)≤1000000:=λb=>by have:=Zxf ⟨q1,q2,q3,q4⟩ (w.take b);rw [ZCz] at this;omega
   have hwf:w.take w.length=w:=ZDu;generalize w.map Qt.av=qs at *;generalize toL u1.num.natAbs=un at *;generalize toL u1.den=ud at *;generalize decide (u1.num < 0)=us at *
   (refine wkad (w_9 e3 m3 e5 e11 e12 e13 hlm hgk hwm) w_t w_t (w_s ?_);intros)
   refine Zad (ι:=Nat) (λb e m=>b≤w.length∧(e 3=.pbox 3 g3 0∧m 3=some (.box g3 39 [iv q1,iv q2,iv q3,iv q4] false))∧e 5=iv mo∧(e 11=.sl 4 A∧e 12=iv a.length∧e 13=iv k)∧e 8=iv (tmQ ⟨q1,q2,q3,q4⟩ (w.take b))∧e 18=.sl 4 qs∧e 19=iv w.length∧e 20=iv b) (λb=>w.length - b) 0 zr ?_ ?_
   ·rintro b e m ⟨hb,⟨e3,m3⟩,e5,⟨e11,e12,e13⟩,e8,e18,e19,e20⟩
    by_cases hbl:b < w.length
    ·have hqb:=hwe b hbl;have hsb:=hws b hbl;have htb:=hwb b;clear hws hwb hwe hwf;by_cases hx:w[b]=⟨q1,q2,q3,q4⟩
     ·rw [ZCh hx] at hsb;rw [hx] at hqb;generalize tmQ _ (w.take b)=tn at *;have hs:(tn:Int)+1=((tn+1:Nat):Int):=zo
      (refine wkad (w_13 e3 m3 e5 e11 e12 e13 e8 e18 e19 e20 hwm hqb hs) w_t w_t (w_s ?_);intros)
      exact⟨b+1,⟨zo,⟨gW e3,gW m3⟩,gW e5,⟨gW e11,gW e12,gW e13⟩,by rw [hsb];exact gW (And.intro e8 hs),gW e18,gW e19,gS⟩,zo⟩
     ·rw [ZCg hx] at hsb;generalize w[b]=y at *;obtain⟨y1,y2,y3,y4⟩:=y;have hx:¬(y1=q1∧y2=q2∧y3=q3∧y4=q4):=λh=>hx (by obtain⟨rfl,rfl,rfl,rfl⟩:=h;rfl);generalize tmQ _ (w.take b)=tn at *
      (refine wkad (w_13 e3 m3 e5 e11 e12 e13 e8 e18 e19 e20 hwm hqb hx) w_t w_t (w_s ?_);intros)
      exact⟨b+1,⟨zo,⟨gW e3,gW m3⟩,gW e5,⟨gW e11,gW e12,gW e13⟩,by rw [hsb];exact gW e8,gW e18,gW e19,gS⟩,zo⟩
    ·have:b=w.length:=zo;subst this;rw [hwf] at e8;clear hws hwb hwe hwf;generalize tmQ _ w=tn at *;have hm:max (mo:Int) (tn:Int)=((max mo tn:Nat):Int):=zo
     (refine wkad (w_12 e3 m3 e5 e11 e12 e13 e8 e18 e19 e20 hwm hm) w_t w_t (w_s ?_);intros)
     exact⟨k+1,⟨zo,⟨gW e3,gW m3⟩,by rw [htk];exact gW hm,gW e11,gW e12,gS⟩,zo⟩
   ·exact⟨ZCr _,⟨gW e3,gW m3⟩,gW e5,⟨gW e11,gW e12,gW e13⟩,gC,gC,gW hwm,gC⟩
  ·have:k=a.length:=zo;subst this;rw [hf] at e5;generalize moQ _ a=tn at *
   (refine wkad (w_7 e3 m3 e5 e11 e12 e13 hlm) w_t w_t (w_s ?_);intros)
   all_goals exact gL
 ·exact⟨ZCr _,⟨gC,gC⟩,gC,gC,gW hlm,gC⟩
theorem elRaised (p d:QTs) (z:Int) (hz:z≤1000000) (hc:∀i,i < z.toNat→Pure prog 40 [qpA (rsX p d i),qpA d] (qpA (rsX p d (i+1)))):Pure prog 53 [qpA p,qpA d,iv z] (qpA (rsX p d z.toNat)):=by
 show Pure _ _ [.sl 4 (p.map qtA),.sl 4 (d.map qtA),_] (.sl 4 ((rsX p d z.toNat).map qtA));have hc:∀i,i < z.toNat→Pure prog 40 [.sl 4 ((rsX p d i).map qtA),.sl 4 (d.map qtA)] (.sl 4 ((rsX p d (i+1)).map qtA)):=hc;generalize d.map qtA=D at *;have h0:(rsX p d 0).map qtA=p.map qtA:=rfl;generalize p.map qtA=PP at *;refine pI func53 rfl ntmps53 results53 call53 ?_
 (refine wkad w_t w_t w_t (w_s ?_);intros)
 refine Zad (ι:=Nat) (λi e m=>i≤z.toNat∧e 0=.sl 4 ((rsX p d i).map qtA)∧e 1=.sl 4 D∧e 7=iv z∧e 8=iv i) (λi=>z.toNat - i) 0 zr ?_ ?_
 ·rintro i e m ⟨hi,e0,e1,e7,e8⟩
  by_cases hlt:(i:Int) < z
  ·have c:=hc i zo;clear hc;generalize hS:(rsX p d (i+1)).map qtA=S2 at *;generalize (rsX p d i).map qtA=S1 at *
   (refine wkad (w_5 e0 e1 e7 e8 hlt) (w_1 c) w_t (w_s ?_);intros)
   exact⟨i+1,⟨zo,by rw [hS];exact gC,gW e1,gW e7,gS⟩,zo⟩
  ·have hiz:i=z.toNat:=zo;rw [←hiz];clear hc;generalize (rsX p d i).map qtA=S1 at *
   (refine wkad (w_5 e0 e1 e7 e8 hlt) w_t w_t (w_s ?_);intros)
   all_goals exact gL
 ·exact⟨ZCr _,by rw [h0];exact gC,gC,gC,gC⟩
attribute [go_sem] underlying97 szMapQ
attribute [local go_sem] stQ
def kQ (q:Qt):MKey:=.l [q.k,q.a,q.b,q.c]
def cntM (l:List Qt):List (MKey × AV):=l.foldl (λes q=>Zck (kQ q) (match Zcb (kQ q) es with
 | some (.v (.int .i64 n))=>iv (n+1)
 | _=>iv 1) es) []
theorem kQ_inj {p q:Qt} (h:kQ p=kQ q):p=q:=by
 obtain⟨a,b,c,d⟩:=p;obtain⟨a',b',c',d'⟩:=q;unfold kQ at h;simp only [MKey.l.injEq,List.cons.injEq,and_true] at h;obtain⟨rfl,rfl,rfl,rfl⟩:=h;rfl
theorem Zp9 (κ μ:MKey) (v:AV):∀es,Zcb κ (Zck μ v es)=if μ=κ then some v else Zcb κ es
 | []=>rfl
 | a :: r=>by
   by_cases h:a.1=μ
   ·simp only [Zck,ZCh h,Zcb];by_cases h2:μ=κ
    ·rw [ZCh h2,ZCh h2]
    ·rw [ZCg h2,ZCg h2,ZCg (by rw [h];exact h2)]
   ·simp only [Zck,ZCg h,Zcb,Zp9 κ μ v r];by_cases h2:a.1=κ
    ·rw [ZCh h2,ZCg (λe=>h (h2.trans e.symm)),ZCh h2]
    ·rw [ZCg h2,ZCg h2]
theorem Zom (l:List Qt) (q:Qt):cntM (l++[q])=Zck (kQ q) (match Zcb (kQ q) (cntM l) with
 | some (.v (.int .i64 n))=>iv (n+1)
 | _=>iv 1) (cntM l):=by unfold cntM;rw [ZGm];rfl
theorem Zon (q:Qt):∀l,Zcb (kQ q) (cntM l)=if tmQ q l=0 then none else some (iv (tmQ q l)):=by
 refine Zge rfl λl a ih=>?_;rw [Zom,Zp9,Zq6];by_cases h:a=q
 ·subst h;rw [ZCh rfl,ZCh rfl,ih];by_cases h0:tmQ a l=0
  ·rw [ZCh h0,h0];rfl
  ·rw [ZCg h0,ZCg zo];rfl
 ·rw [ZCg λe=>h (kQ_inj e),ZCg h,ih]
theorem cnt_step (l:List Qt) (q:Qt):Zck (kQ q) (iv ((tmQ q l:Nat)+1)) (cntM l)=cntM (l++[q]):=by
 rw [Zom,Zon];by_cases h0:tmQ q l=0
 ·rw [ZCh h0,h0];rfl
 ·rw [ZCg h0]
theorem cnt_res (l:List Qt) (q:Qt):Zr8 false (.v (.int .i64 0)) (Zcb (kQ q) (cntM l))=iv (tmQ q l):=by
 rw [Zon];by_cases h0:tmQ q l=0
 ·rw [ZCh h0,h0];rfl
 ·rw [ZCg h0];rfl
theorem Zy5 {κ μ:MKey} {v:AV} (h:κ.like μ=true):∀{es:List (MKey × AV)},Ze4 κ es=true→Ze4 κ (Zck μ v es)=true
 | [],_=>by show(κ.like μ && true)=true;rw [h];rfl
 | a :: r,ha=>by
   have ha':(κ.like a.1 && Ze4 κ r)=true:=ha;rw [ZC2] at ha';by_cases g:a.1=μ
   ·simp only [Zck,ZCh g];show(κ.like μ && Ze4 κ r)=true;rw [h,ha'.2];rfl
   ·simp only [Zck,ZCg g];show(κ.like a.1 && Ze4 κ (Zck μ v r))=true;rw [ha'.1,Zy5 h ha'.2];rfl
theorem cnt_all (q:Qt):∀l,Ze4 (kQ q) (cntM l)=true:=by
 refine Zge rfl λl a ih=>?_;rw [Zom];exact Zy5 rfl ih
theorem Zsr {α β:Type} {f:α→List β} {l:List α} {j:Nat} (h:j < l.length):(l.take (j+1)).flatMap f=(l.take j).flatMap f++f l[j]:=by
 rw [ZEs h,ZId,List.flatMap_singleton]
theorem ZAs {α β:Type} {f:α→List β} (l:List α) (j:Nat):((l.take j).flatMap f).length≤(l.flatMap f).length:=by
 conv=>rhs;rw [←ZEq j l]
 rw [ZId,ZDa];omega
abbrev flP (ps:List QTs):List Qt:=ps.flatMap flQ
abbrev hvA (x:Int) (l:List Qt):List AV:=(hvP x l).map Qt.av
theorem hvA_y {x:Int} {l:List Qt} {q:Qt} (h0:tmQ q l=0) (h:hasQ x q=true):hvA x (l++[q])=hvA x l++[q.av]:=by
 unfold hvA;rw [Zi5,ZCh ⟨h0,h⟩,ZDd];rfl
theorem hvA_n {x:Int} {l:List Qt} {q:Qt} (h:¬(tmQ q l=0∧hasQ x q=true)):hvA x (l++[q])=hvA x l:=by
 unfold hvA;rw [Zi5,ZCg h]
theorem cnt_get0 {l:List Qt} {q:Qt} (h:tmQ q l=0):Zcb (kQ q) (cntM l)=none:=by rw [Zon,ZCh h]
theorem cnt_get1 {l:List Qt} {q:Qt} (h:¬tmQ q l=0):Zcb (kQ q) (cntM l)=some (iv (tmQ q l)):=by rw [Zon,ZCg h]
theorem elHaving (x:Int) (ps:List QTs) (hl:ps.length≤1000000) (hp:∀p∈ps,p.length≤1000000∧∀t∈p,t.2.length≤1000000) (hn:(flP ps).length≤1000000):Pure prog 18 [iv x,.sl 1 (ps.map qpA)] (.sl 4 ((hvL x (flP ps)).map Qt.av)):=by
 have hlm:(ps.map qpA).length=ps.length:=ZCj ..;have hg:∀i (h:i < ps.length),(ps.map qpA).getD i .u=.sl 4 (ps[i].map qtA):=λi h=>Zak qpA h;have hpi:∀i (h:i < ps.length),ps[i].length≤1000000∧∀t∈ps[i],t.2.length≤1000000:=λi h=>hp _ (ZCt h);have hti:∀i (h:i < ps.length),flP (ps.take (i+1))=flP (ps.take i)++flQ ps[i]:=λi h=>Zsr h;have hni:∀i,(flP (ps.take i)).length≤1000000:=λi=>ZCk (ZAs ps i) hn;generalize ps.map qpA=PS at *;refine pI func18 rfl ntmps18 results18 call18 ?_
 (refine wkad (w_1 hlm) w_t w_t (w_s ?_);intros)
 refine Zdj (Frz.nilOwn (d:=6) 500 4 39 (gC)) ?_;rename_i hM;refine Zad (ι:=Nat) (λi e m=>i≤ps.length∧(e 0=iv x∧e 14=.sl 1 PS∧e 15=iv ps.length∧e 16=iv i)∧(e 5=.mp 13 hM∧m 13=some (.map hM (cntM (flP (ps.take i)))))∧∃sv,e 6=.own 500 sv∧m 500=some (.row sv 39 4 (hvA x (flP (ps.take i))) 0)) (λi=>ps.length - i) 0 zr ?_ ?_
 ·rintro i e m ⟨hi,⟨e0,e14,e15,e16⟩,⟨e5,m13⟩,sv,e6,m500⟩
  by_cases hlt:i < ps.length
  ·have hgi:=hg i hlt;obtain⟨lp,hq⟩:=hpi i hlt;have htk:=hti i hlt;have hnk:=hni (i+1);rw [htk] at hnk;clear hg hpi hti hni hp hn;generalize flP (ps.take i)=U at *;generalize ps[i]=p at *;have hpm:(p.map qtA).length=p.length:=ZCj ..;have hpg:∀j (h:j < p.length),(p.map qtA).getD j .u=.agg [.v (.bool (decide (p[j].1.num < 0))),lim (toL p[j].1.num.natAbs),lim (toL p[j].1.den),.sl 4 (p[j].2.map Qt.av)]:=λj h=>Zak qtA h;have hqj:∀j (h:j < p.length),p[j].2.length≤1000000:=λj h=>hq _ (ZCt h);have htj:∀j (h:j < p.length),flQ (p.take (j+1))=flQ (p.take j)++p[j].2:=λj h=>Zsr h
   have hnj:∀j,(U++flQ (p.take j)).length≤1000000:=λj=>by have:=ZAs (f:=λt:Rat × List Qt=>t.2) p j;rw [ZDa] at hnk ⊢;unfold flQ at hnk ⊢;omega
   have hfp:flQ (p.take p.length)=flQ p:=by rw [ZDu]
   generalize p.map qtA=PP at *
   (refine wkad (w_11 e0 e14 e15 e16 e5 m13 e6 m500 hlm hgi hpm) w_t w_t (w_s ?_);intros)
   refine Zad (ι:=Nat) (λj e m=>j≤p.length∧(e 0=iv x∧e 14=.sl 1 PS∧e 15=iv ps.length∧e 16=iv i)∧(e 5=.mp 13 hM∧m 13=some (.map hM (cntM (U++flQ (p.take j)))))∧(e 20=.sl 4 PP∧e 21=iv p.length∧e 22=iv j)∧∃sv,e 6=.own 500 sv∧m 500=some (.row sv 39 4 (hvA x (U++flQ (p.take j))) 0)) (λj=>p.length - j) 0 zr ?_ ?_
   ·rintro j e m ⟨hj,⟨e0,e14,e15,e16⟩,⟨e5,m13⟩,⟨e20,e21,e22⟩,sv,e6,m500⟩
    by_cases hjl:j < p.length
    ·have hgj:=hpg j hjl;have lw:=hqj j hjl;have htk2:=htj j hjl;have hnk2:=hnj (j+1);rw [htk2,←ZDv] at hnk2;clear hpg hqj htj hnj htk hnk hq;obtain⟨V,hV⟩:∃V,V=U++flQ (p.take j):=⟨_,rfl⟩;rw [←hV] at m13 m500 hnk2;generalize p[j]=t at *;obtain⟨t1,w⟩:=t;simp only at htk2 lw hgj hnk2;have hwm:(w.map Qt.av).length=w.length:=ZCj ..;have hwe:∀b (h:b < w.length),(w.map Qt.av).getD b .u=Qt.av w[b]:=λb h=>Zak Qt.av h;have hws:∀b (h:b < w.length),V++w.take (b+1)=(V++w.take b)++[w[b]]:=λb h=>by rw [ZEs h,ZDv]
     have hwn:∀b,(V++w.take b).length≤1000000:=λb=>by rw [ZDa] at hnk2 ⊢;rw [ZCz];omega
     have hwf:w.take w.length=w:=ZDu;generalize w.map Qt.av=qs at *;generalize toL t1.num.natAbs=un at *;generalize toL t1.den=ud at *;generalize decide (t1.num < 0)=us at *
     (refine wkad (w_15 e0 e14 e15 e16 e5 m13 e20 e21 e22 e6 m500 hlm hpm hgj hwm) w_t w_t (w_s ?_);intros)
     refine Zad (ι:=Nat) (λb e m=>b≤w.length∧(e 0=iv x∧e 14=.sl 1 PS∧e 15=iv ps.length∧e 16=iv i)∧(e 5=.mp 13 hM∧m 13=some (.map hM (cntM (V++w.take b))))∧(e 20=.sl 4 PP∧e 21=iv p.length∧e 22=iv j)∧(e 27=.sl 4 qs∧e 28=iv w.length∧e 29=iv b)∧∃sv,e 6=.own 500 sv∧m 500=some (.row sv 39 4 (hvA x (V++w.take b)) 0)) (λb=>w.length - b) 0 zr ?_ ?_
     ·rintro b e m ⟨hb,⟨e0,e14,e15,e16⟩,⟨e5,m13⟩,⟨e20,e21,e22⟩,⟨e27,e28,e29⟩,sv,e6,m500⟩
      by_cases hbl:b < w.length
      ·have hqb:=hwe b hbl;have hsb:=hws b hbl;have hnb:=hwn b;clear hwe hws hwn hwf hnk2;generalize V++w.take b=L at *;generalize w[b]=y at *;have hst:=cnt_step L y;have hres:=cnt_res L y;have hall:=cnt_all y L;have htl:=Zxf y L;have hol:(hvA x L).length≤1000000:=by unfold hvA;rw [ZCj];have:=Zsl x L;omega
       have cp:Pure prog 32 [.agg [iv y.k,iv y.a,iv y.b,iv y.c]] (.sl 1 (y.pts.map iv)):=Znm y.k y.a y.b y.c;have cc:Pure prog 34 [.sl 1 (y.pts.map iv),iv x] (.v (.bool (hasQ x y))):=slConI y.pts x (by have:=Zt3 y;omega);have hy:=hvA_y (x:=x) (l:=L) (q:=y);have hno:=hvA_n (x:=x) (l:=L) (q:=y);have g0:=cnt_get0 (l:=L) (q:=y);have g1:=cnt_get1 (l:=L) (q:=y);have hyv:y.av=.agg [iv y.k,iv y.a,iv y.b,iv y.c]:=rfl;have hkk:kQ y=.l [y.k,y.a,y.b,y.c]:=rfl;rw [hkk] at hst hres hall g0 g1;rw [hyv] at hy hqb;rw [←hsb] at hst hy hno;generalize tmQ y L=tn at *;generalize hasQ x y=hv at *;generalize y.pts.map iv=YP at *
       obtain⟨y1,y2,y3,y4⟩:=y;simp only at *;clear hyv hkk hsb;generalize hvA x L=H at *;generalize cntM L=C at *;have hC:=hst.symm;clear hst;by_cases h0:tn=0
       ·have g:=g0 h0;subst h0
        cases hv with
        | true =>
          have hH:=hy rfl rfl;clear hy hno g0 g1
          (refine wkax (w_22 e0 e14 e15 e16 e5 m13 e20 e21 e22 e27 e28 e29 e6 m500 hlm hpm hwm hqb stQ hall g hol) (w_2 cp cc) w_t w_t w_t w_t w_t (w_r 0) (w_s ?_);intros)
          refine Zy0 (tok:=0) (tk:=13) (h:=hM) (MT:=97) (kt:=39) (et:=3) (T:=39) (κ:=.l [y1,y2,y3,y4]) (kv:=.agg [iv y1,iv y2,iv y3,iv y4]) (k:=((0:Nat))) (es:=C) (s0:=5) (s1:=12) (d0:=47) (d1:=48) (d2:=49) (d3:=50) (d4:=51) (d5:=52) (it:=3) (jt:=3) zk rfl zk ⟨_,_,_,rfl⟩ ⟨_,_,_,rfl⟩ ⟨_,_,_,rfl⟩ ⟨_,_,_,rfl⟩ ⟨_,_,_,rfl⟩ ⟨_,_,_,rfl⟩ ⟨_,_,_,rfl⟩ zk zd zd underlying97 zInt3 (gW e5) (gW m13) (by simp (disch:=omega) only [go_sem]) (mkQ y1 y2 y3 y4) hall hres zo zo ?_
          (refine wkad (w_14 e0 e14 e15 e16 e5 m13 e20 e21 e22 e27 e28 e29 e6 m500) w_t w_t (w_s ?_);intros)
          exact⟨b+1,⟨zo,⟨gW e0,gW e14,gW e15,gW e16⟩,⟨gW e5,by rw [hC];exact gC⟩,⟨gW e20,gW e21,gW e22⟩,⟨gW e27,gW e28,gS⟩,_,gW e6,by rw [hH];exact gW m500⟩,zo⟩
        | false =>
          have hH:=hno (by rintro ⟨_,h⟩;cases h);clear hy hno g0 g1
          (refine wkax (w_22 e0 e14 e15 e16 e5 m13 e20 e21 e22 e27 e28 e29 e6 m500 hlm hpm hwm hqb stQ hall g hol) (w_2 cp cc) w_t w_t w_t w_t w_t (w_r 0) (w_s ?_);intros)
          refine Zy0 (tok:=0) (tk:=13) (h:=hM) (MT:=97) (kt:=39) (et:=3) (T:=39) (κ:=.l [y1,y2,y3,y4]) (kv:=.agg [iv y1,iv y2,iv y3,iv y4]) (k:=((0:Nat))) (es:=C) (s0:=5) (s1:=12) (d0:=47) (d1:=48) (d2:=49) (d3:=50) (d4:=51) (d5:=52) (it:=3) (jt:=3) zk rfl zk ⟨_,_,_,rfl⟩ ⟨_,_,_,rfl⟩ ⟨_,_,_,rfl⟩ ⟨_,_,_,rfl⟩ ⟨_,_,_,rfl⟩ ⟨_,_,_,rfl⟩ ⟨_,_,_,rfl⟩ zk zd zd underlying97 zInt3 (gW e5) (gW m13) (by simp (disch:=omega) only [go_sem]) (mkQ y1 y2 y3 y4) hall hres zo zo ?_
          (refine wkad (w_14 e0 e14 e15 e16 e5 m13 e20 e21 e22 e27 e28 e29 e6 m500) w_t w_t (w_s ?_);intros)
          exact⟨b+1,⟨zo,⟨gW e0,gW e14,gW e15,gW e16⟩,⟨gW e5,by rw [hC];exact gC⟩,⟨gW e20,gW e21,gW e22⟩,⟨gW e27,gW e28,gS⟩,_,gW e6,by rw [hH];exact gW m500⟩,zo⟩
       ·have g:=g1 h0;have hH:=hno (by rintro ⟨h,_⟩;exact h0 h);clear hy hno g0 g1 cp cc;have h0':¬(tn:Int)=0:=zo
        (refine wkax (w_23 e0 e14 e15 e16 e5 m13 e20 e21 e22 e27 e28 e29 e6 m500 hlm hpm hwm hqb stQ hall g hol h0') w_t w_t w_t w_t w_t w_t (w_r 0) (w_s ?_);intros)
        refine Zy0 (tok:=0) (tk:=13) (h:=hM) (MT:=97) (kt:=39) (et:=3) (T:=39) (κ:=.l [y1,y2,y3,y4]) (kv:=.agg [iv y1,iv y2,iv y3,iv y4]) (k:=(tn)) (es:=C) (s0:=5) (s1:=12) (d0:=47) (d1:=48) (d2:=49) (d3:=50) (d4:=51) (d5:=52) (it:=3) (jt:=3) zk rfl zk ⟨_,_,_,rfl⟩ ⟨_,_,_,rfl⟩ ⟨_,_,_,rfl⟩ ⟨_,_,_,rfl⟩ ⟨_,_,_,rfl⟩ ⟨_,_,_,rfl⟩ ⟨_,_,_,rfl⟩ zk zd zd underlying97 zInt3 (gW e5) (gW m13) (by simp (disch:=omega) only [go_sem]) (mkQ y1 y2 y3 y4) hall hres zo zo ?_
        (refine wkad (w_14 e0 e14 e15 e16 e5 m13 e20 e21 e22 e27 e28 e29 e6 m500) w_t w_t (w_s ?_);intros)
        exact⟨b+1,⟨zo,⟨gW e0,gW e14,gW e15,gW e16⟩,⟨gW e5,by rw [hC];exact gC⟩,⟨gW e20,gW e21,gW e22⟩,⟨gW e27,gW e28,gS⟩,_,gW e6,by rw [hH];exact gW m500⟩,zo⟩
      ·have hbw:b=w.length:=zo;subst hbw;rw [hwf] at m13 m500;clear hwe hws hwn hwf
       (refine wkad (w_17 e0 e14 e15 e16 e5 m13 e20 e21 e22 e27 e28 e29 e6 m500 hlm hpm hwm) w_t w_t (w_s ?_);intros)
       exact⟨j+1,⟨zo,⟨gW e0,gW e14,gW e15,gW e16⟩,⟨gW e5,by rw [htk2,←ZDv,←hV];exact gW m13⟩,⟨gW e20,gW e21,gS⟩,sv,gW e6,by rw [htk2,←ZDv,←hV];exact gW m500⟩,zo⟩
     ·exact⟨ZCr _,⟨gW e0,gW e14,gW e15,gW e16⟩,⟨gW e5,by rw [ZEy,ZDo];exact gW m13⟩,⟨gW e20,gW e21,gW e22⟩,⟨gC,gW hwm,gC⟩,sv,gW e6,by rw [ZEy,ZDo];exact gW m500⟩
    ·have hjp:j=p.length:=zo;subst hjp;rw [hfp] at m13 m500;clear hpg hqj htj hnj hq
     (refine wkad (w_13 e0 e14 e15 e16 e5 m13 e20 e21 e22 e6 m500 hlm hpm) w_t w_t (w_s ?_);intros)
     exact⟨i+1,⟨zo,⟨gW e0,gW e14,gW e15,gS⟩,⟨gW e5,by rw [htk];exact gW m13⟩,sv,gW e6,by rw [htk];exact gW m500⟩,zo⟩
   ·exact⟨ZCr _,⟨gW e0,gW e14,gW e15,gW e16⟩,⟨gW e5,by rw [ZEy,show flQ []=[] from rfl,ZDo];exact gW m13⟩,⟨gC,gW hpm,gC⟩,sv,gW e6,by rw [ZEy,show flQ []=[] from rfl,ZDo];exact gW m500⟩
  ·have hip:i=ps.length:=zo;subst hip;rw [ZDu] at m13 m500;have hlen:(hvP x (flP ps)).length≤1000000000:=by have:=Zsl x (flP ps);omega
   have ci:=fun(m:Mem) h=>Zxt m 500 sv (hvP x (flP ps)) h hlen;rw [hv_eq] at ci;have hol:(hvA x (flP ps)).length≤1000000000:=by unfold hvA;rw [ZCj];exact hlen
   clear hg hpi hti hni hp hn;generalize (hvL x (flP ps)).map Qt.av=RR at *;have ci:∀(m:Mem),m 500=some (.row sv 39 4 (hvA x (flP ps)) 0)→ACall prog 51 [.own 500 sv,.fn 43 []] m λr σ'=>r=.tup []∧σ'=upd m 500 (some (.row sv 39 4 RR 0)):=ci;generalize hvA x (flP ps)=H at *;generalize cntM (flP ps)=C at *
   (refine wkad (w_9 e0 e14 e15 e16 e5 m13 e6 m500 hlm) w_t w_t (w_s ?_);intros)
   refine Zg6 (ci _ (gW m500)) ?_
   (refine wkad (w_1 e6) w_t w_t (w_s ?_);intros)
   all_goals exact gL
 ·exact⟨ZCr _,⟨gC,gC,gW hlm,gC⟩,⟨gC,gC⟩,_,gC,gC⟩
attribute [go_sem] underlying83 underlying119 underlying79 underlying117 zCmb zSch szFn zFn zPlc
attribute [local go_sem] Zca Zbg Zcg Zb0 Zb2 Zdc Zdf Zde Zdd Zb8 Zb9 Zdt Zdu Zen Zer Zel Zem
theorem Zt4 {ss:List RS} {k:Nat} (h:k < ss.length):prN ((ss.take (k+1)).map RS.k)=prS (prN ((ss.take k).map RS.k)) ss[k].k:=by
 rw [ZEs h,ZDd];exact Zt5 _ _
theorem Zy9 (ss:List RS) {k n:Nat} (hk:ss.length≤n):0≤(prN ((ss.take k).map RS.k)).1∧(prN ((ss.take k).map RS.k)).1≤2*n∧0≤(prN ((ss.take k).map RS.k)).2∧(prN ((ss.take k).map RS.k)).2≤n:=by
 have h:=prN_bd ((ss.take k).map RS.k);rw [ZCj,ZCz] at h;omega
theorem prS_1 {s:Int × Int} {k:Int} (h:k=1):prS s k=(s.1+min s.2 2,s.2+1):=by unfold prS;rw [ZCh h]
theorem prS_5 {s:Int × Int} {k:Int} (h1:¬k=1) (h:k=5∨k=6):prS s k=(s.1+1,s.2):=by unfold prS;rw [ZCg h1,ZCh h]
theorem prS_0 {s:Int × Int} {k:Int} (h1:¬k=1) (h:¬(k=5∨k=6)):prS s k=s:=by unfold prS;rw [ZCg h1,ZCg h]
theorem elParam (ss:List RS) (gs:List RG) (i:Nat) (hi:i≤ss.length) (hl:ss.length≤100):Pure prog 207 [figA ss gs,iv i] (iv (prN ((ss.take i).map RS.k)).1):=by
 have hg:∀k (h:k < ss.length),k < i→((ss.map RS.av).take i).getD k .u=.agg [iv ss[k].k,strA ss[k].nm,ivs ss[k].ar,.v (.bool ss[k].r.s),lim ss[k].r.l,lim ss[k].r.d]:=λk h hk=>by
  rw [ZCx,List.getElem?_take_of_lt hk,←ZCx];exact Zak RS.av h
 have hlm:((ss.map RS.av).take i).length=i:=by rw [ZCz,ZCj];omega
 have hll:(ss.map RS.av).length=ss.length:=ZCj ..;have hb:∀k,0≤(prN ((ss.take k).map RS.k)).1∧(prN ((ss.take k).map RS.k)).1≤200∧0≤(prN ((ss.take k).map RS.k)).2∧(prN ((ss.take k).map RS.k)).2≤100:=λk=>Zy9 ss hl;have hs:∀k (h:k < ss.length),prN ((ss.take (k+1)).map RS.k)=prS (prN ((ss.take k).map RS.k)) ss[k].k:=λk h=>Zt4 h;show Pure _ _ [.agg [.sl 6 (ss.map RS.av),.sl 5 (gs.map RG.av)],iv i] _;generalize hMT:(ss.map RS.av).take i=MT at *;generalize ss.map RS.av=M at *;generalize gs.map RG.av=G at *;refine pI func207 rfl ntmps207 results207 call207 ?_
 (refine wkap (w_4 hll hi hMT hlm) w_t (w_r 0) (w_s ?_);intros)
 refine Zad (ι:=Nat) (λk e m=>k≤i∧(e 5=iv (prN ((ss.take k).map RS.k)).1∧e 6=iv (prN ((ss.take k).map RS.k)).2)∧e 12=.sl 6 MT∧e 13=iv i∧e 14=iv k) (λk=>i - k) 0 zr ?_ ?_
 ·rintro k e m ⟨hk,⟨e5,e6⟩,e12,e13,e14⟩
  by_cases hlt:k < i
  ·have hgk:=hg k zo hlt;have ps:=hs k zo;have hbk:=hb k;have hlk:k < ss.length:=zo;clear hg hs hb;generalize ss[k]=s at *;obtain⟨kk,nm,ar,⟨rb,rl,rd⟩⟩:=s;simp only at hgk ps;generalize prN ((ss.take k).map RS.k)=pr at *;obtain⟨p1,p2⟩:=pr;simp only at *;have hgk:MT.getD k .u=.agg [iv kk,strA nm,.sl 1 (ar.map iv),.v (.bool rb),lim rl,lim rd]:=hgk;generalize ar.map iv=AR at *;have hmi:(if (2:Int) < p2 then (2:Int) else p2)=min p2 2:=zo;have hmj:p2+1 - 1=p2:=zo;by_cases h1:kk=1
   ·rw [prS_1 h1] at ps
    (refine wkap (w_10 e5 e6 e12 e13 e14 hlm hgk h1 hmj hmi) w_t (w_r 0) (w_s ?_);intros)
    exact⟨k+1,⟨zo,⟨by rw [ps];exact gW hmi,by rw [ps];exact gC⟩,gW e12,gW e13,gS⟩,zo⟩
   ·by_cases h5:kk=5∨kk=6
    ·rw [prS_5 h1 h5] at ps;rcases h5 with h5 | h5
     ·(refine wkap (w_9 e5 e6 e12 e13 e14 hlm hgk h1 h5) w_t (w_r 0) (w_s ?_);intros)
      exact⟨k+1,⟨zo,⟨by rw [ps];exact gW e5,by rw [ps];exact gW e6⟩,gW e12,gW e13,gS⟩,zo⟩
     ·(refine wkap (w_9 e5 e6 e12 e13 e14 hlm hgk h1 h5) w_t (w_r 0) (w_s ?_);intros)
      exact⟨k+1,⟨zo,⟨by rw [ps];exact gW e5,by rw [ps];exact gW e6⟩,gW e12,gW e13,gS⟩,zo⟩
    ·rw [prS_0 h1 h5] at ps;have h6:¬kk=6:=λh=>h5 (.inr h);have h5:¬kk=5:=λh=>h5 (.inl h)
     (refine wkap (w_10 e5 e6 e12 e13 e14 hlm hgk h1 h5 h6) w_t (w_r 0) (w_s ?_);intros)
     exact⟨k+1,⟨zo,⟨by rw [ps];exact gW e5,by rw [ps];exact gW e6⟩,gW e12,gW e13,gS⟩,zo⟩
  ·have:k=i:=zo;subst this;generalize (prN ((ss.take k).map RS.k)).1=z at *
   (refine wkap (w_6 e5 e6 e12 e13 e14 hlm) w_t (w_r 0) (w_s ?_);intros)
   all_goals exact gL
 ·exact⟨ZCr _,⟨gC,gC⟩,by(simp (disch:=omega) only [go_sem,hMT]<;>repeat' first|rfl|refine⟨?_,?_⟩),gW hlm,gC⟩
theorem rlParam (ss:List RS) (gs:List RG) (i:Nat) (hi:i≤ss.length) (hl:ss.length≤100):Pure prog 194 [figA ss gs,iv i] (iv (prN ((ss.take i).map RS.k)).1):=by
 have hg:∀k (h:k < ss.length),k < i→(ss.map RS.av).getD k .u=.agg [iv ss[k].k,strA ss[k].nm,ivs ss[k].ar,.v (.bool ss[k].r.s),lim ss[k].r.l,lim ss[k].r.d]:=λk h _=>Zak RS.av h;have hll:(ss.map RS.av).length=ss.length:=ZCj ..;have hb:∀k,0≤(prN ((ss.take k).map RS.k)).1∧(prN ((ss.take k).map RS.k)).1≤200∧0≤(prN ((ss.take k).map RS.k)).2∧(prN ((ss.take k).map RS.k)).2≤100:=λk=>Zy9 ss hl;have hs:∀k (h:k < ss.length),prN ((ss.take (k+1)).map RS.k)=prS (prN ((ss.take k).map RS.k)) ss[k].k:=λk h=>Zt4 h;show Pure _ _ [.agg [.sl 6 (ss.map RS.av),.sl 5 (gs.map RG.av)],iv i] _;generalize ss.map RS.av=M at *
 generalize gs.map RG.av=G at *;refine pI func194 rfl ntmps194 results194 call194 ?_
 (refine wkap w_t w_t (w_r 0) (w_s ?_);intros)
 rename_i g2;refine Zad (ι:=Nat) (λk e m=>k≤i∧(e 1=iv i∧e 5=iv (prN ((ss.take k).map RS.k)).1∧e 6=iv (prN ((ss.take k).map RS.k)).2)∧(e 2=.pbox 2 g2 0∧m 2=some (.box g2 25 [.sl 6 M,.sl 5 G] false))∧e 7=iv k) (λk=>i - k) 0 zr ?_ ?_
 ·rintro k e m ⟨hk,⟨e1,e5,e6⟩,⟨e2,m2⟩,e7⟩
  by_cases hlt:k < i
  ·have hgk:=hg k zo hlt;have ps:=hs k zo;have hbk:=hb k;have hlk:k < ss.length:=zo;clear hg hs hb;generalize ss[k]=s at *;obtain⟨kk,nm,ar,⟨rb,rl,rd⟩⟩:=s;simp only at hgk ps;generalize prN ((ss.take k).map RS.k)=pr at *;obtain⟨p1,p2⟩:=pr;simp only at *;have hgk:M.getD k .u=.agg [iv kk,strA nm,.sl 1 (ar.map iv),.v (.bool rb),lim rl,lim rd]:=hgk;generalize ar.map iv=AR at *;have hmi:(if (2:Int) < p2 then (2:Int) else p2)=min p2 2:=zo;have hmj:p2+1 - 1=p2:=zo;by_cases h1:kk=1
   ·rw [prS_1 h1] at ps
    (refine wkap (w_11 e1 e5 e6 e2 m2 e7 hll hgk h1 hmj hmi) w_t (w_r 0) (w_s ?_);intros)
    exact⟨k+1,⟨zo,⟨gW e1,by rw [ps];exact gW hmi,by rw [ps];exact gC⟩,⟨gW e2,gW m2⟩,gS⟩,zo⟩
   ·by_cases h5:kk=5∨kk=6
    ·rw [prS_5 h1 h5] at ps;rcases h5 with h5 | h5
     ·(refine wkap (w_10 e1 e5 e6 e2 m2 e7 hll hgk h1 h5) w_t (w_r 0) (w_s ?_);intros)
      exact⟨k+1,⟨zo,⟨gW e1,by rw [ps];exact gW e5,by rw [ps];exact gW e6⟩,⟨gW e2,gW m2⟩,gS⟩,zo⟩
     ·(refine wkap (w_10 e1 e5 e6 e2 m2 e7 hll hgk h1 h5) w_t (w_r 0) (w_s ?_);intros)
      exact⟨k+1,⟨zo,⟨gW e1,by rw [ps];exact gW e5,by rw [ps];exact gW e6⟩,⟨gW e2,gW m2⟩,gS⟩,zo⟩
    ·rw [prS_0 h1 h5] at ps;have h6:¬kk=6:=λh=>h5 (.inr h);have h5:¬kk=5:=λh=>h5 (.inl h)
     (refine wkap (w_11 e1 e5 e6 e2 m2 e7 hll hgk h1 h5 h6) w_t (w_r 0) (w_s ?_);intros)
     exact⟨k+1,⟨zo,⟨gW e1,by rw [ps];exact gW e5,by rw [ps];exact gW e6⟩,⟨gW e2,gW m2⟩,gS⟩,zo⟩
  ·have:k=i:=zo;subst this;generalize (prN ((ss.take k).map RS.k)).1=z at *
   (refine wkap (w_7 e1 e5 e6 e2 m2 e7 hll) w_t (w_r 0) (w_s ?_);intros)
   all_goals exact gL
 ·exact⟨ZCr _,⟨gC,gC,gC⟩,⟨gC,gC⟩,gC⟩
abbrev XS (p:QTs):Prop:=XL p 400 6 400
theorem Zia {p q:QTs} (hp:XS p) (hq:XS q) (h12:p.length*q.length≤12):Pure prog 40 [qpA p,qpA q] (qpA (mulX p q)):=by
 have:=ZAb;have:=ZAa;have:=hp.l;have:=hq.l;exact exMulT p q hp.x hq.x zo zo zo zo zo zo
theorem Zj3 {p q:QTs} (hp:XS p) (hq:XS q):Pure prog 82 [qpA p,qpA q] (qpA (Zav p q)):=by
 have:=hp.l;have:=hq.l;exact exPlus p q hp.x.qk hq.x.qk hp.x.nz hq.x.nz zo zo zo zo zo
theorem Zi9 {p q:QTs} (hp:XS p) (hq:XS q):Pure prog 80 [qpA p,qpA q] (qpA (subX p q)):=by
 have:=hp.l;have:=hq.l;exact exMinus p q hp.x.qk hq.x.qk hp.x.nz hq.x.nz zo zo zo zo zo
theorem Zg1 {p q:QTs} (hp:XS p) (hq:XS q):Pure prog 26 [qpA p,qpA q] (qpA (mulX p q)):=by
 have h:=ZDe hp.l hq.l;have:=hp.l;have:=hq.l;exact Zx5 p q hp.x hq.x zo zo zo zo zo zo zo
theorem Zk2 {p q:QTs} (hp:XS p) (hq:XS q):Pure prog 68 [qpA p,qpA q] (qpA (Zav p q)):=by
 have:=hp.l;have:=hq.l;exact Zx4 p q hp.x.qk hq.x.qk zo zo zo zo zo
theorem Zjy {p q:QTs} (hp:XS p) (hq:XS q):Pure prog 129 [qpA p,qpA q] (qpA (subX p q)):=by
 have:=hp.l;have:=hq.l;exact rxMinus p q hp.x.qk hq.x.qk zo zo zo zo zo
theorem Zpe {p:QTs} (hp:XS p) {s:Rat} (hs:Sz s 2) (h0:s≠0):Pure prog 64 [qpA p,ratQ s] (qpA (sclT s p)):=by
 have:=hp.l;have c:=Zri p s hp.x.qk hs h0 zo zo zo
 rwa [Zpc] at c
theorem exOfS {q:Qt} (h:q.ok=true):Pure prog 35 [q.av] (qpA (ofX q)):=by
 have c:=exOf q
 rwa [of_ok h] at c
theorem Zvp {q:Qt} (h:q.ok=true):Pure prog 58 [q.av] (qpA (ofX q)):=by
 have c:=rxOf q
 rwa [of_ok h] at c
theorem cst_qp (u:Rat):nrmR (cstE u)=qpA (cstT u):=ZBl u
theorem Zqq {u:Rat} (h:Sz u 2):Pure prog 55 [ratQ u] (qpA (cstT u)):=by
 have c:=Zss u h zo
 rwa [cst_qp] at c
theorem Ztk {u:Rat} (h:Sz u 2):Pure prog 66 [ratQ u] (qpA (cstT u)):=by
 have c:=Zx6 u h zo
 rwa [cst_qp] at c
theorem rxHasS {p:QTs} (hp:XS p) (x:Int):Pure prog 57 [qpA p,iv x] (.v (.bool (hasT x p))):=by
 have:=hp.l;exact rxHas p x zo λt ht=>ZCk (hp.x.2.1 t ht) zo
theorem xs_of {q:Qt} (h:q.ok=true):XS (ofX q):=(Za9 h).mono zd zd zd
theorem Zs2 {u:Rat} (h:Sz u 2):XS (nX u):=(Zch h).mono zd zd zd
theorem XL.xs {p:QTs} {k n l:Nat} (h:XL p k n l) (hk:k≤400) (hn:n≤6) (hl:l≤400):XS p:=h.mono hk hn hl
abbrev Cb.av (c:Cb):AV:=.agg [ivs c.ps,.sl 1 (c.ab.map qpA),qpA c.be]
theorem Zgo {P:Program} {σs:Mem} {all:List Oper} {op:Op} {ty:TypeId} {pos:String} {af:Array Edge} {r:Res} {K:St→Prop} {e:Nat→AV} {m:Mem} (h:Zaj P ⟨e,m⟩ op=r) (hkp:Za1 σs r) (hk:aRes P 0 none r K ⟨e,m⟩):Zfc P 0 σs all true false ⟨none,op,ty,pos,af,none⟩ K ⟨e,m⟩:=by
 refine⟨?_,λ_=>⟨rfl,by rw [h];exact hkp,λh=>by cases h⟩⟩;unfold Zf7;rw [Zdb,h,Option.getD_none];exact hk
abbrev Pl.av (p:Pl):AV:=.agg [iv p.k,iv p.q,iv p.r,.v (.bool p.mid)]
theorem elPlaced (k a b c x:Int):Pure prog 37 [.agg [iv k,iv a,iv b,iv c],iv x] (Pl.av (plOf ⟨k,a,b,c⟩ x)):=by
 unfold plOf;simp only
 repeat' split
 ·refine pI func37 rfl ntmps37 results37 call37 ?_
  (refine wkad w_t w_t (w_1 (w_d 4 [] [5,7,1005,1007] [5])) (w_s ?_);intros)
  refine Zgo (by simp (disch:=omega) only [go_sem];rfl) (by simp (disch:=omega) [Za1,cutM,go_sem]) ?_
  (refine wkad w_t w_t w_t (w_s ?_);intros)
  refine Zgo (by simp (disch:=omega) only [go_sem];rfl) (by simp (disch:=omega) [Za1,cutM,go_sem]) ?_
  (refine wkad w_t w_t w_t (w_s ?_);intros)
  all_goals exact gL
 ·refine pI func37 rfl ntmps37 results37 call37 ?_
  (refine wkad w_t w_t (w_1 (w_d 6 [] [5,7,1005,1007] [5])) (w_s ?_);intros)
  refine Zgo (by simp (disch:=omega) only [go_sem];rfl) (by simp (disch:=omega) [Za1,cutM,go_sem]) ?_
  (refine wkad w_t w_t w_t (w_s ?_);intros)
  refine Zgo (by simp (disch:=omega) only [go_sem];rfl) (by simp (disch:=omega) [Za1,cutM,go_sem]) ?_
  (refine wkad w_t w_t w_t (w_s ?_);intros)
  all_goals exact gL
 ·refine pI func37 rfl ntmps37 results37 call37 ?_
  (refine wkad w_t w_t (w_1 (w_d 8 [] [5,7,1005,1007] [5])) (w_s ?_);intros)
  refine Zgo (by simp (disch:=omega) only [go_sem];rfl) (by simp (disch:=omega) [Za1,cutM,go_sem]) ?_
  (refine wkad w_t w_t w_t (w_s ?_);intros)
  refine Zgo (by simp (disch:=omega) only [go_sem];rfl) (by simp (disch:=omega) [Za1,cutM,go_sem]) ?_
  (refine wkad w_t w_t w_t (w_s ?_);intros)
  all_goals exact gL
 ·refine pI func37 rfl ntmps37 results37 call37 ?_
  (refine wkad w_t w_t (w_1 (w_d 10 [] [5,7,9,1005,1007,1009] [5])) (w_s ?_);intros)
  refine Zgo (by simp (disch:=omega) only [go_sem];rfl) (by simp (disch:=omega) [Za1,cutM,go_sem]) ?_
  (refine wkad w_t w_t w_t (w_s ?_);intros)
  refine Zgo (by simp (disch:=omega) only [go_sem];rfl) (by simp (disch:=omega) [Za1,cutM,go_sem]) ?_
  (refine wkad w_t w_t w_t (w_s ?_);intros)
  refine Zgo (by simp (disch:=omega) only [go_sem];rfl) (by simp (disch:=omega) [Za1,cutM,go_sem]) ?_
  (refine wkad w_t w_t w_t (w_s ?_);intros)
  all_goals exact gL
 ·rename_i h1 h2 h3;by_cases ha:a=x
  ·subst ha;have hc:¬c=a:=λh=>h2 ⟨rfl,h⟩;refine pI func37 rfl ntmps37 results37 call37 ?_
   (refine wkad (w_3 h1 h3 hc) w_t (w_1 (w_d 12 [] [5,7,9,1005,1007,1009] [5])) (w_s ?_);intros)
   refine Zgo (by simp (disch:=omega) only [go_sem];rfl) (by simp (disch:=omega) [Za1,cutM,go_sem]) ?_
   (refine wkad w_t w_t w_t (w_s ?_);intros)
   refine Zgo (by simp (disch:=omega) only [go_sem];rfl) (by simp (disch:=omega) [Za1,cutM,go_sem]) ?_
   (refine wkad w_t w_t w_t (w_s ?_);intros)
   refine Zgo (by simp (disch:=omega) only [go_sem];rfl) (by simp (disch:=omega) [Za1,cutM,go_sem]) ?_
   (refine wkad w_t w_t w_t (w_s ?_);intros)
   all_goals exact gL
  ·refine pI func37 rfl ntmps37 results37 call37 ?_
   (refine wkad (w_3 h1 h3 ha) w_t (w_1 (w_d 12 [] [5,7,9,1005,1007,1009] [5])) (w_s ?_);intros)
   refine Zgo (by simp (disch:=omega) only [go_sem];rfl) (by simp (disch:=omega) [Za1,cutM,go_sem]) ?_
   (refine wkad w_t w_t w_t (w_s ?_);intros)
   refine Zgo (by simp (disch:=omega) only [go_sem];rfl) (by simp (disch:=omega) [Za1,cutM,go_sem]) ?_
   (refine wkad w_t w_t w_t (w_s ?_);intros)
   refine Zgo (by simp (disch:=omega) only [go_sem];rfl) (by simp (disch:=omega) [Za1,cutM,go_sem]) ?_
   (refine wkad w_t w_t w_t (w_s ?_);intros)
   all_goals exact gL
 ·refine pI func37 rfl ntmps37 results37 call37 ?_
  (refine wkad w_t w_t (w_1 (w_d 14 [] [5,7,1005,1007] [5])) (w_s ?_);intros)
  refine Zgo (by simp (disch:=omega) only [go_sem];rfl) (by simp (disch:=omega) [Za1,cutM,go_sem]) ?_
  (refine wkad w_t w_t w_t (w_s ?_);intros)
  refine Zgo (by simp (disch:=omega) only [go_sem];rfl) (by simp (disch:=omega) [Za1,cutM,go_sem]) ?_
  (refine wkad w_t w_t w_t (w_s ?_);intros)
  all_goals exact gL
 ·refine pI func37 rfl ntmps37 results37 call37 ?_
  (refine wkad w_t w_t (w_1 (w_d 2 [] [5,7,1005,1007] [5])) (w_s ?_);intros)
  refine Zgo (by simp (disch:=omega) only [go_sem];rfl) (by simp (disch:=omega) [Za1,cutM,go_sem]) ?_
  (refine wkad w_t w_t w_t (w_s ?_);intros)
  refine Zgo (by simp (disch:=omega) only [go_sem];rfl) (by simp (disch:=omega) [Za1,cutM,go_sem]) ?_
  (refine wkad w_t w_t w_t (w_s ?_);intros)
  all_goals exact gL
theorem XL.s {p:QTs} {k n l:Nat} (h:XL p k n l) (hk:k≤400:=by decide) (hn:n≤6:=by decide) (hl:l≤400:=by decide):XS p:=h.mono hk hn hl
theorem Zj4 (a b c:Int) (h:Qt.ok ⟨1,a,b,c⟩=true):Pure prog 83 [iv a,iv b,iv c] (.sl 4 ((ofX ⟨1,a,b,c⟩).map qtA)):=by
 have c1:Pure prog 35 [.agg [iv 1,iv a,iv b,iv c]] (.sl 4 ((ofX ⟨1,a,b,c⟩).map qtA)):=exOfS h;show Pure _ _ [iv a,iv b,iv c] (.sl 4 ((ofX ⟨1,a,b,c⟩).map qtA));generalize (ofX ⟨1,a,b,c⟩).map qtA=G at *;refine pI func83 rfl ntmps83 results83 call83 ?_
 (refine wkap w_t (w_1 c1) (w_r 0) (w_s ?_);intros)
 all_goals exact gL
theorem Zdy (a b c:Int) (h:Qt.ok ⟨2,a,b,c⟩=true):Pure prog 81 [iv a,iv b,iv c] (.sl 4 ((ofX ⟨2,a,b,c⟩).map qtA)):=by
 have c1:Pure prog 35 [.agg [iv 2,iv a,iv b,iv c]] (.sl 4 ((ofX ⟨2,a,b,c⟩).map qtA)):=exOfS h;show Pure _ _ [iv a,iv b,iv c] (.sl 4 ((ofX ⟨2,a,b,c⟩).map qtA));generalize (ofX ⟨2,a,b,c⟩).map qtA=G at *;refine pI func81 rfl ntmps81 results81 call81 ?_
 (refine wkap w_t (w_1 c1) (w_r 0) (w_s ?_);intros)
 all_goals exact gL
theorem Zir (a b c:Int) (h:Qt.ok ⟨1,a,b,c⟩=true):Pure prog 128 [iv a,iv b,iv c] (.sl 4 ((ofX ⟨1,a,b,c⟩).map qtA)):=by
 have c1:Pure prog 58 [.agg [iv 1,iv a,iv b,iv c]] (.sl 4 ((ofX ⟨1,a,b,c⟩).map qtA)):=Zvp h;show Pure _ _ [iv a,iv b,iv c] (.sl 4 ((ofX ⟨1,a,b,c⟩).map qtA));generalize (ofX ⟨1,a,b,c⟩).map qtA=G at *;refine pI func128 rfl ntmps128 results128 call128 ?_
 (refine wkap w_t (w_1 c1) (w_r 0) (w_s ?_);intros)
 all_goals exact gL
theorem Zc6 (a b c:Int) (h:Qt.ok ⟨2,a,b,c⟩=true):Pure prog 127 [iv a,iv b,iv c] (.sl 4 ((ofX ⟨2,a,b,c⟩).map qtA)):=by
 have c1:Pure prog 58 [.agg [iv 2,iv a,iv b,iv c]] (.sl 4 ((ofX ⟨2,a,b,c⟩).map qtA)):=Zvp h;show Pure _ _ [iv a,iv b,iv c] (.sl 4 ((ofX ⟨2,a,b,c⟩).map qtA));generalize (ofX ⟨2,a,b,c⟩).map qtA=G at *;refine pI func127 rfl ntmps127 results127 call127 ?_
 (refine wkap w_t (w_1 c1) (w_r 0) (w_s ?_);intros)
 all_goals exact gL
theorem ZBb (z:Int) (b:Bool) (n d:List Nat) (G:List AV) (c1:Pure prog 56 [iv z] (.agg [.v (.bool b),lim n,lim d])) (c2:Pure prog 55 [.agg [.v (.bool b),lim n,lim d]] (.sl 4 G)):Pure prog 20 [iv z] (.sl 4 G):=by
 refine pI func20 rfl ntmps20 results20 call20 ?_
 (refine wkap w_t (w_2 c1 c2) (w_r 0) (w_s ?_);intros)
 all_goals exact gL
theorem Zib:Pure prog 20 [iv 1] (qpA (nX 1)):=ZBb 1 _ _ _ _ (Zpk (z:=1) (.inr (.inr rfl))) (Zqq (Zh7.mono zd))
theorem elNumM:Pure prog 20 [iv (-1)] (qpA (nX (-1))):=ZBb (-1) _ _ _ _ (Zpk (z:=-1) (.inl rfl)) (Zqq (Zxm.mono zd))
theorem elNum2:Pure prog 20 [iv 2] (qpA (nX 2)):=ZBb 2 _ _ _ _ (Zvw 2 zo) (Zqq (Zeh.mono zd))
theorem Zyn (z:Int) (b:Bool) (n d:List Nat) (G:List AV) (c1:Pure prog 65 [iv z] (.agg [.v (.bool b),lim n,lim d])) (c2:Pure prog 66 [.agg [.v (.bool b),lim n,lim d]] (.sl 4 G)):Pure prog 29 [iv z] (.sl 4 G):=by
 refine pI func29 rfl ntmps29 results29 call29 ?_
 (refine wkap w_t (w_2 c1 c2) (w_r 0) (w_s ?_);intros)
 all_goals exact gL
theorem Zfy:Pure prog 29 [iv 1] (qpA (nX 1)):=Zyn 1 _ _ _ _ (qOfS (z:=1) (.inr (.inr rfl))) (Ztk (Zh7.mono zd))
theorem rlNumM:Pure prog 29 [iv (-1)] (qpA (nX (-1))):=Zyn (-1) _ _ _ _ (qOfS (z:=-1) (.inl rfl)) (Ztk (Zxm.mono zd))
theorem rlNum2:Pure prog 29 [iv 2] (qpA (nX 2)):=Zyn 2 _ _ _ _ (qOf 2 zo) (Ztk (Zeh.mono zd))
theorem elHalfV (b:Bool) (n d:List Nat) (A C G:List AV) (c1:Pure prog 136 [iv 1,iv 2] (.agg [.v (.bool b),lim n,lim d])) (c2:Pure prog 55 [.agg [.v (.bool b),lim n,lim d]] (.sl 4 C)) (c3:Pure prog 40 [.sl 4 C,.sl 4 A] (.sl 4 G)):Pure prog 79 [.sl 4 A] (.sl 4 G):=by
 refine pI func79 rfl ntmps79 results79 call79 ?_
 (refine wkap w_t (w_3 c1 c2 c3) (w_r 0) (w_s ?_);intros)
 all_goals exact gL
theorem elHalf (p:QTs) (hp:XS p) (hl:p.length≤12):Pure prog 79 [qpA p] (qpA (hfX p)) :=
 elHalfV _ _ _ _ _ _ (by have h:=ratFrac 1 2 zo zo zo;rwa [show mkRat ((1:Nat):Int) 2=(1/2:Rat) from by decide +kernel] at h) (Zqq (Zjg.mono zd)) (Zia (Zs2 (Zjg.mono zd)) hp (ZCk (ZDe (Zgm _) hl) zd))
theorem elTwiceV (A C G:List AV) (c1:Pure prog 20 [iv 2] (.sl 4 C)) (c3:Pure prog 40 [.sl 4 C,.sl 4 A] (.sl 4 G)):Pure prog 84 [.sl 4 A] (.sl 4 G):=by
 refine pI func84 rfl ntmps84 results84 call84 ?_
 (refine wkap w_t (w_2 c1 c3) (w_r 0) (w_s ?_);intros)
 all_goals exact gL
theorem elTwice (p:QTs) (hp:XS p) (hl:p.length≤12):Pure prog 84 [qpA p] (qpA (twX p)) :=
 elTwiceV _ _ _ elNum2 (Zia (Zs2 (Zeh.mono zd)) hp (ZCk (ZDe (Zgm _) hl) zd))
theorem Zwj {p:QTs} {k n l:Nat} (x:XL p k n l) (h:l≤12:=by decide) (hk:k≤400:=by decide) (hn:n≤6:=by decide):Pure prog 84 [qpA p] (qpA (twX p)):=elTwice p (x.mono hk hn zo) (ZCk x.l h)
theorem elHfX {p:QTs} {k n l:Nat} (x:XL p k n l) (h:l≤12:=by decide) (hk:k≤400:=by decide) (hn:n≤6:=by decide):Pure prog 79 [qpA p] (qpA (hfX p)):=elHalf p (x.mono hk hn zo) (ZCk x.l h)
theorem ZAv {p q:QTs} {k n l j m i:Nat} (x:XL p k n l) (y:XL q j m i) (h:l*i≤12:=by decide) (hk:k≤400:=by decide) (hn:n≤6:=by decide) (hl:l≤400:=by decide) (hj:j≤400:=by decide) (hm:m≤6:=by decide) (hi:i≤400:=by decide):Pure prog 40 [qpA p,qpA q] (qpA (mulX p q)):=Zia (x.mono hk hn hl) (y.mono hj hm hi) (ZCk (ZDe x.l y.l) h)
theorem Zlt (a b:Int) (p q:QTs) (hp:XS p) (hq:XS q):Pure prog 206 [iv a,iv b,.sl 4 (p.map qtA),.sl 4 (q.map qtA)] (.agg [.sl 1 [iv a,iv b],.sl 1 [.sl 4 ((subX q p).map qtA),.sl 4 (p.map qtA)],.sl 4 (q.map qtA)]):=by
 have c1:Pure prog 80 [.sl 4 (q.map qtA),.sl 4 (p.map qtA)] (.sl 4 ((subX q p).map qtA)):=Zi9 hq hp;generalize (subX q p).map qtA=G at *;generalize p.map qtA=A at *;generalize q.map qtA=B at *;refine pI func206 rfl ntmps206 results206 call206 ?_
 (refine wkap w_t (w_1 c1) (w_r 0) (w_s ?_);intros)
 all_goals exact gL
theorem Zji (p q:QTs) (hp:XS p) (hq:XS q):Pure prog 193 [.sl 4 (p.map qtA),.sl 4 (q.map qtA)] (.sl 1 [.sl 4 ((subX q p).map qtA),.sl 4 (p.map qtA)]):=by
 have c1:Pure prog 129 [.sl 4 (q.map qtA),.sl 4 (p.map qtA)] (.sl 4 ((subX q p).map qtA)):=Zjy hq hp;generalize (subX q p).map qtA=G at *;generalize p.map qtA=A at *;generalize q.map qtA=B at *;refine pI func193 rfl ntmps193 results193 call193 ?_
 (refine wkap w_t (w_1 c1) (w_r 0) (w_s ?_);intros)
 all_goals exact gL
theorem elAt (k q r x:Int) (m:Bool) (h:(k=1→Qt.ok ⟨1,x,q,r⟩=true)∧(k≠1→m=true→Qt.ok ⟨2,q,x,r⟩=true)∧(k≠1→m=false→Qt.ok ⟨2,x,q,r⟩=true)) :
 Pure prog 85 [.agg [iv k,iv q,iv r,.v (.bool m)],iv x] (.sl 4 ((Pl.at ⟨k,q,r,m⟩ x).map qtA)):=by
 unfold Pl.at;simp only;split
 ·rename_i hk;have c1:=Zj4 x q r (h.1 hk);generalize (ofX ⟨1,x,q,r⟩).map qtA=G at *;refine pI func85 rfl ntmps85 results85 call85 ?_
  (refine wkap w_t (w_1 c1) (w_r 0) (w_s ?_);intros)
  all_goals exact gL
 ·split
  ·rename_i hk hm;subst hm;have c1:=Zdy q x r (h.2.1 hk rfl);generalize (ofX ⟨2,q,x,r⟩).map qtA=G at *;refine pI func85 rfl ntmps85 results85 call85 ?_
   (refine wkap w_t (w_1 c1) (w_r 0) (w_s ?_);intros)
   all_goals exact gL
  ·rename_i hk hm;obtain rfl:m=false:=by simpa using hm
   have c1:=Zdy x q r (h.2.2 hk rfl);generalize (ofX ⟨2,x,q,r⟩).map qtA=G at *;refine pI func85 rfl ntmps85 results85 call85 ?_
   (refine wkap w_t (w_1 c1) (w_r 0) (w_s ?_);intros)
   all_goals exact gL
theorem rlView (k a b c x:Int) (ha:0≤a∧a < 100) (hb:0≤b∧b < 100) (hx:0≤x∧x < 100):Pure prog 124 [.agg [iv k,iv a,iv b,iv c],iv x] (.tup [iv (vwX ⟨k,a,b,c⟩ x).1,iv (vwX ⟨k,a,b,c⟩ x).2.1,.v (.bool (vwX ⟨k,a,b,c⟩ x).2.2)]):=by
 unfold vwX;simp only
 repeat' split
 all_goals
  refine pI func124 rfl ntmps124 results124 call124 ?_;(focus (refine wkad w_t w_t w_t ?_;(repeat' first|exact w_t|apply w_l);all_goals intros));all_goals exact gL
theorem Zwq (M GG:List AV) (i:Nat) (a0 a1:Int) (V0 V1 V2:List AV) (k:Int) (nm A0:AV) (rb:Bool) (rn rd:List Nat) (hl:i < M.length) (hs:M.getD i .u=.agg [iv k,nm,A0,.v (.bool rb),lim rn,lim rd]) (c1:Pure prog 55 [.agg [.v (.bool rb),lim rn,lim rd]] (.sl 4 V0)) (c2:Pure prog 20 [iv 1] (.sl 4 V1)) (c3:Pure prog 206 [iv a0,iv a1,.sl 4 V0,.sl 4 V1] (.agg [.sl 1 [iv a0,iv a1],.sl 1 [.sl 4 V2,.sl 4 V0],.sl 4 V1])):Pure prog 140 [.agg [.sl 6 M,.sl 5 GG],iv i,.sl 1 [iv a0,iv a1]] (.agg [.sl 1 [iv a0,iv a1],.sl 1 [.sl 4 V2,.sl 4 V0],.sl 4 V1]):=by
 refine pI func140 rfl ntmps140 results140 call140 ?_
 (refine wkad (w_2 hl hs) (w_3 c1 c2 c3) (w_1 (w_d 1 [(12,.sl 4 V0),(13,.sl 4 V1),(14,.agg [.sl 1 [iv a0,iv a1],.sl 1 [.sl 4 V2,.sl 4 V0],.sl 4 V1])] [] [6])) (w_s ?_);intros)
 all_goals exact gL
theorem ZBc (M GG:List AV) (i:Nat) (a0 a1:Int) (k:Int) (nm A0:AV) (r:Rat) (hl:i < M.length) (hs:M.getD i .u=.agg [iv k,nm,A0,.v (.bool (decide (r.num < 0))),lim (toL r.num.natAbs),lim (toL r.den)]) (hr:Sz r 2) (h0:0≤a0∧a0 < 40) (h1:0≤a1∧a1 < 40):Pure prog 140 [.agg [.sl 6 M,.sl 5 GG],iv i,.sl 1 [iv a0,iv a1]] (.agg [.sl 1 [iv a0,iv a1],.sl 1 [qpA (subX (nX 1) (nX r)),qpA (nX r)],qpA (nX 1)]):=by
 have x0:=Zch hr;have x1:=Zch Zh7;exact Zwq M GG i a0 a1 _ _ _ k nm A0 _ _ _ hl hs (Zqq hr) (Zib) (Zlt _ _ _ _ (x0.s) (x1.s))
theorem Zwn (M GG:List AV) (i:Nat) (a0 a1 a2:Int) (V0 V1:List AV) (c1:Pure prog 20 [iv 1] (.sl 4 V0)) (c2:Pure prog 20 [iv (-1)] (.sl 4 V1)):Pure prog 141 [.agg [.sl 6 M,.sl 5 GG],iv i,.sl 1 [iv a0,iv a1,iv a2]] (.agg [.sl 1 [iv a0,iv a1,iv a2],.sl 1 [.sl 4 V0,.sl 4 V1,.sl 4 V0],.sl 4 V0]):=by
 refine pI func141 rfl ntmps141 results141 call141 ?_
 (refine wkap w_t (w_2 c1 c2) (w_r 0) (w_s ?_);intros)
 all_goals exact gL
theorem ZA8 (M GG:List AV) (i:Nat) (a0 a1 a2:Int) (h0:0≤a0∧a0 < 40) (h1:0≤a1∧a1 < 40) (h2:0≤a2∧a2 < 40):Pure prog 141 [.agg [.sl 6 M,.sl 5 GG],iv i,.sl 1 [iv a0,iv a1,iv a2]] (.agg [.sl 1 [iv a0,iv a1,iv a2],.sl 1 [qpA (nX 1),qpA (nX (-1)),qpA (nX 1)],qpA (nX 1)]):=by
 exact Zwn M GG i a0 a1 a2 _ _ (Zib) (elNumM)
theorem ZBa (M GG:List AV) (i:Nat) (a0 a1:Int) (V0 V1 V2:List AV) (t:Int) (c1:Pure prog 207 [.agg [.sl 6 M,.sl 5 GG],iv i] (iv t)) (c2:Pure prog 35 [.agg [iv 3,iv t,iv 0,iv 0]] (.sl 4 V0)) (c3:Pure prog 20 [iv 1] (.sl 4 V1)) (c4:Pure prog 206 [iv a0,iv a1,.sl 4 V0,.sl 4 V1] (.agg [.sl 1 [iv a0,iv a1],.sl 1 [.sl 4 V2,.sl 4 V0],.sl 4 V1])):Pure prog 142 [.agg [.sl 6 M,.sl 5 GG],iv i,.sl 1 [iv a0,iv a1]] (.agg [.sl 1 [iv a0,iv a1],.sl 1 [.sl 4 V2,.sl 4 V0],.sl 4 V1]):=by
 refine pI func142 rfl ntmps142 results142 call142 ?_
 (refine wkad w_t (w_4 c1 c2 c3 c4) (w_1 (w_d 2 [(7,.sl 4 V1),(8,.agg [.sl 1 [iv a0,iv a1],.sl 1 [.sl 4 V2,.sl 4 V0],.sl 4 V1])] [] [6])) (w_s ?_);intros)
 all_goals exact gL
theorem elOnLine (M GG:List AV) (i:Nat) (a0 a1:Int) (t:Int) (hT:Qt.ok ⟨3,t,0,0⟩=true) (cp:Pure prog 207 [.agg [.sl 6 M,.sl 5 GG],iv i] (iv t)) (h0:0≤a0∧a0 < 40) (h1:0≤a1∧a1 < 40):Pure prog 142 [.agg [.sl 6 M,.sl 5 GG],iv i,.sl 1 [iv a0,iv a1]] (.agg [.sl 1 [iv a0,iv a1],.sl 1 [qpA (subX (nX 1) (ofX ⟨3,t,0,0⟩)),qpA (ofX ⟨3,t,0,0⟩)],qpA (nX 1)]):=by
 have x0:=Za9 hT;have x1:=Zch Zh7;exact ZBa M GG i a0 a1 _ _ _ t (cp) (exOfS hT) (Zib) (Zlt _ _ _ _ (x0.s) (x1.s))
theorem elMetV (M GG:List AV) (i:Nat) (a0 a1 a2 a3:Int) (V0 V1 V2 V3:List AV) (c1:Pure prog 83 [iv a0,iv a2,iv a3] (.sl 4 V0)) (c2:Pure prog 83 [iv a1,iv a2,iv a3] (.sl 4 V1)) (c3:Pure prog 80 [.sl 4 V0,.sl 4 V1] (.sl 4 V2)) (c4:Pure prog 206 [iv a0,iv a1,.sl 4 V0,.sl 4 V2] (.agg [.sl 1 [iv a0,iv a1],.sl 1 [.sl 4 V3,.sl 4 V0],.sl 4 V2])):Pure prog 143 [.agg [.sl 6 M,.sl 5 GG],iv i,.sl 1 [iv a0,iv a1,iv a2,iv a3]] (.agg [.sl 1 [iv a0,iv a1],.sl 1 [.sl 4 V3,.sl 4 V0],.sl 4 V2]):=by
 refine pI func143 rfl ntmps143 results143 call143 ?_
 (refine wkad w_t (w_4 c1 c2 c3 c4) (w_2 (w_d 1 [(9,.sl 4 V0)] [] []) (w_d 2 [(17,.sl 4 V1),(18,.sl 4 V2),(19,.agg [.sl 1 [iv a0,iv a1],.sl 1 [.sl 4 V3,.sl 4 V0],.sl 4 V2])] [] [6])) (w_s ?_);intros)
 all_goals exact gL
theorem elMet (M GG:List AV) (i:Nat) (a0 a1 a2 a3:Int) (h0:0≤a0∧a0 < 40) (h1:0≤a1∧a1 < 40) (h2:0≤a2∧a2 < 40) (h3:0≤a3∧a3 < 40):Pure prog 143 [.agg [.sl 6 M,.sl 5 GG],iv i,.sl 1 [iv a0,iv a1,iv a2,iv a3]] (.agg [.sl 1 [iv a0,iv a1],.sl 1 [qpA (subX (subX (aX a0 a2 a3) (aX a1 a2 a3)) (aX a0 a2 a3)),qpA (aX a0 a2 a3)],qpA (subX (aX a0 a2 a3) (aX a1 a2 a3))]):=by
 have x0:=Za9 (Zan (.inl rfl) h0 h2 h3);have x1:=Za9 (Zan (.inl rfl) h1 h2 h3);have x2:=x0.sub x1;exact elMetV M GG i a0 a1 a2 a3 _ _ _ _ (Zj4 _ _ _ (Zan (.inl rfl) h0 h2 h3)) (Zj4 _ _ _ (Zan (.inl rfl) h1 h2 h3)) (Zi9 (x0.s) (x1.s)) (Zlt _ _ _ _ (x0.s) (x2.s))
theorem elFootV (M GG:List AV) (i:Nat) (a0 a1 a2:Int) (V0 V1 V2:List AV) (c1:Pure prog 81 [iv a0,iv a1,iv a2] (.sl 4 V0)) (c2:Pure prog 81 [iv a2,iv a1,iv a2] (.sl 4 V1)) (c3:Pure prog 206 [iv a1,iv a2,.sl 4 V0,.sl 4 V1] (.agg [.sl 1 [iv a1,iv a2],.sl 1 [.sl 4 V2,.sl 4 V0],.sl 4 V1])):Pure prog 144 [.agg [.sl 6 M,.sl 5 GG],iv i,.sl 1 [iv a0,iv a1,iv a2]] (.agg [.sl 1 [iv a1,iv a2],.sl 1 [.sl 4 V2,.sl 4 V0],.sl 4 V1]):=by
 refine pI func144 rfl ntmps144 results144 call144 ?_
 (refine wkad w_t (w_3 c1 c2 c3) (w_1 (w_d 1 [(15,.sl 4 V0),(25,.sl 4 V1),(26,.agg [.sl 1 [iv a1,iv a2],.sl 1 [.sl 4 V2,.sl 4 V0],.sl 4 V1])] [] [6])) (w_s ?_);intros)
 all_goals exact gL
theorem elFoot (M GG:List AV) (i:Nat) (a0 a1 a2:Int) (h0:0≤a0∧a0 < 40) (h1:0≤a1∧a1 < 40) (h2:0≤a2∧a2 < 40):Pure prog 144 [.agg [.sl 6 M,.sl 5 GG],iv i,.sl 1 [iv a0,iv a1,iv a2]] (.agg [.sl 1 [iv a1,iv a2],.sl 1 [qpA (subX (pX a2 a1 a2) (pX a0 a1 a2)),qpA (pX a0 a1 a2)],qpA (pX a2 a1 a2)]):=by
 have x0:=Za9 (Zan (.inr rfl) h0 h1 h2);have x1:=Za9 (Zan (.inr rfl) h2 h1 h2);exact elFootV M GG i a0 a1 a2 _ _ _ (Zdy _ _ _ (Zan (.inr rfl) h0 h1 h2)) (Zdy _ _ _ (Zan (.inr rfl) h2 h1 h2)) (Zlt _ _ _ _ (x0.s) (x1.s))
theorem elOtherV (M GG:List AV) (i:Nat) (a0 a1 a2:Int) (V0 V1 V2 V3:List AV) (c1:Pure prog 81 [iv a2,iv a0,iv a1] (.sl 4 V0)) (c2:Pure prog 84 [.sl 4 V0] (.sl 4 V1)) (c3:Pure prog 81 [iv a1,iv a0,iv a1] (.sl 4 V2)) (c4:Pure prog 206 [iv a0,iv a1,.sl 4 V1,.sl 4 V2] (.agg [.sl 1 [iv a0,iv a1],.sl 1 [.sl 4 V3,.sl 4 V1],.sl 4 V2])):Pure prog 146 [.agg [.sl 6 M,.sl 5 GG],iv i,.sl 1 [iv a0,iv a1,iv a2]] (.agg [.sl 1 [iv a0,iv a1],.sl 1 [.sl 4 V3,.sl 4 V1],.sl 4 V2]):=by
 refine pI func146 rfl ntmps146 results146 call146 ?_
 (refine wkad w_t (w_4 c1 c2 c3 c4) (w_1 (w_d 1 [(15,.sl 4 V0),(16,.sl 4 V1),(26,.sl 4 V2),(27,.agg [.sl 1 [iv a0,iv a1],.sl 1 [.sl 4 V3,.sl 4 V1],.sl 4 V2])] [] [6])) (w_s ?_);intros)
 all_goals exact gL
theorem elOther (M GG:List AV) (i:Nat) (a0 a1 a2:Int) (h0:0≤a0∧a0 < 40) (h1:0≤a1∧a1 < 40) (h2:0≤a2∧a2 < 40):Pure prog 146 [.agg [.sl 6 M,.sl 5 GG],iv i,.sl 1 [iv a0,iv a1,iv a2]] (.agg [.sl 1 [iv a0,iv a1],.sl 1 [qpA (subX (pX a1 a0 a1) (twX (pX a2 a0 a1))),qpA (twX (pX a2 a0 a1))],qpA (pX a1 a0 a1)]):=by
 have x0:=Za9 (Zan (.inr rfl) h2 h0 h1);have x1:=(Zch Zeh).mul x0;have x2:=Za9 (Zan (.inr rfl) h1 h0 h1);exact elOtherV M GG i a0 a1 a2 _ _ _ _ (Zdy _ _ _ (Zan (.inr rfl) h2 h0 h1)) (Zwj x0) (Zdy _ _ _ (Zan (.inr rfl) h1 h0 h1)) (Zlt _ _ _ _ (x1.s) (x2.s))
theorem elSch2:Pure prog 86 [iv 2] (.tup [.agg [.fn 140 []],.v (.bool true)]):=by
 refine pI func86 rfl ntmps86 results86 call86 ?_
 (refine wkap w_t w_t (w_r 0) (w_s ?_);intros)
 all_goals exact gL
theorem elSch3:Pure prog 86 [iv 3] (.tup [.agg [.fn 141 []],.v (.bool true)]):=by
 refine pI func86 rfl ntmps86 results86 call86 ?_
 (refine wkap w_t w_t (w_r 0) (w_s ?_);intros)
 all_goals exact gL
theorem elSch5:Pure prog 86 [iv 5] (.tup [.agg [.fn 142 []],.v (.bool true)]):=by
 refine pI func86 rfl ntmps86 results86 call86 ?_
 (refine wkap w_t w_t (w_r 0) (w_s ?_);intros)
 all_goals exact gL
theorem elSch9:Pure prog 86 [iv 9] (.tup [.agg [.fn 143 []],.v (.bool true)]):=by
 refine pI func86 rfl ntmps86 results86 call86 ?_
 (refine wkap w_t w_t (w_r 0) (w_s ?_);intros)
 all_goals exact gL
theorem elSch7:Pure prog 86 [iv 7] (.tup [.agg [.fn 144 []],.v (.bool true)]):=by
 refine pI func86 rfl ntmps86 results86 call86 ?_
 (refine wkap w_t w_t (w_r 0) (w_s ?_);intros)
 all_goals exact gL
theorem elSch8:Pure prog 86 [iv 8] (.tup [.agg [.fn 145 []],.v (.bool true)]):=by
 refine pI func86 rfl ntmps86 results86 call86 ?_
 (refine wkap w_t w_t (w_r 0) (w_s ?_);intros)
 all_goals exact gL
theorem elSch10:Pure prog 86 [iv 10] (.tup [.agg [.fn 146 []],.v (.bool true)]):=by
 refine pI func86 rfl ntmps86 results86 call86 ?_
 (refine wkap w_t w_t (w_r 0) (w_s ?_);intros)
 all_goals exact gL
theorem elSch11:Pure prog 86 [iv 11] (.tup [.agg [.fn 147 []],.v (.bool true)]):=by
 refine pI func86 rfl ntmps86 results86 call86 ?_
 (refine wkap w_t w_t (w_r 0) (w_s ?_);intros)
 all_goals exact gL
theorem elSch0 (k:Int) (hk:¬k=2∧¬k=3∧¬k=5∧¬k=9∧¬k=7∧¬k=8∧¬k=10∧¬k=11):Pure prog 86 [iv k] (.tup [.agg [.v .nilFunc],.v (.bool false)]):=by
 obtain⟨k2,k3,k5,k9,k7,k8,k10,k11⟩:=hk;refine pI func86 rfl ntmps86 results86 call86 ?_
 (refine wkap (w_8 k2 k3 k5 k9 k7 k8 k10 k11) w_t (w_r 0) (w_s ?_);intros)
 all_goals exact gL
theorem Zg0 (a b:Int) (l:List Int) (hl:l.length≤1000000):Pure prog 87 [.sl 1 (iv a :: iv b :: l.map iv)] (.sl 1 (iv a :: iv b :: l.map iv)):=by
 have hl:(l.map iv).length≤1000000:=by rw [ZCj];exact hl
 generalize l.map iv=L at *;refine pI func87 rfl ntmps87 results87 call87 ?_
 (refine wkap (w_1 hl) w_t (w_r 0) (w_s ?_);intros)
 all_goals exact gL
theorem elComb0 (M G:List AV) (i:Nat) (k:Int) (nm:AV) (A0:List AV) (rb rn rd:AV) (hi:i < M.length) (hs:M.getD i .u=.agg [iv k,nm,.sl 1 A0,rb,rn,rd]) (c0:Pure prog 86 [iv k] (.tup [.agg [.v .nilFunc],.v (.bool false)])) :
 Pure prog 38 [.agg [.sl 6 M,.sl 5 G],iv i] (.tup [.agg [.v (.slice none 0 0),.v (.slice none 0 0),.v (.slice none 0 0)],iv 8]):=by
 refine pI func38 rfl ntmps38 results38 call38 ?_
 (refine wkad (w_2 hi hs) (w_1 c0) w_t (w_s ?_);intros)
 all_goals exact gL
theorem elComb1 (M G:List AV) (i:Nat) (k:Int) (nm:AV) (A0:List AV) (rb rn rd:AV) (f:Nat) (ps ab be:List AV) (hi:i < M.length) (hs:M.getD i .u=.agg [iv k,nm,.sl 1 A0,rb,rn,rd]) (c0:Pure prog 86 [iv k] (.tup [.agg [.fn f []],.v (.bool true)]))
 (c1:Pure prog 87 [.sl 1 A0] (.sl 1 A0)) (c2:Pure prog f [.agg [.sl 6 M,.sl 5 G],iv i,.sl 1 A0] (.agg [.sl 1 ps,.sl 1 ab,.sl 4 be])) (hb:be.length≤100) :
 Pure prog 38 [.agg [.sl 6 M,.sl 5 G],iv i] (if be.length=0 then .tup [.agg [.v (.slice none 0 0),.v (.slice none 0 0),.v (.slice none 0 0)],iv 3] else .tup [.agg [.sl 1 ps,.sl 1 ab,.sl 4 be],iv 0]):=by
 by_cases h0:be.length=0
 ·rw [ZCh h0];refine pI func38 rfl ntmps38 results38 call38 ?_
  (refine wkad (w_3 hi hs h0) (w_3 c0 c1 c2) (w_1 (w_d 4 [(10,.sl 1 A0),(11,.agg [.sl 1 ps,.sl 1 ab,.sl 4 be])] [] [])) (w_s ?_);intros)
  all_goals exact gL
 ·rw [ZCg h0];refine pI func38 rfl ntmps38 results38 call38 ?_
  (refine wkad (w_3 hi hs h0) (w_3 c0 c1 c2) (w_1 (w_d 4 [(10,.sl 1 A0),(11,.agg [.sl 1 ps,.sl 1 ab,.sl 4 be])] [] [])) (w_s ?_);intros)
  all_goals exact gL
theorem Zqz {R:AV→Mem→Prop} {b r:AV} {m σ':Mem} (d t d' t':Nat) (hd:d < 1000) (hd':d' < 1000) (hdd:d≠d') (htt:t≠t') (hs:Sub b r) (hR:R r σ') (ht:m d=σ' t) (ht':m d'=σ' t') (hm:∀k,k≠t→k≠t'→σ' k≠none→m (k+1000)=σ' k):Back R b m:=by
 refine⟨r,σ',λk=>if k=t then d else if k=t' then d' else k+1000,hs,hR,λk e h=>?_,λk k' _ _ h=>?_⟩
 ·by_cases h1:k=t
  ·subst h1;simp only [ZDf];rw [ht,h]
  ·by_cases h2:k=t'
   ·subst h2;simp only [ZCg h1,ZDf];rw [ht',h]
   ·simp only [ZCg h1,ZCg h2];rw [hm k h1 h2 (by rw [h];simp),h]
 ·simp only at h;split at h<;>split at h<;>(try split at h)<;>(try split at h)<;>omega
theorem Zt9 {P:Program} {t d:Nat} {f:FuncId} {args:List AV} {e:Nat→AV} {m:Mem} {K:St→Prop} {x:Value→Value→AV} {m':Value→Value→Mem} (c:ACall P f args m λr σ'=>∃s1 s2,r=x s1 s2∧σ'=m' s1 s2) (h:∀s1 s2,K ⟨upd e d (x s1 s2),m' s1 s2⟩):aRes P t (some d) (.call f args) K ⟨e,m⟩ :=
 c.mono λr σ' ⟨s1,s2,h1,h2⟩=>by subst h1;subst h2;exact h s1 s2
theorem Zlk {P:Program} {n:Nat} {K:St→Prop} {st:St} (h:K st):Zj7 P n [] K st:=h
theorem sub3 {a b c a' b' c':AV} (h1:Sub a a') (h2:Sub b b') (h3:Sub c c'):Sub (.agg [a,b,c]) (.agg [a',b',c']):=Sub.agg _ _ rfl λj x y hx hy=>by
 match j with
 | 0=>cases hx;cases hy;exact h1
 | 1=>cases hx;cases hy;exact h2
 | 2=>cases hx;cases hy;exact h3
 | j+3=>cases hx
theorem ZA9 (σ:Mem) (K1 K2:Nat) (h12:K1≠K2) (a b:Int) (A B S:List AV) (c1:Pure prog 80 [.sl 4 B,.sl 4 A] (.sl 4 S)):ACall prog 206 [iv a,iv b,.sl 4 A,.sl 4 B] σ λr σ'=>∃s1 s2,r=.agg [.own K1 s1,.own K2 s2,.sl 4 B]∧σ'=upd (upd σ K1 (some (.row s1 3 1 [iv a,iv b] 0))) K2 (some (.row s2 27 1 [.sl 4 S,.sl 4 A] 0)):=by
 refine Zh0 func206 rfl ntmps206 results206 call206 zr zs (.cons (Sub.refl _) (.cons (Sub.refl _) (.cons (Sub.refl _) (.cons (Sub.refl _) .nil)))) ?_;have hL:∀k,lent σ (k+1000)=σ k:=λk=>by unfold lent;rw [ZCg zo,ZFb]
 generalize lent σ=m0 at *
 (refine wkap w_t (w_1 c1) (w_r 0) (w_s ?_);intros)
 all_goals simp (disch:=omega) only [go_sem]
 rename_i s1 s2;refine Zqz (r:=.agg [.own K1 s1,.own K2 s2,.sl 4 B]) 11 K1 16 K2 zo zo zo h12 (sub3 (Sub.own _ _ _) (Sub.own _ _ _) (Sub.refl _)) ⟨s1,s2,rfl,rfl⟩ ?_ ?_ ?_
 ·simp (disch:=omega) only [Zaq,ZCh,ZCg,ZDf]
 ·simp (disch:=omega) only [Zaq,ZCh,ZCg,ZDf]
 ·intro k h1 h2 _;simp (disch:=omega) only [Zaq,ZCh,ZCg];exact hL k
theorem elFootAV (σ:Mem) (K1 K2:Nat) (h12:K1≠K2) (M GG:List AV) (i:Nat) (a0 a1 a2:Int) (V0 V1 S:List AV) (c1:Pure prog 81 [iv a0,iv a1,iv a2] (.sl 4 V0)) (c2:Pure prog 81 [iv a2,iv a1,iv a2] (.sl 4 V1)) (c3:Pure prog 80 [.sl 4 V1,.sl 4 V0] (.sl 4 S)):ACall prog 144 [.agg [.sl 6 M,.sl 5 GG],iv i,.sl 1 [iv a0,iv a1,iv a2]] σ λr σ'=>∃s1 s2,r=.agg [.own K1 s1,.own K2 s2,.sl 4 V1]∧σ'=upd (upd σ K1 (some (.row s1 3 1 [iv a1,iv a2] 0))) K2 (some (.row s2 27 1 [.sl 4 S,.sl 4 V0] 0)):=by
 refine Zh0 func144 rfl ntmps144 results144 call144 zr zs (.cons (Sub.refl _) (.cons (Sub.refl _) (.cons (Sub.refl _) .nil))) ?_;have hL:∀k,lent σ (k+1000)=σ k:=λk=>by unfold lent;rw [ZCg zo,ZFb]
 generalize lent σ=m0 at *
 (refine wkax w_t w_t w_t w_t w_t w_t w_t (w_r 0) (w_s ?_);intros)
 refine Zjj 26 (Zdv [(15,.sl 4 V0),(25,.sl 4 V1)]) [] [] (by simp only [ZG0,ZEy];rfl) (by simp only [ZGz,ZEl];rfl) zk zr zk zk (by simp only [ZCu,ZC6,Nat.reduceAdd];rfl) ?_
 (refine wkax w_t (w_2 c1 c2) w_t w_t w_t w_t w_t (w_r 0) (w_s ?_);intros)
 intro _;refine⟨_,Frz.refl _ _,?_⟩
 (refine wkax w_t w_t w_t w_t w_t w_t w_t (w_r 0) (w_s ?_);intros)
 refine Zt9 (ZA9 _ 177 178 zo a1 a2 V0 V1 S c3) ?_;intro s1 s2
 (refine wkax w_t w_t w_t w_t w_t w_t w_t (w_r 0) (w_s ?_);intros)
 refine⟨_,Frz.refl _ _,?_⟩;intro _;refine⟨_,Frz.refl _ _,?_⟩
 (refine wkax w_t w_t w_t w_t w_t w_t w_t (w_r 0) (w_s ?_);intros)
 refine⟨_,Frz.refl _ _,?_⟩;refine Zlk ?_
 (refine wkax w_t w_t w_t w_t w_t w_t w_t (w_r 0) (w_s ?_);intros)
 all_goals simp (disch:=omega) only [go_sem]
 refine Zqz (r:=.agg [.own K1 s1,.own K2 s2,.sl 4 V1]) 177 K1 178 K2 zo zo zo h12 (sub3 (Sub.own _ _ _) (Sub.own _ _ _) (Sub.refl _)) ⟨s1,s2,rfl,rfl⟩ ?_ ?_ ?_
 ·simp (disch:=omega) only [Zaq,ZCh,ZCg,ZDf]
 ·simp (disch:=omega) only [Zaq,ZCh,ZCg,ZDf]
 ·intro k h1 h2 _;simp (disch:=omega) only [Zaq,ZCh,ZCg];exact hL k
theorem Zsv (M GG:List AV) (i:Nat) (a0 a1 a2:Int) (V0 V1 S T1 T2 NB:List AV) (c1:Pure prog 81 [iv a0,iv a1,iv a2] (.sl 4 V0)) (c2:Pure prog 81 [iv a2,iv a1,iv a2] (.sl 4 V1)) (c3:Pure prog 80 [.sl 4 V1,.sl 4 V0] (.sl 4 S))
 (c4:Pure prog 84 [.sl 4 S] (.sl 4 T1)) (c5:Pure prog 84 [.sl 4 V0] (.sl 4 T2)) (c6:Pure prog 80 [.v (.slice none 0 0),.sl 4 V1] (.sl 4 NB)) :
 Pure prog 145 [.agg [.sl 6 M,.sl 5 GG],iv i,.sl 1 [iv a0,iv a1,iv a2]] (.agg [.sl 1 [iv a1,iv a2,iv a0],.sl 1 [.sl 4 T1,.sl 4 T2,.sl 4 NB],.sl 4 V1]):=by
 refine pI func145 rfl ntmps145 results145 call145 ?_
 (refine wkax w_t w_t w_t w_t w_t w_t w_t (w_r 0) (w_s ?_);intros)
 refine Zt9 (elFootAV _ 277 278 zo M GG i a0 a1 a2 V0 V1 S c1 c2 c3) ?_;intro s1 s2
 (refine wkax w_t w_t w_t w_t w_t w_t w_t (w_r 0) (w_s ?_);intros)
 refine Zjj 6 (Zdv []) [] [] (by simp only [ZG0,ZEy];rfl) (by simp only [ZGz,ZEl];rfl) zk zr zk zk (by simp only [ZCu,ZC6,Nat.reduceAdd];rfl) ?_
 (refine wkax w_t w_t w_t w_t w_t w_t w_t (w_r 0) (w_s ?_);intros)
 intro _;refine⟨_,Frz.refl _ _,?_⟩
 (refine wkax w_t w_t w_t w_t w_t w_t w_t (w_r 0) (w_s ?_);intros)
 refine⟨_,Frz.refl _ _,?_⟩;intro _;refine⟨_,Frz.refl _ _,?_⟩
 (refine wkax w_t w_t w_t w_t w_t w_t w_t (w_r 0) (w_s ?_);intros)
 refine⟨_,Frz.refl _ _,?_⟩;intro _;refine⟨_,Frz.refl _ _,?_⟩
 (refine wkax w_t w_t w_t w_t w_t w_t w_t (w_r 0) (w_s ?_);intros)
 refine⟨_,Frz.refl _ _,?_⟩;refine Zlk ?_
 (refine wkax w_t w_t w_t w_t w_t w_t w_t (w_r 0) (w_s ?_);intros)
 refine Zjj 14 (Zdv [(4,.sl 4 T1),(9,.sl 4 T2),(12,.sl 4 NB)]) [] [] (by simp only [ZG0,ZEy];rfl) (by simp only [ZGz,ZEl];rfl) zk zr zk zk (by simp only [ZCu,ZC6,Nat.reduceAdd];rfl) ?_
 (refine wkax w_t (w_3 c4 c5 c6) w_t w_t w_t w_t w_t (w_r 0) (w_s ?_);intros)
 intro _;refine⟨_,Frz.refl _ _,?_⟩
 (refine wkax w_t w_t w_t w_t w_t w_t w_t (w_r 0) (w_s ?_);intros)
 refine⟨_,Frz.refl _ _,?_⟩;intro _;refine⟨_,Frz.refl _ _,?_⟩
 (refine wkax w_t w_t w_t w_t w_t w_t w_t (w_r 0) (w_s ?_);intros)
 refine⟨_,Frz.refl _ _,?_⟩;refine Zlk ?_
 (refine wkax w_t w_t w_t w_t w_t w_t w_t (w_r 0) (w_s ?_);intros)
 all_goals exact gL
theorem Zwp (M GG:List AV) (i:Nat) (a0 a1 a2:Int) (h0:0≤a0∧a0 < 40) (h1:0≤a1∧a1 < 40) (h2:0≤a2∧a2 < 40):Pure prog 145 [.agg [.sl 6 M,.sl 5 GG],iv i,.sl 1 [iv a0,iv a1,iv a2]] (.agg [.sl 1 [iv a1,iv a2,iv a0],.sl 1 [qpA (twX (subX (pX a2 a1 a2) (pX a0 a1 a2))),qpA (twX (pX a0 a1 a2)),qpA (subX ([]) (pX a2 a1 a2))],qpA (pX a2 a1 a2)]):=by
 have x0:=Za9 (Zan (.inr rfl) h0 h1 h2);have x1:=Za9 (Zan (.inr rfl) h2 h1 h2);have x2:=x1.sub x0;exact Zsv M GG i a0 a1 a2 _ _ _ _ _ _ (Zdy _ _ _ (Zan (.inr rfl) h0 h1 h2)) (Zdy _ _ _ (Zan (.inr rfl) h2 h1 h2)) (Zi9 x1.s x0.s) (Zwj x2) (Zwj x0) (Zhr (Zi9 XL.nil.s x1.s) (.cons (.nil 4) (.cons (.refl _) .nil)))
theorem nilAdd {p:QTs} (h:XS p):Pure prog 82 [.v (.slice none 0 0),qpA p] (qpA p):=by
 have c:=Zj3 XL.nil.s h;have e:Zav [] p=p:=by cases p<;>simp [addP]
 rw [e] at c;exact Zhr c (.cons (.nil 4) (.cons (.refl _) .nil))
theorem ZBd (M GG:List AV) (i:Nat) (a0 a1 a2:Int) (V0 V1 V2 V3 V4 V5 V6 V7 V8 V9 V10:List AV) (c1:Pure prog 81 [iv a1,iv a2,iv a1] (.sl 4 V0)) (c2:Pure prog 81 [iv a1,iv a0,iv a2] (.sl 4 V1)) (c3:Pure prog 40 [.sl 4 V0,.sl 4 V1] (.sl 4 V2)) (c4:Pure prog 81 [iv a2,iv a0,iv a2] (.sl 4 V3)) (c5:Pure prog 81 [iv a2,iv a1,iv a0] (.sl 4 V4)) (c6:Pure prog 40 [.sl 4 V3,.sl 4 V4] (.sl 4 V5)) (c7:Pure prog 81 [iv a0,iv a1,iv a0] (.sl 4 V6)) (c8:Pure prog 81 [iv a0,iv a2,iv a1] (.sl 4 V7)) (c9:Pure prog 40 [.sl 4 V6,.sl 4 V7] (.sl 4 V8)) (c10:Pure prog 82 [.v (.slice none 0 0),.sl 4 V2] (.sl 4 V2)) (c11:Pure prog 82 [.sl 4 V2,.sl 4 V5] (.sl 4 V9)) (c12:Pure prog 82 [.sl 4 V9,.sl 4 V8] (.sl 4 V10)):Pure prog 147 [.agg [.sl 6 M,.sl 5 GG],iv i,.sl 1 [iv a0,iv a1,iv a2]] (.agg [.sl 1 [iv a0,iv a1,iv a2],.sl 1 [.sl 4 V2,.sl 4 V5,.sl 4 V8],.sl 4 V10]):=by
 have t1:Int.tmod 1 3=1:=rfl;have t2:Int.tmod 2 3=2:=rfl;have t3:Int.tmod 3 3=0:=rfl;have t4:Int.tmod 4 3=1:=rfl;refine pI func147 rfl ntmps147 results147 call147 ?_
 (refine wkax (w_4 t1 t2 t3 t4) (w_12 c1 c2 c3 c4 c5 c6 c7 c8 c9 c10 c11 c12) w_t w_t w_t w_t w_y (w_r 4) (w_s ?_);intros)
 all_goals exact gL
theorem elCenter (M GG:List AV) (i:Nat) (a0 a1 a2:Int) (h0:0≤a0∧a0 < 40) (h1:0≤a1∧a1 < 40) (h2:0≤a2∧a2 < 40):Pure prog 147 [.agg [.sl 6 M,.sl 5 GG],iv i,.sl 1 [iv a0,iv a1,iv a2]] (.agg [.sl 1 [iv a0,iv a1,iv a2],.sl 1 [qpA (mulX (pX a1 a2 a1) (pX a1 a0 a2)),qpA (mulX (pX a2 a0 a2) (pX a2 a1 a0)),qpA (mulX (pX a0 a1 a0) (pX a0 a2 a1))],qpA (Zav (Zav (mulX (pX a1 a2 a1) (pX a1 a0 a2)) (mulX (pX a2 a0 a2) (pX a2 a1 a0))) (mulX (pX a0 a1 a0) (pX a0 a2 a1)))]):=by
 have x0:=Za9 (Zan (.inr rfl) h1 h2 h1);have x1:=Za9 (Zan (.inr rfl) h1 h0 h2);have x2:=Za9 (Zan (.inr rfl) h2 h0 h2);have x3:=Za9 (Zan (.inr rfl) h2 h1 h0);have x4:=Za9 (Zan (.inr rfl) h0 h1 h0);have x5:=Za9 (Zan (.inr rfl) h0 h2 h1);have x6:=x0.mul x1;have x7:=x2.mul x3;have x8:=x6.add x7;have x9:=x4.mul x5;exact ZBd M GG i a0 a1 a2 _ _ _ _ _ _ _ _ _ _ _ (Zdy _ _ _ (Zan (.inr rfl) h1 h2 h1)) (Zdy _ _ _ (Zan (.inr rfl) h1 h0 h2)) (ZAv x0 x1) (Zdy _ _ _ (Zan (.inr rfl) h2 h0 h2)) (Zdy _ _ _ (Zan (.inr rfl) h2 h1 h0)) (ZAv x2 x3) (Zdy _ _ _ (Zan (.inr rfl) h0 h1 h0)) (Zdy _ _ _ (Zan (.inr rfl) h0 h2 h1)) (ZAv x4 x5) (nilAdd (x6.s)) (Zj3 (x6.s) (x7.s)) (Zj3 (x8.s) (x9.s))
end Go.Proofs.YtpkcophcldjboaaGreatDoor
