/- Contracts of the functions that the law reaches, and the rules by which they are walked. They say what a call hands back for every input within the bounds that each names; no other condition. -/
import Derived.Test.YtkefeinbjbeidaaGreatDoorBm7
import Derived.Sort.AssemblyPlain
import Derived.Shelf.SlSortCmp.NoneTotal
import Derived.Sort.LotD5
set_option linter.unusedSimpArgs false
set_option linter.unusedVariables false
set_option maxRecDepth 20000
set_option maxHeartbeats 16000000
namespace Go.Proofs.YtkefeinbjbeidaaGreatDoor
open Go Go.RowKit Go.Pg Go.Pol Go.Proofs.Tryz
attribute [-bool_to_prop] Bool.and_eq_decide Bool.or_eq_decide Bool.decide_beq_decide decide_eq_decide
attribute [local go_sem] Zaq Zau Zat Zag Zao Zah Bool.and_self Zal Zbb Za7
structure RE where
 r:RQ
 q:List Qt
abbrev RE.av (t:RE):AV:=.agg [.v (.bool t.r.s),lim t.r.l,lim t.r.d,qsA t.q]
def RE.ok (t:RE):Bool:=t.r.ok && t.q.all Qt.ok
def sgP (l:List Qt):Int:=l.foldl (λs q=>s*q.norm.2) 1
def nzP (l:List Qt):List Qt:=(l.filter λq=>decide (q.norm.2≠0)).map λq=>q.norm.1
def putP (l:List Qt):List Qt:=(nzP l).foldl (putQ Qt.cmp) []
def RE.t (t:RE):Rat × List Qt:=(t.r.q*(sgP t.q:Rat),putP t.q)
theorem sgP_snoc (l:List Qt) (q:Qt):sgP (l++[q])=sgP l*q.norm.2:=by unfold sgP;rw [ZFy];rfl
theorem putP_y (l:List Qt) {q:Qt} (h:q.norm.2≠0):putP (l++[q])=putQ Qt.cmp (putP l) q.norm.1:=by
 unfold putP nzP;rw [ZEn,ZCe,ZFy,ZE0,ZBm (ZBu h)];rfl
theorem Ztc (l:List Qt):(putP l).length≤l.length:=by
 unfold putP;rw [(Zfi (cmp:=Qt.cmp) (nzP l) []).length_eq,ZC6];unfold nzP;rw [ZBt];exact ZF8 _ _
theorem Zh6 (q:Qt):q.norm.2=-1∨q.norm.2=0∨q.norm.2=1:=by
 unfold Qt.norm Zfh Zgz
 repeat' split
 all_goals first|exact .inl rfl|exact .inr (.inl rfl)|exact .inr (.inr rfl)
theorem sg_mul {a b:Int} (ha:a=-1∨a=0∨a=1) (hb:b=-1∨b=0∨b=1):a*b=-1∨a*b=0∨a*b=1:=by
 rcases ha with rfl | rfl | rfl<;>rcases hb with rfl | rfl | rfl<;>decide
theorem sgP_sg (l:List Qt):sgP l=-1∨sgP l=0∨sgP l=1:=by
 have key:∀(l:List Qt) (s:Int),(s=-1∨s=0∨s=1)→(l.foldl (λs q=>s*q.norm.2) s=-1∨l.foldl (λs q=>s*q.norm.2) s=0∨l.foldl (λs q=>s*q.norm.2) s=1):=by
  intro l
  induction l with
  | nil=>intro s h;exact h
  | cons a l ih=>intro s h;exact ih _ (sg_mul h (Zh6 a))
 exact key l 1 (.inr (.inr rfl))
theorem Zox {z:Int} (h:z=-1∨z=0∨z=1):Sz (z:Rat) 1:=by
 refine Sz.int ?_ (ZBn _);rcases h with rfl | rfl | rfl
 ·exact Nat.le_of_eq Zfs
 ·show(toL 0).length≤1;rw [Zaz];exact ZBw _
 ·exact Nat.le_of_eq Zfs
def nrmR (l:List RE):AV:=if l.all RE.ok=true then qpA (gatM (l.map RE.t)) else .v (.slice none 0 0)
theorem Zqg {α:Type} {p:α→Bool} {l:List α} {i:Nat} (h:i < l.length) (h1:(l.take i).all p=true) (h2:p l[i]=true):(l.take (i+1)).all p=true:=by
 rw [ZFl,ZBx h,List.all_append,h1];simp [h2]
theorem Zuv {α:Type} {p:α→Bool} {l:List α} {i:Nat} (h:i < l.length) (h2:p l[i]=false):l.all p=false:=by
 rw [List.all_eq_false];exact⟨l[i],ZBy h,by simp [h2]⟩
attribute [go_sem] underlying163 szOpn zOpn szFnR zFnR
attribute [local go_sem] undFnR
abbrev subT (p q:QTs):QTs:=Za9 p (q.map λt=>(-t.1,t.2))
structure OpF (f:Nat) (s:Rat):Prop where
 pm:s=1∨s=-1
 ct:∀(a b:Rat) {j k:Nat},Sz a j→Sz b k→j≤1000000→k≤1000000→Pure prog f [ratQ a,ratQ b] (ratQ (a+s*b))
theorem opAdd:OpF 52 1:=⟨.inl rfl,λa b _ _ ha hb hj hk=>by rw [ZE2];exact Zju a b ha hb zo zo⟩
theorem opSub:OpF 115 (-1):=⟨.inr rfl,λa b _ _ ha hb hj hk=>by
 have:a+-1*b=a - b:=by grind
 rw [this];exact Zgt a b ha hb zo zo⟩
def sclT (s:Rat) (q:QTs):QTs:=q.map λt=>(s*t.1,t.2)
theorem Zcy (s:Rat) (q:QTs):(sclT s q).length=q.length:=ZBt ..
theorem Zxh (s:Rat) (q:QTs) {i:Nat} (h:i < q.length):(sclT s q)[i]'(by rw [Zcy];exact h)=(s*q[i].1,q[i].2):=ZGa ..
theorem Zzz (f:Nat) (s:Rat) (op:OpF f s) (p q:QTs) {j k n:Nat} (hp:QK p j n) (hq:QK q k n) (np:∀t∈p,t.1≠0) (nq:∀t∈q,t.1≠0) (lp:p.length≤100000000) (lq:q.length≤100000000) (hj:j≤900000) (hk:k≤900000) (hn:n≤1000000) :
 Pure prog 116 [.agg [.fn f []],qpA p,qpA q] (qpA (Za9 p (sclT s q))):=by
 have hz0:ratQ ((0:Nat):Rat)=.agg [.v (.bool false),lim [],lim (toL 1)]:=by
  show AV.agg [.v (.bool (decide ((0:Rat).num < 0))),lim (toL (0:Rat).num.natAbs),lim (toL (0:Rat).den)]=_;rw [show(0:Rat).num=0 from rfl,show(0:Rat).den=1 from rfl,show(0:Int).natAbs=0 from rfl,Zaz];rfl
 have hz1:ratQ (0:Rat)=.agg [.v (.bool false),lim [],lim (toL 1)]:=hz0;have c0:Pure prog 27 [iv 0] (.agg [.v (.bool false),lim [],lim (toL 1)]):=by rw [←hz0];exact Zk6 0 zo
 have sz0:Sz (0:Rat) 1:=Zox (.inr (.inl rfl));have hsn:s≠0:=by rcases op.pm with h | h<;>rw [h]<;>decide
 show Pure _ _ [.agg [.fn f []],.sl 4 (p.map qtA),.sl 4 (q.map qtA)] _;refine pI func116 rfl ntmps116 results116 call116 ?_
 (refine wkad w_t (w_1 c0) w_t (w_s ?_);intros)
 rename_i g3 g8;generalize toL 1=one at *;refine Zff (Frz.nilOwn (d:=7) 79 4 78 (gC)) ?_;refine Zad (ι:=Nat × Nat) (λx e m=>x.1≤p.length∧x.2≤q.length∧e 1=.sl 4 ((p.drop x.1).map qtA)∧e 2=.sl 4 ((q.drop x.2).map qtA)∧e 3=.pbox 3 g3 0∧m 3=some (.box g3 163 [.fn f []] false)∧e 8=.pbox 8 g8 0∧m 8=some (.box g8 28 [.v (.bool false),lim [],lim one] false)∧∃sv out,e 7=.own 79 sv∧m 79=some (.row sv 78 4 (out.map qtA) 0)∧out.length≤x.1+x.2∧Za9 p (sclT s q)=out++Za9 (p.drop x.1) ((sclT s q).drop x.2)) (λx=>p.length+q.length - (x.1+x.2)) (0,0) zr ?_ ?_
 ·rintro ⟨i,l⟩ e m ⟨hi,hl,e1,e2,e3,m3,e8,m8,sv,out,e7,m79,ho,hs⟩
  simp only at hi hl e1 e2 ho hs;have hlen:(out.map qtA).length=out.length:=ZBt ..;by_cases hi2:i < p.length
  ·have hd:(p.drop i).map qtA=qtA p[i] :: (p.drop (i+1)).map qtA:=by rw [ZD7 hi2];rfl
   have hdl:((p.drop (i+1)).map qtA).length=p.length - (i+1):=by rw [ZBt,ZDt]
   have ms:=hp _ (ZBy hi2);have ns:=np _ (ZBy hi2);rw [hd] at e1;have hdp:=hd;clear hd;by_cases hl2:l < q.length
   ·have hd:(q.drop l).map qtA=qtA q[l] :: (q.drop (l+1)).map qtA:=by rw [ZD7 hl2];rfl
    have hel:((q.drop (l+1)).map qtA).length=q.length - (l+1):=by rw [ZBt,ZDt]
    have mt:=hq _ (ZBy hl2);have nt:=nq _ (ZBy hl2);have st:=Zzh (p:=p) (q:=sclT s q) hi2 (show l < (sclT s q).length by rw [Zcy];exact hl2);rw [Zxh s q hl2] at st;rw [hd] at e2;have hdq:=hd;clear hd hp hq np nq;generalize p[i]=u at *;generalize q[l]=v at *;have cl:=exCmpP u.2 v.2 (by have:=ms.2;omega) (by have:=mt.2;omega);have h3:=Zyg u.2 v.2;have hou:∀x:Rat × List Qt,(out++[x]).map qtA=out.map qtA++[.agg [.v (.bool (decide (x.1.num < 0))),lim (toL x.1.num.natAbs),lim (toL x.1.den),.sl 4 (x.2.map Qt.av)]]:=λx=>by rw [ZCe];rfl
    rw [st] at hs;clear st;have ca1:=op.ct u.1 0 ms.1 sz0 zo zo;have ca2:=op.ct 0 v.1 sz0 mt.1 zo zo;have ca3:=op.ct u.1 v.1 ms.1 mt.1 zo zo;rw [show u.1+s*0=u.1 by rw [ZFn,ZDj],hz1] at ca1;rw [show 0+s*v.1=s*v.1 by rw [ZFw],hz1] at ca2;have hpm:=op.pm;have zs1:=Zck u.1 ms.1 zo
    have hsz:Sz (s*v.1) (k+1):=by
     rcases hpm with h | h
     ·rw [h,ZE2];exact mt.1.mono zo
     ·rw [h,show -1*v.1=- v.1 by grind];exact mt.1.neg.mono zo
    have zs2:=Zck (s*v.1) hsz zo;have zs3:=Zck (u.1+s*v.1) (ms.1.add hsz) zo;have nz1:¬u.1.num.sign=0:=by rw [Zdb];exact ns
    have nz2:¬(s*v.1).num.sign=0:=by rw [Zdb];exact λh=>by rcases Rat.mul_eq_zero.1 h with h | h;exact hsn h;exact nt h
    have hou1:=hou u;have hou2:=hou (s*v.1,v.2);have hou3:=hou (u.1+s*v.1,v.2);clear hou ms mt hsz hpm;obtain⟨u1,u2⟩:=u;obtain⟨v1,v2⟩:=v;simp only at *;have cl:Pure prog 194 [.sl 4 (u2.map Qt.av),.sl 4 (v2.map Qt.av)] (iv (ordQ u2 v2)):=cl;have e1:e 1=.sl 4 (.agg [.v (.bool (decide (u1.num < 0))),lim (toL u1.num.natAbs),lim (toL u1.den),.sl 4 (u2.map Qt.av)] :: (p.drop (i+1)).map qtA):=e1;have hdp:(p.drop i).map qtA=.agg [.v (.bool (decide (u1.num < 0))),lim (toL u1.num.natAbs),lim (toL u1.den),.sl 4 (u2.map Qt.av)] :: (p.drop (i+1)).map qtA:=hdp;have e2:e 2=.sl 4 (.agg [.v (.bool (decide (v1.num < 0))),lim (toL v1.num.natAbs),lim (toL v1.den),.sl 4 (v2.map Qt.av)] :: (q.drop (l+1)).map qtA):=e2
    have hdq:(q.drop l).map qtA=.agg [.v (.bool (decide (v1.num < 0))),lim (toL v1.num.natAbs),lim (toL v1.den),.sl 4 (v2.map Qt.av)] :: (q.drop (l+1)).map qtA:=hdq;have ca1:Pure prog f [.agg [.v (.bool (decide (u1.num < 0))),lim (toL u1.num.natAbs),lim (toL u1.den)],.agg [.v (.bool false),lim [],lim one]] (.agg [.v (.bool (decide (u1.num < 0))),lim (toL u1.num.natAbs),lim (toL u1.den)]):=ca1;have ca2:Pure prog f [.agg [.v (.bool false),lim [],lim one],.agg [.v (.bool (decide (v1.num < 0))),lim (toL v1.num.natAbs),lim (toL v1.den)]] (ratQ (s*v1)):=ca2;have ca3:Pure prog f [.agg [.v (.bool (decide (u1.num < 0))),lim (toL u1.num.natAbs),lim (toL u1.den)],.agg [.v (.bool (decide (v1.num < 0))),lim (toL v1.num.natAbs),lim (toL v1.den)]] (ratQ (u1+s*v1)):=ca3
    have zs1:Pure prog 18 [.agg [.v (.bool (decide (u1.num < 0))),lim (toL u1.num.natAbs),lim (toL u1.den)]] (iv u1.num.sign):=zs1;rcases h3 with⟨h1,h2⟩ | ⟨h1,h2,h4⟩ | ⟨h1,h2,h4⟩
    ·rw [ZBm h2] at hs;rw [h1] at cl;clear ca2 ca3 zs2 zs3 nz2 hou2 hou3 h1 h2;generalize u1.num.sign=z at *;generalize hO:out.map qtA=O at *;generalize hPd:(p.drop (i+1)).map qtA=PD at *;have htp:PD.take (p.length - (i+1))=PD:=ZDp zo;generalize hQd:(q.drop (l+1)).map qtA=QD at *;have htq:QD.take (q.length - (l+1))=QD:=ZDp zo;generalize u2.map Qt.av=U2 at *;generalize v2.map Qt.av=V2 at *
     (refine wkax (w_14 e1 e2 e3 m3 e8 m8 e7 m79 hlen hdl hel htp htq nz1) (w_3 cl ca1 zs1) (w_3 (w_d 8 [(8,iv (-1))] [] []) (w_d 9 [] [] [10,11]) (w_d 12 [] [] [10])) w_t w_t w_t w_y (w_r 0) (w_s ?_);intros)
     refine⟨(i+1,l),⟨by simp only;omega,by simp only;omega,by rw [hPd];exact gC,by rw [hdq];exact gW e2,gW e3,gW m3,gW e8,gW m8,_,out++[(u1,u2)],gC,by rw [hou1];exact gC,by simp only [ZCg,ZB5,ZCf];omega,by rw [hs,ZC4];rfl⟩,by simp only;omega⟩
    ·rw [ZBl h2,ZBl h4] at hs;have huv:u2=v2:=Zbh.eqz _ _ h1;rw [h1] at cl;clear ca1 ca2 zs1 zs2 nz1 nz2 hou1 hou2 h2 h4;by_cases hz:u1+s*v1=0
     ·rw [ZBm hz] at hs;have hz2:(u1+s*v1).num.sign=0:=by rw [Zdb];exact hz
      rw [hz2] at zs3;clear hou3 h1 huv hz hz2;generalize u1+s*v1=w at *;generalize hO:out.map qtA=O at *;generalize hPd:(p.drop (i+1)).map qtA=PD at *;have htp:PD.take (p.length - (i+1))=PD:=ZDp zo;generalize hQd:(q.drop (l+1)).map qtA=QD at *;have htq:QD.take (q.length - (l+1))=QD:=ZDp zo;generalize u2.map Qt.av=U2 at *;generalize v2.map Qt.av=V2 at *
      (refine wkax (w_13 e1 e2 e3 m3 e8 m8 e7 m79 hlen hdl hel htp htq) (w_3 cl ca3 zs3) (w_4 (w_d 8 [(8,iv 0)] [] []) (w_d 9 [] [] [10,11]) (w_d 12 [] [] [10]) (w_d 14 [] [] [11])) w_t w_t w_t w_y (w_r 0) (w_s ?_);intros)
      refine⟨(i+1,l+1),⟨by simp only;omega,by simp only;omega,by rw [hPd];exact gC,by rw [hQd];exact gC,gW e3,gW m3,gW e8,gW m8,_,out,gW e7,by rw [hO];exact gW m79,by simp only;omega,hs⟩,by simp only;omega⟩
     ·rw [ZBl hz] at hs;have hz2:¬(u1+s*v1).num.sign=0:=by rw [Zdb];exact hz
      have hs:Za9 p (sclT s q)=out++(u1+s*v1,v2) :: Za9 (p.drop (i+1)) ((sclT s q).drop (l+1)):=by rw [←huv];exact hs
      clear h1 huv hz;generalize (u1+s*v1).num.sign=z at *;generalize u1+s*v1=w at *;generalize hO:out.map qtA=O at *;generalize hPd:(p.drop (i+1)).map qtA=PD at *;have htp:PD.take (p.length - (i+1))=PD:=ZDp zo;generalize hQd:(q.drop (l+1)).map qtA=QD at *;have htq:QD.take (q.length - (l+1))=QD:=ZDp zo;generalize u2.map Qt.av=U2 at *;generalize v2.map Qt.av=V2 at *
      (refine wkax (w_14 e1 e2 e3 m3 e8 m8 e7 m79 hlen hdl hel htp htq hz2) (w_3 cl ca3 zs3) (w_4 (w_d 8 [(8,iv 0)] [] []) (w_d 9 [] [] [10,11]) (w_d 12 [] [] [10]) (w_d 14 [] [] [11])) w_t w_t w_t w_y (w_r 0) (w_s ?_);intros)
      refine⟨(i+1,l+1),⟨by simp only;omega,by simp only;omega,by rw [hPd];exact gC,by rw [hQd];exact gC,gW e3,gW m3,gW e8,gW m8,_,out++[(w,v2)],gC,by rw [hou3];exact gC,by simp only [ZCg,ZB5,ZCf];omega,by rw [hs,ZC4];rfl⟩,by simp only;omega⟩
    ·rw [ZBl h2,ZBm h4] at hs;rw [h1] at cl;clear ca1 ca3 zs1 zs3 nz1 hou1 hou3 h1 h2 h4;generalize (s*v1).num.sign=z at *;generalize s*v1=w at *;generalize hO:out.map qtA=O at *;generalize hPd:(p.drop (i+1)).map qtA=PD at *;have htp:PD.take (p.length - (i+1))=PD:=ZDp zo;generalize hQd:(q.drop (l+1)).map qtA=QD at *;have htq:QD.take (q.length - (l+1))=QD:=ZDp zo;generalize u2.map Qt.av=U2 at *;generalize v2.map Qt.av=V2 at *
     (refine wkax (w_14 e1 e2 e3 m3 e8 m8 e7 m79 hlen hdl hel htp htq nz2) (w_3 cl ca2 zs2) (w_3 (w_d 8 [(8,iv 1)] [] []) (w_d 9 [] [] [10,11]) (w_d 14 [] [] [11])) w_t w_t w_t w_y (w_r 0) (w_s ?_);intros)
     refine⟨(i,l+1),⟨by simp only;omega,by simp only;omega,by rw [hdp];exact gW e1,by rw [hQd];exact gC,gW e3,gW m3,gW e8,gW m8,_,out++[(w,v2)],gC,by rw [hou2];exact gC,by simp only [ZCg,ZB5,ZCf];omega,by rw [hs,ZC4];rfl⟩,by simp only;omega⟩
   ·have hl3:l=q.length:=zo;subst hl3;rw [Ziz (.inr (by rw [Zcy];exact ZBn _)),ZEf (l:=sclT s q) (by rw [Zcy];exact ZBn _),ZC6,ZD7 hi2] at hs
    have hs:Za9 p (sclT s q)=(out++[p[i]])++Za9 (p.drop (i+1)) ((sclT s q).drop q.length):=by
     rw [Ziz (.inr (by rw [Zcy];exact ZBn _)),hs,ZEf (l:=sclT s q) (by rw [Zcy];exact ZBn _)];simp
    rw [show q.drop q.length=[] from ZEf (ZBn _)] at e2;have e2:e 2=.sl 4 []:=e2;have hq0:(q.drop q.length).map qtA=[]:=by rw [ZEf (ZBn _)];rfl
    clear hp hq np nq;generalize p[i]=u at *;have hou1:(out++[u]).map qtA=out.map qtA++[.agg [.v (.bool (decide (u.1.num < 0))),lim (toL u.1.num.natAbs),lim (toL u.1.den),.sl 4 (u.2.map Qt.av)]]:=by rw [ZCe];rfl
    have ca1:=op.ct u.1 0 ms.1 sz0 zo zo;rw [show u.1+s*0=u.1 by rw [ZFn,ZDj],hz1] at ca1;have zs1:=Zck u.1 ms.1 zo;have nz1:¬u.1.num.sign=0:=by rw [Zdb];exact ns
    obtain⟨u1,u2⟩:=u;simp only at *;have e1:e 1=.sl 4 (.agg [.v (.bool (decide (u1.num < 0))),lim (toL u1.num.natAbs),lim (toL u1.den),.sl 4 (u2.map Qt.av)] :: (p.drop (i+1)).map qtA):=e1;have hdp:(p.drop i).map qtA=.agg [.v (.bool (decide (u1.num < 0))),lim (toL u1.num.natAbs),lim (toL u1.den),.sl 4 (u2.map Qt.av)] :: (p.drop (i+1)).map qtA:=hdp;have ca1:Pure prog f [.agg [.v (.bool (decide (u1.num < 0))),lim (toL u1.num.natAbs),lim (toL u1.den)],.agg [.v (.bool false),lim [],lim one]] (.agg [.v (.bool (decide (u1.num < 0))),lim (toL u1.num.natAbs),lim (toL u1.den)]):=ca1;have zs1:Pure prog 18 [.agg [.v (.bool (decide (u1.num < 0))),lim (toL u1.num.natAbs),lim (toL u1.den)]] (iv u1.num.sign):=zs1
    generalize u1.num.sign=z at *;generalize hO:out.map qtA=O at *;generalize hPd:(p.drop (i+1)).map qtA=PD at *;have htp:PD.take (p.length - (i+1))=PD:=ZDp zo;generalize u2.map Qt.av=U2 at *
    (refine wkad (w_12 e1 e2 e3 m3 e8 m8 e7 m79 hlen hdl htp nz1) (w_2 ca1 zs1) (w_2 (w_d 9 [] [] [10,11]) (w_d 12 [] [] [10])) (w_s ?_);intros)
    refine⟨(i+1,q.length),⟨by simp only;omega,by simp only;omega,by rw [hPd];exact gC,by rw [hq0];exact gW e2,gW e3,gW m3,gW e8,gW m8,_,out++[(u1,u2)],gC,by rw [hou1];exact gC,by simp only [ZCg,ZB5,ZCf];omega,hs⟩,by simp only;omega⟩
  ·have hi3:i=p.length:=zo;subst hi3;rw [show p.drop p.length=[] from ZEf (ZBn _)] at e1;have e1:e 1=.sl 4 []:=e1;have hp0:(p.drop p.length).map qtA=[]:=by rw [ZEf (ZBn _)];rfl
   by_cases hl2:l < q.length
   ·have hd:(q.drop l).map qtA=qtA q[l] :: (q.drop (l+1)).map qtA:=by rw [ZD7 hl2];rfl
    have hel:((q.drop (l+1)).map qtA).length=q.length - (l+1):=by rw [ZBt,ZDt]
    have mt:=hq _ (ZBy hl2);have nt:=nq _ (ZBy hl2);rw [hd] at e2;have hdq:=hd;have hsl:(sclT s q).drop l=(s*q[l].1,q[l].2) :: (sclT s q).drop (l+1):=by rw [ZD7 (by rw [Zcy];exact hl2),Zxh s q hl2]
    rw [Ziz (.inl (ZBn _)),ZEf (ZBn _),ZF0,hsl] at hs
    have hs:Za9 p (sclT s q)=(out++[(s*q[l].1,q[l].2)])++Za9 (p.drop p.length) ((sclT s q).drop (l+1)):=by
     rw [Ziz (.inl (ZBn _)),hs,ZEf (l:=p) (ZBn _)];simp
    clear hd hsl hp hq np nq;generalize q[l]=v at *;have ca2:=op.ct 0 v.1 sz0 mt.1 zo zo;rw [show 0+s*v.1=s*v.1 by rw [ZFw],hz1] at ca2;have hpm:=op.pm
    have hsz:Sz (s*v.1) (k+1):=by
     rcases hpm with h | h
     ·rw [h,ZE2];exact mt.1.mono zo
     ·rw [h,show -1*v.1=- v.1 by grind];exact mt.1.neg.mono zo
    have zs2:=Zck (s*v.1) hsz zo;have nz2:¬(s*v.1).num.sign=0:=by rw [Zdb];exact λh=>by rcases Rat.mul_eq_zero.1 h with h | h;exact hsn h;exact nt h
    have hou2:(out++[(s*v.1,v.2)]).map qtA=out.map qtA++[.agg [.v (.bool (decide ((s*v.1).num < 0))),lim (toL (s*v.1).num.natAbs),lim (toL (s*v.1).den),.sl 4 (v.2.map Qt.av)]]:=by rw [ZCe];rfl
    clear mt nt hsz hpm;obtain⟨v1,v2⟩:=v;simp only at *;have e2:e 2=.sl 4 (.agg [.v (.bool (decide (v1.num < 0))),lim (toL v1.num.natAbs),lim (toL v1.den),.sl 4 (v2.map Qt.av)] :: (q.drop (l+1)).map qtA):=e2;have hdq:(q.drop l).map qtA=.agg [.v (.bool (decide (v1.num < 0))),lim (toL v1.num.natAbs),lim (toL v1.den),.sl 4 (v2.map Qt.av)] :: (q.drop (l+1)).map qtA:=hdq;have ca2:Pure prog f [.agg [.v (.bool false),lim [],lim one],.agg [.v (.bool (decide (v1.num < 0))),lim (toL v1.num.natAbs),lim (toL v1.den)]] (ratQ (s*v1)):=ca2;generalize (s*v1).num.sign=z at *;generalize s*v1=w at *;generalize hO:out.map qtA=O at *
    generalize hQd:(q.drop (l+1)).map qtA=QD at *;have htq:QD.take (q.length - (l+1))=QD:=ZDp zo;generalize v2.map Qt.av=V2 at *
    (refine wkad (w_12 e1 e2 e3 m3 e8 m8 e7 m79 hlen hel htq nz2) (w_2 ca2 zs2) (w_2 (w_d 9 [] [] [10,11]) (w_d 14 [] [] [11])) (w_s ?_);intros)
    refine⟨(p.length,l+1),⟨by simp only;omega,by simp only;omega,by rw [hp0];exact gW e1,by rw [hQd];exact gC,gW e3,gW m3,gW e8,gW m8,_,out++[(w,v2)],gC,by rw [hou2];exact gC,by simp only [ZCg,ZB5,ZCf];omega,hs⟩,by simp only;omega⟩
   ·have hl3:l=q.length:=zo;subst hl3;rw [show q.drop q.length=[] from ZEf (ZBn _)] at e2;have e2:e 2=.sl 4 []:=e2;rw [Ziz (.inl (ZBn _)),ZEf (ZBn _),ZEf (l:=sclT s q) (by rw [Zcy];exact ZBn _),ZC6,ZC6] at hs;rw [hs];clear hp hq np nq hs;generalize hO:out.map qtA=O at *;rw [show qpA out=.sl 4 O from ZDv _ hO]
    (refine wkad (w_9 e1 e2 e3 m3 e8 m8 e7 m79 hlen) w_t w_t (w_s ?_);intros)
    all_goals exact gM (w_1 m79)
 ·exact⟨ZBw _,ZBw _,gC,gC,gC,gC,gC,gC,_,[],gC,gC,ZBw _,by simp⟩
def wOf (w:List Int) (s:RS):Int :=
 if s.k=2 then gI w (gI s.ar 0).toNat+gI w (gI s.ar 1).toNat
 else if s.k=3∨s.k=4 then gI w (gI s.ar 0).toNat+gI w (gI s.ar 1).toNat+gI w (gI s.ar 2).toNat
 else if s.k=5 then 2*gI w (gI s.ar 0).toNat+gI w (gI s.ar 1).toNat
 else 1
def wts (ss:List RS):Nat→List Int
 | 0=>[]
 | i+1=>wts ss i++[wOf (wts ss i) (ss.getD i RS.zero)]
def thinB (ss:List RS) (gs:List RG):Bool :=
 (wts ss ss.length).all (λw=>decide (w≤8)) && gs.all λg=>!(decide (g.k=6) || decide (g.k=7)) || g.ar.all λa=>decide (gI (wts ss ss.length) a.toNat≤3)
def rat2 (r:RQ):Bool:=decide (r.l.length≤2) && decide (r.d.length≤2)
def fewB (ss:List RS) (gs:List RG):Bool :=
 decide (ss.length≤8) && (decide (gs.length≤3) && (decide (figE ss gs=0) && (thinB ss gs && (ss.all (λs=>rat2 s.r) && gs.all λg=>rat2 g.r))))
attribute [local go_sem] Zbp Za5 Zbv Za8 Zba Zb8 Zcb Zca Zb9 Zbm Zbn Zct Zcu
def thinG (w:List Int) (g:RG):Bool:=!(decide (g.k=6) || decide (g.k=7)) || g.ar.all λa=>decide (gI w a.toNat≤3)
end Go.Proofs.YtkefeinbjbeidaaGreatDoor
namespace Go.Proofs.YtkefeinbjbeidaaGreatDoor
open Go Go.RowKit Go.Pg Go.Proofs.Tryz
theorem szBld:szOf prog 268=some 2:=by kernel_rfl
theorem zBld:Zan prog 268=some (.agg #[.pointer none,.slice none 0 0]):=by kernel_rfl
theorem szSl8:szOf prog 113=some 1:=by kernel_rfl
theorem zSl8:Zan prog 113=some (.slice none 0 0):=by kernel_rfl
theorem szPB:szOf prog 266=some 1:=by kernel_rfl
theorem zPB:Zan prog 266=some (.pointer none):=by kernel_rfl
theorem Zr9 (w:World) (a:Addr) (n:Nat) (ad:Addr):(w.freeze a n).cell? ad=w.cell? ad:=by
 unfold World.freeze;split
 ·rfl
 ·unfold World.cell?;simp only [ZFe];by_cases h:a.block=ad.block
  ·rw [ZBm h]
   cases hh:w.heap[ad.block]? with
   | none=>rfl
   | some o=>cases o<;>rfl
  ·rw [ZBl h]
theorem Zpz (w:World) (g n:Nat):w.grownBy (w.freeze ⟨g,0,none⟩ n) (some g):=by
 unfold World.freeze;split
 ·exact⟨rfl,rfl,rfl,ZBn _,λk _ _=>rfl⟩
 ·exact⟨rfl,rfl,rfl,by simp,λk _ hk=>by
   simp only [ZFe];rw [ZBl (λe=>hk (by rw [←e]))]⟩
theorem mem_drop {c:Cx} {σ:Mem} {w w':World} {imm:Imm} (h:Mx c σ w imm) {row:Option Nat} (hg:w.grownBy w' row) (hdw:w.drawn≤w'.drawn) (hB:∀g,row=some g→c.B≤g) (hcell:∀ad,imm ad→w'.cell? ad=w.cell? ad)
 (k:Nat) (hoth:∀j e2 b,j≠k→σ j=some e2→e2.blk=some b→some b≠row):Mx c (upd σ k none) w' imm∧Keeps w imm w' imm:=by
 refine⟨⟨⟨λj e2 hj=>?_,λj j' e1 e2 b h1 h2 h3 h4=>?_,λad h1=>ZDz (h.ok.lt ad h1) hg.size,λad h1=>h.ok.spot ad h1⟩,h.below.grown hg hdw h.lt (λg hg'=>hB g hg'),ZBs h.lt hg.size,h.old,h.new,λad h1=>(hcell ad (h.old ad h1)).trans (h.cells ad h1)⟩,λad h1=>⟨h1,hcell ad h1⟩⟩
 ·rw [Zam] at hj;by_cases hjk:j=k
  ·rw [ZBm hjk] at hj;cases hj
  ·rw [ZBl hjk] at hj;refine(h.ok.ent j e2 hj).keep hg ?_ (λ_ h1=>h1) hcell λad h1=>.inl h1;rcases hb:e2.blk with _ | b
   ·exact .inl rfl
   ·exact .inr (hoth j e2 b hjk hj hb)
 ·rw [Zam] at h1 h2;by_cases hjk:j=k
  ·rw [ZBm hjk] at h1;cases h1
  ·by_cases hjk':j'=k
   ·rw [ZBm hjk'] at h2;cases h2
   ·rw [ZBl hjk] at h1;rw [ZBl hjk'] at h2;exact h.ok.apart j j' e1 e2 b h1 h2 h3 h4
theorem ubVs {w:World} {imm:Imm} {KB g:Nat} {vs:Array Value} (hl:[AV.pbox KB g 0].length=vs.size) (hr:∀(j:Nat) (a:AV) (x:Value),[AV.pbox KB g 0][j]?=some a→vs[j]?=some x→Rs w imm a x):vs=#[.pointer (some ⟨g,0,none⟩)]:=by
 have h1:vs.size=1:=hl.symm;have h2:=hr 0 _ vs[0] rfl (ZC2 zo);have h3:=h2.pbox_inv;refine Array.ext (by simpa using h1) λi hi hj=>?_;have:i=0:=zo;subst this
 simpa using h3
theorem ubCur {cur:Array Value} (h:2=cur.size):∃x y,cur=#[x,y]:=by
 refine⟨cur[0],cur[1],Array.ext (by simpa using h.symm) λi hi hj=>?_⟩
 match i,hi,hj with
 | 0,_,_=>rfl
 | 1,_,_=>rfl
 | i+2,hi,_=>omega
theorem bldCheck (σ:Mem) (KB g:Nat) (c0 c1:AV) (hB:σ KB=some (.box g 268 [c0,c1] false)) (h0:c0=.v (.pointer none)∨c0=.pbox KB g 0) :
 ACall prog 285 [.pbox KB g 0] σ λr σ'=>r=.tup []∧σ'=upd σ KB (some (.box g 268 [.pbox KB g 0,c1] false)):=by
 refine⟨call285,λc w imm vs hm hl hr=>?_⟩;obtain rfl:=ubVs hl hr;obtain⟨cur,hh,hBg,hlen,hone,hrs,hp,hq⟩:=hm.ok.ent KB _ hB;obtain⟨x,y,rfl⟩:=ubCur hlen;have hx:=hrs 0 _ x rfl rfl;have hy:=hrs 1 _ y rfl rfl;have c0':w.cell? ⟨g,0,none⟩=some x:=by rw [Lib.cell_of_heap hh];rfl
 rcases h0 with rfl | rfl
 ·obtain rfl:=hx.v_inv;refine(ubFresh g w c0' (by simp [World.shape?,hh]) (by simp [World.frozen?,hh])).mono ?_
  rintro e w' ⟨rfl,rfl⟩
  have hgr:w.grownBy (w.setCell ⟨g,0,none⟩ (.pointer (some ⟨g,0,none⟩))) (some g):=⟨rfl,rfl,rfl,by simp,λk _ hk=>heap_setCell_other w ⟨g,0,none⟩ k _ (λe=>hk (by simp [e]))⟩;have hcell:∀ad,imm ad→(w.setCell ⟨g,0,none⟩ (.pointer (some ⟨g,0,none⟩))).cell? ad=w.cell? ad:=λad h2=>Zd0 hgr (hm.ok.lt ad h2) (by
   have hne:ad.block≠g:=λe=>by have:=hp ad h2 e;cases this
   simpa using hne)
  have hkeep:Keeps w imm (w.setCell ⟨g,0,none⟩ (.pointer (some ⟨g,0,none⟩))) imm:=λad h2=>⟨h2,hcell ad h2⟩;refine⟨.tup [],_,imm,_,rfl,⟨rfl,rfl⟩,.pure (.tup [] #[] rfl λj a x h1 _=>by simp at h1),Zdp hm hgr (ZBn _) (λg' hg'=>by cases hg';exact hBg) hcell KB _ ⟨_,heap_setCell_same w g 0 _ _ _ hh,hBg,rfl,λb hb=>?_,λj b z h2 h3=>?_,hp,λh2=>by cases h2⟩ λj e2 b h2 h3 h4=>?_⟩
  ·simp only [ZE8,List.not_mem_nil,or_false] at hb;rcases hb with rfl | rfl
   ·rfl
   ·exact hone _ zs
  ·match j,h2,h3 with
   | 0,h2,h3 =>
     simp only [ZEk,Option.some.injEq] at h2;subst h2;have:z=.pointer (some ⟨g,0,none⟩):=by simpa using h3.symm
     subst this;exact .pbox _ _ _
   | 1,h2,h3 =>
     simp only [ZFq,ZEk,Option.some.injEq] at h2;subst h2;have:z=y:=by simpa using h3.symm
     subst this;exact hkeep.rs hy
   | j+2,h2,h3=>simp at h2
  ·have:b≠g:=λe=>h2 (hm.ok.apart j KB e2 _ g h3 hB (e ▸ h4) rfl);exact⟨by simpa using this,by simpa [Ent.blk] using λe=>this e.symm⟩
 ·obtain rfl:=hx.pbox_inv;refine(ubUsed g w c0').mono ?_
  rintro e w' ⟨rfl,rfl⟩
  have he:upd σ KB (some (.box g 268 [.pbox KB g 0,c1] false))=σ:=by
   funext k
   rw [Zam];split
   ·rename_i h;rw [h,hB]
   ·rfl
  exact⟨.tup [],_,imm,_,rfl,⟨rfl,rfl⟩,.pure (.tup [] #[] rfl λj a x h1 _=>by simp at h1),by rw [he];exact hm,Keeps.refl _ _⟩
theorem ZAz (σ:Mem) (KB KT g:Nat) (sv:Value) (c0:AV) (l:List UInt8) (hB:σ KB=some (.box g 268 [c0,.own KT sv] false)) (hT:σ KT=some (.row sv 5 1 (l.map λb=>.v (.int .u8 b.toNat)) 0)) (h0:l≠[]) :
 ACall prog 246 [.pbox KB g 0] σ λr σ'=>r=.v (.string ⟨l.toArray⟩)∧σ'=upd σ KT none:=by
 refine⟨call246,λc w imm vs hm hl hr=>?_⟩;obtain rfl:=ubVs hl hr;obtain⟨cur,hh,hBg,hlen,hone,hrs,hp,hq⟩:=hm.ok.ent KB _ hB;obtain⟨x,y,rfl⟩:=ubCur hlen;have hy:=hrs 1 _ y rfl rfl;obtain rfl:=hy.own_inv;obtain⟨xs,hown,-,-,hrd,-,hpi,-⟩:=hm.ok.ent KT _ hT;have hl0:l.length≠0:=by simpa using h0
 have hll:(l.map λb=>AV.v (.int .u8 b.toNat)).length=l.length:=ZBt ..;rw [hll] at hown;rcases hown.2 with⟨_,h2⟩ | ⟨gr,cap,cur,rfl,hBr,hhr,hnc,hcm,hcs,htake⟩
 ·exact absurd h2 hl0
 have hxs:∀(j:Nat) (z:UInt8),l[j]?=some z→xs[j]?=some (Value.int .u8 z.toNat):=λj z hz=>by
  have hj:j < xs.length:=by rw [hown.1,ZD8];exact(List.getElem?_eq_some_iff.1 hz).1
  have:=hrd j (.v (.int .u8 z.toNat)) xs[j] (by rw [Zv1 l λb:UInt8=>(.int .u8 b.toNat:Value),ZCt,hz];rfl) (ZBx hj);have:=(Rs.pure this).v_inv;rw [ZBx hj,this]
 refine(ubString g gr cap x cur l w hh hhr h0 hnc hcm (by rw [hcs,ZD8]) λj z hz=>?_).mono ?_
 ·have hj:=(List.getElem?_eq_some_iff.1 hz).1;have:=hown.cellAt j zo;rw [ZC9,ZCb,this,hxs j z hz]
 ·rintro e w' ⟨rfl,rfl⟩
  have hgr:w.grownBy (w.drew.freeze ⟨gr,0,none⟩ l.length) (some gr):=by
   have:=Zpz w.drew gr l.length;exact⟨this.os,this.tape,this.output,this.size,this.block⟩
  have hdw:w.drawn≤w.drew.drawn:=Nat.le_succ w.drawn;have hcell:∀ad,imm ad→(w.drew.freeze ⟨gr,0,none⟩ l.length).cell? ad=w.cell? ad:=λad _=>by rw [Zr9];rfl
  obtain⟨h1,h2⟩:=mem_drop hm hgr (by have h1:(w.drew.freeze ⟨gr,0,none⟩ l.length).drawn=w.drew.drawn:=by unfold World.freeze;(repeat' split)<;>rfl
                                     rw [h1];exact hdw) (λg' hg'=>by cases hg';exact hBr) hcell KT λj e2 b h2 h3 h4 he=>h2 (hm.ok.apart j KT e2 _ gr h3 hT (by cases he;exact h4) rfl)
  exact⟨_,_,imm,_,rfl,⟨rfl,rfl⟩,.pure (.v _),h1,h2⟩
end Go.Proofs.YtkefeinbjbeidaaGreatDoor
namespace Go.Proofs.YtkefeinbjbeidaaGreatDoor
open Go Go.RowKit Go.Pg Go.Proofs.Tryz
attribute [-bool_to_prop] Bool.and_eq_decide Bool.or_eq_decide Bool.decide_beq_decide decide_eq_decide
attribute [go_sem] underlying268 underlying266 underlying23 szBld zBld szSl8 zSl8 szPB zPB
def by8 (b:UInt8):AV:=.v (.int .u8 b.toNat)
theorem bldLen (σ:Mem) (KB KT g:Nat) (sv:Value) (c0:AV) (l:List UInt8) (hB:σ KB=some (.box g 268 [c0,.own KT sv] false)) (hT:σ KT=some (.row sv 5 1 (l.map by8) 0)) :
 ACall prog 244 [.pbox KB g 0] σ λr σ'=>r=iv l.length∧σ'=σ:=by
 have mB:=Zax hB;have mT:=Zax hT;simp only [Ent.sh,AV.shL,AV.sh] at mB mT;have hl:(l.map by8).length=l.length:=ZBt ..;refine Zbe func244 rfl ntmps244 results244 call244 zr zs ?_;generalize l.map by8=L at *
 (refine wkap (w_3 mB mT hl) w_t (w_r 0) (w_s ?_);intros)
 simp (disch:=omega) only [go_sem];exact Zig (Sub.refl _) ⟨rfl,rfl⟩ (Agr.start σ)
theorem bldWrite (σ:Mem) (KB KT g:Nat) (sv:Value) (c0:AV) (l:List UInt8) (b:UInt8) (hB:σ KB=some (.box g 268 [c0,.own KT sv] false)) (hT:σ KT=some (.row sv 5 1 (l.map by8) 0))
 (h0:c0=.v (.pointer none)∨c0=.pbox KB g 0) (n2:KB≠KT) (hl:l.length≤100000000) :
 ACall prog 245 [.pbox KB g 0,by8 b] σ λr σ'=>∃sv',r=.v .nilIface∧σ'=upd (upd σ KT (some (.row sv' 5 1 ((l++[b]).map by8) 0))) KB (some (.box g 268 [.pbox KB g 0,.own KT sv'] false)):=by
 have mB:=Zax hB;have mT:=Zax hT;simp only [Ent.sh,AV.shL,AV.sh] at mB mT;have hl1:(l.map by8).length=l.length:=ZBt ..;rw [ZCe];have hcc:=bldCheck (Zd9 σ) (KB+1000) g c0.sh (.own (KT+1000) sv) mB (by rcases h0 with rfl | rfl;exact .inl rfl;exact .inr rfl);refine Zbe func245 rfl ntmps245 results245 call245 zr zs ?_;generalize l.map by8=L at *;have hb8:by8 b=.v (.int .u8 b.toNat):=rfl;rw [hb8];simp only [AV.shL,AV.sh]
 (refine wkap (w_3 mB mT hl1) w_t (w_r 0) (w_s ?_);intros)
 refine Zgx hcc ?_
 (refine wkap (w_2 mT hl1) w_t (w_r 0) (w_s ?_);intros)
 simp (disch:=omega) only [go_sem];rename_i x1 x2;refine Zig (Sub.refl _) ⟨x2,rfl,rfl⟩ ?_;have he:∀a c d:Option Ent,upd (upd σ KT a) KB d=upd (upd (upd σ KB c) KT a) KB d:=λa c d=>by
  funext j
  simp only [Zam];by_cases h:j=KB
  ·rw [ZBm h,ZBm h]
  ·rw [ZBl h,ZBl h,ZBl h]
 rw [he _ (some (.box g 268 [.pbox KB g 0,.own KT sv] false)) _];refine Agr.put ?_ rfl rfl;refine Agr.put ?_ rfl rfl;refine Agr.own ?_ zo;refine Agr.put ?_ rfl rfl;exact Agr.start σ
theorem r_frzD {P:Program} {n:Nat} {Q:AE→St→Prop} {id:Nat} {ops:Array Oper} {st st':St} (h:Frz n st st') (k:Za6 P 0 n (.region id ops true) Q st'):Za6 P 0 n (.region id ops true) Q st:=λc a w imm hr=>by
 obtain⟨i,h1⟩:=h c a w imm hr;exact k c a w i h1
end Go.Proofs.YtkefeinbjbeidaaGreatDoor
namespace Go.Proofs.YtkefeinbjbeidaaGreatDoor
open Go Go.RowKit Go.Pg Go.Proofs.Tryz
def digF:Nat→Nat→List UInt8
 | 0,_=>[]
 | f+1,n=>if n=0 then [] else digF f (n/10)++[UInt8.ofNat (48+n%10)]
def dig (n:Nat):List UInt8:=digF n n
theorem Zp6:∀(f g n:Nat),n≤f→n≤g→digF f n=digF g n
 | 0,0,_,_,_=>rfl
 | 0,g+1,n,h,_=>by
   have:n=0:=zo;subst this;rfl
 | f+1,0,n,_,h=>by
   have:n=0:=zo;subst this;rfl
 | f+1,g+1,n,h1,h2=>by
   unfold digF;by_cases h:n=0
   ·rw [ZBm h,ZBm h]
   ·rw [ZBl h,ZBl h,Zp6 f g _ zo zo]
theorem Zui:dig 0=[]:=rfl
theorem Zkk {n:Nat} (h:n≠0):dig n=dig (n/10)++[UInt8.ofNat (48+n%10)]:=by
 obtain⟨m,rfl⟩:∃m,n=m+1:=⟨n - 1,zo⟩;show digF (m+1) (m+1)=_;rw [digF,ZBl h];rw [Zp6 m ((m+1)/10) _ zo zo];rfl
theorem Zuj {n:Nat}:(dig n).length=0↔n=0:=by
 constructor
 ·intro h;rcases ZCo n with h1 | h1
  ·exact h1
  ·rw [Zkk zo] at h;simp at h
 ·rintro rfl;rfl
theorem ZAf:∀{k n:Nat},n < 10 ^ k→(dig n).length≤k
 | 0,n,h=>by
   have:n=0:=by simpa using h
   subst this;simp [Zui]
 | k+1,n,h=>by
   rcases ZCo n with h1 | h1
   ·subst h1;simp [Zui]
   ·rw [Zkk zo,ZCg];have:=ZAf (k:=k) (n:=n/10) (by rw [ZCz] at h;omega);simp only [ZB5,ZCf];omega
theorem dig_lg (n:Nat):(dig n).length≤5*(toL n).length:=by
 refine ZAf ?_;have h1:=Zaf.1 (ZBn ((toL n).length))
 have h3:65536 ^ (toL n).length≤10 ^ (5*(toL n).length):=by
  rw [Nat.pow_mul];exact ZG7 zd _
 omega
theorem decB_dig:∀(n:Nat) (s:ByteArray),decB n n s=⟨(dig n).toArray⟩++s:=by
 intro n
 induction n using Nat.strongRecOn with
 | ind n ih =>
   intro s;rcases ZCo n with h | h
   ·subst h;show s=ByteArray.empty++s;rw [ByteArray.empty_append]
   ·rw [ZAj zo,ih (n/10) zo,Zkk (n:=n) zo,←ByteArray.append_assoc];congr 1
theorem decS_dig {n:Nat} (h:n≠0):decS n=⟨(dig n).toArray⟩:=by
 unfold decS;rw [ZBl h,decB_dig,ByteArray.append_empty]
def g4F:Nat→Nat→List Nat
 | 0,_=>[]
 | f+1,n=>if n=0 then [] else n%10000 :: g4F f (n/10000)
def g4 (n:Nat):List Nat:=g4F n n
theorem Zt7:∀(f g n:Nat),n≤f→n≤g→g4F f n=g4F g n
 | 0,0,_,_,_=>rfl
 | 0,g+1,n,h,_=>by
   have:n=0:=zo;subst this;rfl
 | f+1,0,n,_,h=>by
   have:n=0:=zo;subst this;rfl
 | f+1,g+1,n,h1,h2=>by
   unfold g4F;by_cases h:n=0
   ·rw [ZBm h,ZBm h]
   ·rw [ZBl h,ZBl h,Zt7 f g _ zo zo]
theorem Zzs {n:Nat} (h:n≠0):g4 n=n%10000 :: g4 (n/10000):=by
 obtain⟨m,rfl⟩:∃m,n=m+1:=⟨n - 1,zo⟩;show g4F (m+1) (m+1)=_;rw [g4F,ZBl h];rw [Zt7 m ((m+1)/10000) _ zo zo];rfl
theorem ZAe (n i:Nat):n/10000 ^ (i+1)=n/10000/10000 ^ i:=by
 rw [ZCz,ZCl,ZGi]
theorem Zuh (n i:Nat):n/10000 ^ (i+1)=n/10000 ^ i/10000:=by
 rw [ZCz,ZGi]
theorem Zv0:∀(i n:Nat),i < (g4 n).length↔n/10000 ^ i≠0
 | i,n=>by
   rcases ZCo n with h | h
   ·subst h;simp [g4,g4F]
   ·rw [Zzs zo,ZB5]
    cases i with
    | zero=>simp;omega
    | succ i=>rw [ZAe,←Zv0 i (n/10000)];omega
theorem Zzt:∀(i n:Nat) (h:i < (g4 n).length),(g4 n)[i]=n/10000 ^ i%10000
 | i,n,h=>by
   have h0:n≠0:=by rintro rfl;simp [g4,g4F] at h
   have e:=Zzs h0;have e2:(g4 n)[i]?=(n%10000 :: g4 (n/10000))[i]?:=by rw [e]
   rw [ZBx h] at e2
   cases i with
   | zero =>
     simp only [ZEk,Option.some.injEq] at e2;rw [e2];simp
   | succ i =>
     have h2:i < (g4 (n/10000)).length:=by rw [e,ZB5] at h;omega
     rw [ZFq,ZBx h2,Option.some.injEq,Zzt i _ h2,←ZAe] at e2;exact e2
theorem g4_len (n:Nat):(g4 n).length≤5*(toL n).length:=by
 rcases ZCo (g4 n).length with h | h
 ·omega
 ·have h0:=(Zv0 ((g4 n).length - 1) n).1 zo;generalize (g4 n).length=L at *;have h1:=Zaf.1 (ZBn ((toL n).length))
  have h3:65536 ^ (toL n).length≤10000 ^ (2*(toL n).length):=by
   rw [Nat.pow_mul];exact ZG7 zd _
  have h4:10000 ^ (L - 1)≤n:=by
   rcases ZB7 n (10000 ^ (L - 1)) with h5 | h5
   ·exact absurd (ZGj h5) h0
   ·exact h5
  have h5:10000 ^ (L - 1) < 10000 ^ (2*(toL n).length):=zo;have:=(Nat.pow_lt_pow_iff_right (by decide:1 < 10000)).1 h5;omega
end Go.Proofs.YtkefeinbjbeidaaGreatDoor
namespace Go.Proofs.YtkefeinbjbeidaaGreatDoor
open Go Go.RowKit Go.Pg Go.Proofs.Tryz
attribute [-bool_to_prop] Bool.and_eq_decide Bool.or_eq_decide Bool.decide_beq_decide decide_eq_decide
def w16 (x:Nat):AV:=.v (.int .u16 (x:Int))
theorem g4_take {n i:Nat} (h:n/10000 ^ i≠0):((g4 n).take (i+1)).map w16=((g4 n).take i).map w16++[.v (.int .u16 ((n/10000 ^ i%10000:Nat):Int))]:=by
 have hi:=(Zv0 i n).2 h;rw [ZFl,ZBx hi,Zzt i n hi,ZCe];rfl
theorem g4_all {n i:Nat} (hi:i≤(g4 n).length) (h:n/10000 ^ i=0):i=(g4 n).length:=by
 rcases ZB7 i (g4 n).length with h1 | h1
 ·exact absurd h ((Zv0 i n).1 h1)
 ·omega
theorem dig_w8 (x:Nat) (h:x < 10):by8 (UInt8.ofNat (48+x))=.v (.int .u8 ((48+x:Nat):Int)):=by
 unfold by8;rw [show(UInt8.ofNat (48+x)).toNat=48+x from(UInt8.toNat_ofNat' ..).trans zo]
def dl:Nat→Nat
 | 0=>1000 | 1=>100 | 2=>10 | 3=>1 | _=>0
def vl (V g:Nat):Nat→Nat
 | 0=>V | 1=>(V*10000+g)/1000 | 2=>(V*10000+g)/100 | 3=>(V*10000+g)/10 | _=>V*10000+g
theorem vl_step {V g j:Nat} (hg:g < 10000) (hj:j < 4):vl V g (j+1)=vl V g j*10+g/dl j%10∧(vl V g j=0→V=0)∧(vl V g j=0→(vl V g (j+1)=0↔g < dl j))∧dl j/10=dl (j+1)∧0 < dl j∧dl j≤1000∧vl V g j≤V*10000+g:=by
 match j,hj with
 | 0,_=>(show(V*10000+g)/1000=V*10+g/1000%10∧(V=0→V=0)∧(V=0→((V*10000+g)/1000=0↔g < 1000))∧1000/10=100∧0 < 1000∧1000≤1000∧V≤V*10000+g;omega)
 | 1,_=>(show(V*10000+g)/100=(V*10000+g)/1000*10+g/100%10∧((V*10000+g)/1000=0→V=0)∧((V*10000+g)/1000=0→((V*10000+g)/100=0↔g < 100))∧100/10=10∧0 < 100∧100≤1000∧(V*10000+g)/1000≤V*10000+g;omega)
 | 2,_=>(show(V*10000+g)/10=(V*10000+g)/100*10+g/10%10∧((V*10000+g)/100=0→V=0)∧((V*10000+g)/100=0→((V*10000+g)/10=0↔g < 10))∧10/10=1∧0 < 10∧10≤1000∧(V*10000+g)/100≤V*10000+g;omega)
 | 3,_=>(show V*10000+g=(V*10000+g)/10*10+g/1%10∧((V*10000+g)/10=0→V=0)∧((V*10000+g)/10=0→(V*10000+g=0↔g < 1))∧1/10=0∧0 < 1∧1≤1000∧(V*10000+g)/10≤V*10000+g;omega)
theorem dig_next {v x:Nat} (h:v*10+x≠0) (hx:x < 10):dig (v*10+x)=dig v++[UInt8.ofNat (48+x)]:=by
 rw [Zkk h,show(v*10+x)/10=v from by omega,show(v*10+x)%10=x from by omega]
theorem Zys (n:Nat) (hn:(toL n).length≤10000000):Pure prog 191 [lim (toL n)] (.v (.string (decS n))):=by
 have cn:=Zpk n zo;by_cases h0:n=0
 ·subst h0;have l0:(toL 0).length=0:=by rw [Zaz];rfl
  refine pI func191 rfl ntmps191 results191 call191 ?_
  (refine wkvp (w_2 l0 @ZDm) (w_1 cn) (w_s ?_);intros)
  simp (disch:=omega) only [go_sem];rfl
 ·have hp:=Zbc.2 (ZDg h0);have hG:=g4_len n;have hD:=decS_dig h0;rw [hD];refine pI func191 rfl ntmps191 results191 call191 ?_
  (refine wkvp w_t (w_1 cn) (w_s ?_);intros)
  refine Zff (Frz.nilOwn (d:=3) 500 1 161 (gC)) ?_;refine Zad (ι:=Nat) (λi e m=>i≤(g4 n).length∧e 0=lim (toL (n/10000 ^ i))∧∃sv,e 3=.own 500 sv∧m 500=some (.row sv 161 1 (((g4 n).take i).map w16) 0)) (λi=>(g4 n).length - i) 0 zr ?_ ?_
  ·rintro i e m ⟨hi,e0,sv,e3,m500⟩
   have hlr:(((g4 n).take i).map w16).length≤100000000:=by rw [ZBt,ZB9];omega
   by_cases hk0:n/10000 ^ i=0
   ·have hiL:=g4_all hi hk0;rw [hk0] at e0;subst hiL;rw [ZC8] at m500;clear hlr;have l0:(toL 0).length=0:=by rw [Zaz];rfl
    have hGl:((g4 n).map w16).length=(g4 n).length:=ZBt ..;have hGp:0 < (g4 n).length:=(Zv0 0 n).2 (by simpa using h0);have gg:∀i (h:i < (g4 n).length),((g4 n).map w16).getD i .u=.v (.int .u16 ((n/10000 ^ i%10000:Nat):Int)):=λi h=>by
     rw [Zaw w16 h,Zzt i n h];rfl
    generalize (g4 n).map w16=W at *
    (refine wkvp (w_6 e0 e3 m500 l0 @ZDm hGl) w_t (w_s ?_);intros)
    rename_i gB;refine Zff (Frz.nilBox (k:=6) 1 501 1 5 (gC) rfl zo) ?_;refine Zad (ι:=Nat) (λi e m=>i≤(g4 n).length∧(e 3=.own 500 sv∧e 6=.pbox 6 gB 0∧e 7=.v (.int .i64 (((g4 n).length:Int) - 1 - (i:Int)))∧m 500=some (.row sv 161 1 W 0))∧∃c0 sv2,m 6=some (.box gB 268 [c0,.own 501 sv2] false)∧(c0=.v (.pointer none)∨c0=.pbox 6 gB 0)∧m 501=some (.row sv2 5 1 ((dig (n/10000 ^ ((g4 n).length - i))).map by8) 0)) (λi=>(g4 n).length - i) 0 zr ?_ ?_
    ·rintro i e m ⟨hi,⟨e3,e6,e7,m500⟩,c0,sv2,m6,hc0,m501⟩
     by_cases hlt:i < (g4 n).length
     ·obtain⟨p,hp⟩:∃p,(g4 n).length=p+1+i:=⟨(g4 n).length - 1 - i,zo⟩;have ggp:=gg p zo;have hV:n/10000 ^ ((g4 n).length - i)=n/10000 ^ p/10000:=by rw [show(g4 n).length - i=p+1 from by omega,Zuh]
      have hV2:n/10000 ^ ((g4 n).length - (i+1))=n/10000 ^ p:=by rw [show(g4 n).length - (i+1)=p from by omega]
      have hT:n/10000 ^ p/10000*10000+n/10000 ^ p%10000=n/10000 ^ p:=zo;have hle:n/10000 ^ p≤n:=ZFu _ _;have e7:e 7=iv p:=by rw [e7];congr 2;omega
      have hgl:n/10000 ^ p%10000 < 10000:=ZC7 _ zo;rw [hV] at m501;clear gg hV;generalize n/10000 ^ p%10000=g at *;generalize hVe:n/10000 ^ p/10000=V at *
      (refine wkap (w_7 e3 e6 e7 m500 m6 m501 hGl) w_t (w_r 0) (w_s ?_);intros)
      refine Zad (ι:=Nat) (λj e m=>j≤4∧(e 3=.own 500 sv∧e 6=.pbox 6 gB 0∧e 7=iv p∧e 8=.v (.int .u16 (dl j:Nat))∧m 500=some (.row sv 161 1 W 0))∧∃c0 sv2,m 6=some (.box gB 268 [c0,.own 501 sv2] false)∧(c0=.v (.pointer none)∨c0=.pbox 6 gB 0)∧m 501=some (.row sv2 5 1 ((dig (vl V g j)).map by8) 0)) (λj=>4 - j) 0 zr ?_ ?_
      ·rintro j e m ⟨hj,⟨e3,e6,e7,e8,m500⟩,c0,sv2,m6,hc0,m501⟩
       by_cases hj4:j < 4
       ·obtain⟨s1,s2,s3,s4,s5,s6,s7⟩:=vl_step (V:=V) hgl hj4
        have hdl:(dig (vl V g j)).length≤100000000:=by
         have h1:=dig_lg (vl V g j);have h2:=Zed (n:=vl V g j) (m:=n) zo;omega
        have hdz:=Zuj (n:=vl V g j);have hx:g/dl j%10 < 10:=ZC7 _ zo;have hdn:=dig_next (v:=vl V g j) (x:=g/dl j%10);rw [←s1] at hdn;obtain⟨v1,hv1⟩:∃v1,vl V g (j+1)=v1:=⟨_,rfl⟩;rw [hv1] at s1 s3 hdn;generalize vl V g j=v at *;generalize dl j=d at *
        have w0:IntKind.u16.wrap ((g/d:Nat):Int)=((g/d:Nat):Int):=by
         have:g/d≤g:=ZFu _ _;show((g/d:Nat):Int)%65536=_;generalize g/d=z at *;omega
        have w1:IntKind.u16.wrap (48+(((g/d:Nat):Int)).tmod 10)=((48+g/d%10:Nat):Int):=by
         rw [Int.tmod_eq_emod_of_nonneg (ZFg _)];show(48+((g/d:Nat):Int)%10)%65536=_;generalize g/d=z at *;omega
        have w3:IntKind.u16.wrap ((d:Int).tdiv 10)=((d/10:Nat):Int):=by
         rw [Int.tdiv_eq_ediv_of_nonneg (ZFg _)];show((d:Int)/10)%65536=_;omega
        have w2:IntKind.u8.wrap ((48+g/d%10:Nat):Int)=((48+g/d%10:Nat):Int):=by
         show(((48+g/d%10:Nat):Int))%256=_;omega
        have hb8:=dig_w8 (g/d%10) hx;have cl:=fun(m:Mem) a b=>bldLen m 6 501 gB sv2 c0 (dig v) a b;have cw:=fun(m:Mem) a b=>bldWrite m 6 501 gB sv2 c0 (dig v) (UInt8.ofNat (48+g/d%10)) a b hc0 zo hdl;rw [hb8] at cw
        (refine wkap (w_8 e3 e6 e7 e8 m500 m6 m501 hGl) w_t (w_r 0) (w_s ?_);intros)
        refine Zdo (cl _ (gW m6) (gW m501)) ?_
        rintro _ _ ⟨rfl,rfl⟩
        by_cases hv:v=0
        ·have hl0:=hdz.2 hv;by_cases hgd:g < d
         ·(refine wkap (w_16 e3 e6 e7 e8 m500 m6 m501 hGl ggp @Zdw w0 w1 w2 w3 hl0 @ZDm) w_t (w_r 0) (w_s ?_);intros)
          exact⟨j+1,⟨zo,⟨gW e3,gW e6,gW e7,by rw [←s4];exact gC,gW m500⟩,c0,sv2,gW m6,hc0,by rw [hv1,(s3 hv).2 hgd];rw [hv] at m501;exact gW m501⟩,zo⟩
         ·have hne:=λh=>hgd ((s3 hv).1 h)
          (refine wkap (w_16 e3 e6 e7 e8 m500 m6 m501 hGl ggp @Zdw w0 w1 w2 w3 hl0 @ZDm) w_t (w_r 0) (w_s ?_);intros)
          refine Zdo (cw _ (gW m6) (gW m501)) ?_
          rintro _ _ ⟨sv3,rfl,rfl⟩
          (refine wkap (w_7 e3 e6 e7 e8 m500 hGl w3) w_t (w_r 0) (w_s ?_);intros)
          exact⟨j+1,⟨zo,⟨gW e3,gW e6,gW e7,by rw [←s4];exact gC,gW m500⟩,.pbox 6 gB 0,sv3,gC,.inr rfl,by rw [hv1,hdn zo hx];exact gC⟩,zo⟩
        ·have hlp:0 < (dig v).length:=ZDg λh=>hv (hdz.1 h)
         (refine wkap (w_14 e3 e6 e7 e8 m500 m6 m501 hGl ggp @Zdw w0 w1 w2 w3) w_t (w_r 0) (w_s ?_);intros)
         refine Zdo (cw _ (gW m6) (gW m501)) ?_
         rintro _ _ ⟨sv3,rfl,rfl⟩
         (refine wkap (w_7 e3 e6 e7 e8 m500 hGl w3) w_t (w_r 0) (w_s ?_);intros)
         exact⟨j+1,⟨zo,⟨gW e3,gW e6,gW e7,by rw [←s4];exact gC,gW m500⟩,.pbox 6 gB 0,sv3,gC,.inr rfl,by rw [hv1,hdn zo hx];exact gC⟩,zo⟩
       ·have:j=4:=zo;subst this;have e8:e 8=.v (.int .u16 0):=e8;have h4:vl V g 4=n/10000 ^ p:=hT;rw [h4] at m501
        (refine wkap (w_8 e3 e6 e7 e8 m500 m6 m501 hGl) w_t (w_r 0) (w_s ?_);intros)
        exact⟨i+1,⟨zo,⟨gW e3,gW e6,by(simp (disch:=omega) only [go_sem,e7];congr 2;omega),gW m500⟩,c0,sv2,gW m6,hc0,by rw [hV2];exact gW m501⟩,zo⟩
      ·exact⟨zo,⟨gW e3,gW e6,gW e7,by show _=AV.v (.int .u16 1000);exact gC,gW m500⟩,c0,sv2,gW m6,hc0,by show _=some (Ent.row sv2 5 1 ((dig V).map by8) 0);exact gW m501⟩
     ·have:i=(g4 n).length:=zo;subst this;have e7:e 7=.v (.int .i64 (-1)):=by rw [e7];congr 2;omega
      rw [ZEv,ZFi,ZFd] at m501;have hne:dig n≠[]:=λh=>h0 (Zuj.1 (by rw [h];rfl));have cs:=fun(m:Mem) a (b:m 501=some (.row sv2 5 1 ((dig n).map by8) 0))=>ZAz m 6 501 gB sv2 c0 (dig n) a b hne
      (refine wkap (w_7 e3 e6 e7 m500 m6 m501 hGl) w_t (w_r 0) (w_s ?_);intros)
      refine Zdo (cs _ (gW m6) (gW m501)) ?_
      rintro _ _ ⟨rfl,rfl⟩
      (refine wkap w_t w_t (w_r 0) (w_s ?_);intros)
      all_goals simp (disch:=omega) only [go_sem]
    ·exact⟨ZBw _,⟨gW e3,gC,by(simp (disch:=omega) only [go_sem];congr 2;omega),gW m500⟩,.v (.pointer none),.slice none 0 0,gC,.inl rfl,by rw [ZEi,hk0];exact gC⟩
   ·have hkp:=Zbc.2 (ZDg hk0);have hilt:=(Zv0 i n).2 hk0;have hlk:(toL (n/10000 ^ i)).length≤(toL n).length:=Zed (ZFu _ _);have ht:=g4_take hk0;have hdp:=Zuh n i;have cb:=Zpj (toL (n/10000 ^ i)) 10000 zo (Zar _) zo zo;rw [Zap,←hdp] at cb;clear hdp;generalize ((g4 n).take i).map w16=W at *;generalize n/10000 ^ i%10000=x at *;obtain⟨y,hy⟩:∃y,n/10000 ^ (i+1)=y:=⟨_,rfl⟩;rw [hy] at cb;generalize n/10000 ^ i=z at *
    (refine wkvp (w_3 e0 e3 m500) (w_1 cb) (w_s ?_);intros)
    exact⟨i+1,⟨zo,by rw [hy];exact gC,_,gC,by rw [ht];exact gC⟩,zo⟩
  ·exact⟨ZBw _,by rw [ZFi,ZFd];exact gC,_,gC,gC⟩
attribute [local go_sem] Zat Zau Zaq Zw0 Zz4 List.append_eq
theorem intText (z:Int) (hz:(toL z.natAbs).length≤10000000):Pure prog 190 [intZ z] (.v (.string (decZ z))):=by
 have cs:=iSign z zo;have ct:=Zys z.natAbs hz;have hs:=Zfz z.natAbs;have h45:(Zgl [45]).size=1:=Zeo _;unfold decZ;have e45:Zgl [45]=⟨#[45]⟩:=rfl;rw [e45] at h45 ⊢;generalize decS z.natAbs=s at *;by_cases h:z < 0
 ·rw [ZBm h];rw [ZFj h] at cs;rw [show intZ z=.agg [.v (.bool true),lim (toL z.natAbs)] from by unfold intZ intA;rw [ZBu h]] at *;refine pI func190 rfl ntmps190 results190 call190 ?_
  (refine wkvp (w_1 h45) (w_2 cs ct) (w_s ?_);intros)
  simp (disch:=omega) only [go_sem]
 ·rw [ZBl h];have h2:¬z.sign < 0:=by rw [Int.sign_neg_iff];exact h
  rw [show intZ z=.agg [.v (.bool false),lim (toL z.natAbs)] from by unfold intZ intA;rw [ZBv h]] at *;generalize z.sign=x at *;refine pI func190 rfl ntmps190 results190 call190 ?_
  (refine wkvp w_t (w_2 cs ct) (w_s ?_);intros)
  simp (disch:=omega) only [go_sem]
theorem ratText (q:Rat) {k:Nat} (h:Sz q k) (hk:k≤1000000):Pure prog 110 [ratQ q] (.v (.string (decQ q))):=by
 have cp:=Zf7 q h zo;have h1:=h.1;have h2:=h.2;have cr:=Zfn (decide (q.num < 0)) q.num.natAbs q.den zo zo q.den_nz;rw [show zI (decide (q.num < 0)) q.num.natAbs=q.num from by unfold zI;by_cases hq:q.num < 0<;>simp [hq]<;>omega,ZF7] at cr;have co:=Zk5 q.den zo;have cz:=intText q.num zo;have cd:=Zys q.den zo;have z1:=Zp7 q.num;have z2:=Zfz q.den;have e47:Zgl [47]=⟨#[47]⟩:=rfl;have h47:(Zgl [47]).size=1:=Zeo _;rw [e47] at h47;unfold decQ;rw [e47];by_cases hd:q.den=1
 ·rw [ZBm hd];rw [ZBu hd] at co;generalize decZ q.num=s at *;refine pI func110 rfl ntmps110 results110 call110 ?_
  (refine wkad w_t (w_4 cp cr co cz) w_t (w_s ?_);intros)
  simp (disch:=omega) only [go_sem]
 ·rw [ZBl hd];rw [ZBv hd] at co;generalize decZ q.num=s at *;generalize decS q.den=t at *;have h3:(s++⟨#[47]⟩:ByteArray).size=s.size+1:=by rw [ZCk,h47]
  refine pI func110 rfl ntmps110 results110 call110 ?_
  (refine wkad (w_2 h47 h3) (w_5 cp cr co cz cd) (w_1 (w_d 5 [(2,.v (.string s)),(6,.v (.string t))] [] [])) (w_s ?_);intros)
  simp (disch:=omega) only [go_sem]
end Go.Proofs.YtkefeinbjbeidaaGreatDoor
namespace Go.Proofs.YtkefeinbjbeidaaGreatDoor
open Go Go.RowKit Go.Pg Go.Pol Go.Proofs.Tryz
def tS (ss:List ByteArray) (p:List Qt) (s0:ByteArray):Nat→ByteArray
 | 0=>s0
 | i+1=>(if (tS ss p s0 i).size=0 then tS ss p s0 i else tS ss p s0 i++⟨#[42]⟩)++(p.getD i Qt.zero).txt ss
def chkP (n:Int):List Qt→Int
 | []=>0
 | q :: l=>if Qt.chk q n 64=0 then chkP n l else Qt.chk q n 64
def absR (a:Rat):Rat:=if a.num < 0 then -a else a
def tTxt (ss:List ByteArray) (t:Rat × List Qt):ByteArray:=tS ss t.2 (if t.2.length≠0∧absR t.1=1 then ⟨#[]⟩ else decQ (absR t.1)) t.2.length
def eS (ss:List ByteArray) (l:QTs):Nat→ByteArray
 | 0=>⟨#[]⟩
 | i+1=>(if i=0 then (if (l.getD i (0,[])).1.num < 0 then ⟨#[45]⟩ else ⟨#[]⟩) else eS ss l i++(if (l.getD i (0,[])).1.num < 0 then ⟨#[32,45,32]⟩ else ⟨#[32,43,32]⟩))++tTxt ss (l.getD i (0,[]))
def chkE (n:Int):QTs→Int
 | []=>0
 | t :: l=>if chkP n t.2=0 then chkE n l else chkP n t.2
def eTxt (ss:List ByteArray) (l:QTs):ByteArray:=if l.length=0 then ⟨#[48]⟩ else eS ss l l.length
theorem Zum {n:Int}:∀{p:List Qt},(∀j (h:j < p.length),Qt.chk p[j] n 64=0)→chkP n p=0
 | [],_=>rfl
 | q :: l,h=>by
   have h0:Qt.chk q n 64=0:=h 0 zs;unfold chkP;rw [ZBm h0];exact Zum λj hj=>h (j+1) (by simpa using hj)
theorem ZAp {n:Int}:∀{p:List Qt} {i:Nat} (hi:i < p.length),(∀j (h:j < p.length),j < i→Qt.chk p[j] n 64=0)→Qt.chk p[i] n 64≠0→chkP n p=Qt.chk p[i] n 64
 | q :: l,0,_,_,h2=>by
   have h2:Qt.chk q n 64≠0:=h2;unfold chkP;rw [ZBl h2];rfl
 | q :: l,i+1,hi,h,h2=>by
   have h0:Qt.chk q n 64=0:=h 0 zs zo;unfold chkP;rw [ZBm h0];exact ZAp (by simpa using hi) (λj hj hji=>h (j+1) (by simpa using hj) zo) h2
theorem Zun {n:Int}:∀{l:QTs},(∀j (h:j < l.length),chkP n l[j].2=0)→chkE n l=0
 | [],_=>rfl
 | q :: l,h=>by
   have h0:chkP n q.2=0:=h 0 zs;unfold chkE;rw [ZBm h0];exact Zun λj hj=>h (j+1) (by simpa using hj)
theorem ZAq {n:Int}:∀{l:QTs} {i:Nat} (hi:i < l.length),(∀j (h:j < l.length),j < i→chkP n l[j].2=0)→chkP n l[i].2≠0→chkE n l=chkP n l[i].2
 | q :: l,0,_,_,h2=>by
   have h2:chkP n q.2≠0:=h2;unfold chkE;rw [ZBl h2];rfl
 | q :: l,i+1,hi,h,h2=>by
   have h0:chkP n q.2=0:=h 0 zs zo;unfold chkE;rw [ZBm h0];exact ZAq (by simpa using hi) (λj hj hji=>h (j+1) (by simpa using hj) zo) h2
theorem txt_pos (q:Qt) (ss:List ByteArray):0 < (q.txt ss).size:=by
 unfold Qt.txt;split<;>simp only [ZCk]<;>(have:(⟨#[41]⟩:ByteArray).size=1:=rfl;omega)
theorem txt_size (q:Qt) (ss:List ByteArray) (hs:∀s∈ss,s.size≤1000) (ha:q.a < 64):(q.txt ss).size≤4000:=by
 have h1:=Zf4 hs q.a.toNat;have h2:=Zf4 hs q.b.toNat;have h3:=Zf4 hs q.c.toNat;have z:=Zfz q.a.toNat;have zl:(toL q.a.toNat).length≤1:=Zaf.2 zo;have s1:(⟨#[83,40]⟩:ByteArray).size=2:=rfl;have s2:(⟨#[80,40]⟩:ByteArray).size=2:=rfl;have s3:(⟨#[44,32]⟩:ByteArray).size=2:=rfl;have s4:(⟨#[41]⟩:ByteArray).size=1:=rfl;have s5:(⟨#[116,40]⟩:ByteArray).size=2:=rfl;unfold Qt.txt;split
 ·simp only [ZCk];omega
 ·split<;>simp only [ZCk]<;>omega
theorem ZAn {q:Qt} {n:Int} (ss:List ByteArray) (hs:∀s∈ss,s.size≤1000) (h:Qt.chk q n 64=0):(q.txt ss).size≤4000:=by
 unfold Qt.txt;by_cases hk:q.k=3
 ·have ha:q.a < 64:=by
   rcases ZAo (k:=q.k) (a:=q.a) (b:=q.b) (c:=q.c) h with h1 | h1
   ·exact h1.2.2.1
   ·exact absurd hk h1.1
  exact txt_size q ss hs ha
 ·have h1:=Zf4 hs q.a.toNat;have h2:=Zf4 hs q.b.toNat;have h3:=Zf4 hs q.c.toNat;have s1:(⟨#[83,40]⟩:ByteArray).size=2:=rfl;have s2:(⟨#[80,40]⟩:ByteArray).size=2:=rfl;have s3:(⟨#[44,32]⟩:ByteArray).size=2:=rfl;have s4:(⟨#[41]⟩:ByteArray).size=1:=rfl;rw [ZBl hk];split<;>simp only [ZCk]<;>omega
theorem tS_pos (ss:List ByteArray) (p:List Qt) (s0:ByteArray) (i:Nat) (h:0 < i):0 < (tS ss p s0 i).size:=by
 obtain⟨j,rfl⟩:∃j,i=j+1:=⟨i - 1,zo⟩;unfold tS;rw [ZCk];have:=txt_pos (p.getD j Qt.zero) ss;omega
theorem Zwy {ss:List ByteArray} {p:List Qt} {s0:ByteArray} {n:Int} (hs:∀s∈ss,s.size≤1000) {i:Nat} (hi:i≤p.length) (h:∀j (h:j < p.length),j < i→Qt.chk p[j] n 64=0):(tS ss p s0 i).size≤s0.size+i*4001:=by
 induction i with
 | zero=>unfold tS;omega
 | succ i ih =>
   have h1:=ih zo λj hj hji=>h j hj zo;have h2:=ZAn ss hs (h i zo zo);have e:p.getD i Qt.zero=p[i]:=by rw [ZB6,ZBx zo];rfl
   unfold tS;rw [ZCk,e];have s1:(⟨#[42]⟩:ByteArray).size=1:=rfl;split
   ·omega
   ·rw [ZCk];omega
theorem Zp8 {q:Rat} {k:Nat} (h:Sz q k):(decQ q).size≤10*k+4:=by
 have h1:=h.1;have h2:=h.2;have z1:=Zp7 q.num;have z2:=Zfz q.den;have h47:(Zgl [47]).size=1:=Zeo _;unfold decQ;split
 ·omega
 ·rw [ZCk,ZCk];omega
theorem Zof {q:Rat} {k:Nat} (h:Sz q k):Sz (absR q) k:=by
 unfold absR;split
 ·exact⟨by rw [show(-q).num=-q.num from rfl,ZGl];exact h.1,h.2⟩
 ·exact h
theorem ZBg (q:Rat):ratQ (absR q)=.agg [.v (.bool false),lim (toL q.num.natAbs),lim (toL q.den)]:=by
 unfold absR;split
 ·rename_i h;unfold ratQ;rw [show(-q).num=-q.num from rfl,show(-q).den=q.den from rfl,ZGl,ZBv zo]
 ·rename_i h;unfold ratQ;rw [ZBv h]
end Go.Proofs.YtkefeinbjbeidaaGreatDoor
namespace Go.Pol
open Go.Sort
def ltC {α:Type} (cmp:α→α→Int) (x y:α):Bool:=decide (cmp x y < 0)
theorem Zti {α β:Type} {cmp:α→α→Int} (o:CO cmp) (f:β→α):∀{l m:List β},(∀s∈l,∀t∈l,f s=f t→s=t)→(l.Pairwise λs t=>cmp (f s) (f t)≤0)→(m.Pairwise λs t=>cmp (f s) (f t)≤0)→l.Perm m→l=m
 | [],m,_,_,_,p=>(List.nil_perm.1 p).symm
 | a :: l,[],_,_,_,p=>by have:=p.length_eq;simp at this
 | a :: l,b :: m,hi,hl,hm,p=>by
   have hl':=List.pairwise_cons.1 hl;have hm':=List.pairwise_cons.1 hm
   have hab:a=b:=by
    have h1:a∈b :: m:=p.mem_iff.1 (.head _);have h2:b∈a :: l:=p.mem_iff.2 (.head _);rcases List.mem_cons.1 h1 with h | h1
    ·exact h
    ·rcases List.mem_cons.1 h2 with h | h2
     ·exact h.symm
     ·exact hi a (.head _) b (.tail _ h2) (o.anti (hl'.1 b h2) (hm'.1 a h1))
   subst hab;rw [Zti o f (λs hs t ht=>hi s (.tail _ hs) t (.tail _ ht)) hl'.2 hm'.2 (List.Perm.cons_inv p)]
theorem dst_inj {κ:Type} {l:List (Rat × κ)} (h:Dst l):∀s∈l,∀t∈l,s.2=t.2→s=t:=by
 induction l with
 | nil=>intro s hs;cases hs
 | cons a l ih =>
   have h':=List.pairwise_cons.1 h;intro s hs t ht e;rcases List.mem_cons.1 hs with rfl | hs
   ·rcases List.mem_cons.1 ht with rfl | ht
    ·rfl
    ·exact absurd e (h'.1 t ht)
   ·rcases List.mem_cons.1 ht with ht | ht
    ·rw [ht] at e;exact absurd e.symm (h'.1 s hs)
    ·exact ih h'.2 s hs t ht e
section
variable {α:Type} {β:Type} (f:α→β)
variable [Inhabited α]
end
section
variable {α:Type} [Inhabited α] {lt:α→α→Bool}
theorem bitsLen_256 {x:Nat} (h:256≤x):bitsLen x=8+bitsLen (x/256):=by
 have h1:=lt_two_pow_bitsLen x;have h2:=lt_two_pow_bitsLen (x/256)
 have h3:8 < bitsLen x:=by
  rcases ZB7 8 (bitsLen x) with h | h
  ·exact h
  ·have:=(bitsLen_le_iff x 8).1 h;omega
 have a:bitsLen x≤8+bitsLen (x/256):=(bitsLen_le_iff _ _).2 (by rw [ZC0];omega);have b:bitsLen (x/256)≤bitsLen x - 8:=(bitsLen_le_iff _ _).2 (by
  obtain⟨m,hm⟩:∃m,bitsLen x=8+m:=⟨bitsLen x - 8,zo⟩;rw [hm] at h1 ⊢;rw [ZC0] at h1;rw [show 8+m - 8=m by omega];exact Nat.div_lt_of_lt_mul h1)
 omega
def hintN (n:Nat):Hint:=if n=0 then .increasing else if n=12 then .decreasing else .unknown
section
variable {d d1 d2:Array α} {a b lim lim1 pv:Nat} {wb wp:Bool} {c:Nat × Hint} {hint:Hint} {pi:Array α × Bool}
end
end
end Go.Pol
namespace Go.Proofs.YtkefeinbjbeidaaGreatDoor
open Go Go.RowKit Go.Pg Go.Pol Go.Proofs.Tryz
attribute [-bool_to_prop] Bool.and_eq_decide Bool.or_eq_decide Bool.decide_beq_decide decide_eq_decide
theorem Zcz {P:Program} {t:TypeId} {w:World} (h:(P.underlying t).map Zfu=some false):(isAgg t).run P w=.ok false w:=by
 obtain⟨d,hd,h⟩:=Option.map_eq_some_iff.1 h;simp only [isAgg,ZB2,ZB8 hd,ZB1];cases d<;>first|rfl|cases h
theorem ag_st {P:Program} {t:TypeId} {w:World} (h:(P.underlying t).map Zfu=some true):(isAgg t).run P w=.ok true w:=by
 obtain⟨d,hd,h⟩:=Option.map_eq_some_iff.1 h;simp only [isAgg,ZB2,ZB8 hd,ZB1];cases d<;>first|rfl|cases h
def sqR:Go.Shelf.Ren:=⟨fun | 14=>226 | 15=>227 | 20=>263 | 21=>264 | 22=>265 | 23=>266 | 24=>267 | 25=>268 | 26=>269 | 27=>270 | 28=>271 | 29=>272 | 46=>302 | 47=>303 | 48=>304 | 49=>305 | 50=>306 | 57=>313 | n=>n,fun | 0=>0 | 3=>3 | 4=>4 | 5=>5 | 9=>9 | 22=>76 | 24=>91 | 25=>125 | 39=>190 | 45=>286 | 46=>287 | 50=>229 | 53=>189 | 55=>121 | 66=>313 | 70=>317 | 76=>323 | 77=>324 | n=>n,λn=>n⟩
theorem sqL:Go.Proofs.SlLaysF0.n14 prog sqR:={
 mixed:=by kernel_rfl
 f14:=⟨f226.name,by decide,by kernel_rfl⟩
 f15:=by kernel_rfl
 f20:=⟨f263.name,by decide,by kernel_rfl⟩
 f21:=⟨f264.name,by decide,by kernel_rfl⟩
 f22:=⟨f265.name,by decide,by kernel_rfl⟩
 f23:=⟨f266.name,by decide,by kernel_rfl⟩
 f24:=⟨f267.name,by decide,by kernel_rfl⟩
 f25:=⟨f268.name,by decide,by kernel_rfl⟩
 f26:=⟨f269.name,by decide,by kernel_rfl⟩
 f27:=⟨f270.name,by decide,by kernel_rfl⟩
 f28:=by kernel_rfl
 f29:=by kernel_rfl
 f46:=⟨f302.name,by decide,by kernel_rfl⟩
 f47:=by kernel_rfl
 f48:=by kernel_rfl
 f49:=⟨f305.name,by decide,by kernel_rfl⟩
 f50:=⟨f306.name,by decide,by kernel_rfl⟩
 f57:=⟨f313.name,by decide,by kernel_rfl⟩
 t0:=by kernel_rfl
 a0:=λ_=>Zcz (t:=0) zk
 z0:=λ_=>Zac zk
 v0:=λ_=>Zab zk
 t3:=by kernel_rfl
 a3:=λ_=>Zcz (t:=3) zk
 z3:=λ_=>Zac zk
 v3:=λ_=>Zab zk
 t4:=by kernel_rfl
 a4:=λ_=>Zcz (t:=4) zk
 z4:=λ_=>Zac zk
 v4:=λ_=>Zab zk
 t5:=by kernel_rfl
 a5:=λ_=>Zcz (t:=5) zk
 z5:=λ_=>Zac zk
 v5:=λ_=>Zab zk
 t9:=by kernel_rfl
 a9:=λ_=>Zcz (t:=9) zk
 z9:=λ_=>Zac zk
 v9:=λ_=>Zab zk
 t22:=by kernel_rfl
 a22:=λ_=>Zcz (t:=76) zk
 z22:=λ_=>Zac zk
 v22:=λ_=>Zab zk
 t25:=by kernel_rfl
 a25:=λ_=>Zcz (t:=125) zk
 z25:=λ_=>Zac zk
 v25:=λ_=>Zab zk
 t39:=by kernel_rfl
 a39:=λ_=>Zcz (t:=190) zk
 z39:=λ_=>Zac zk
 v39:=λ_=>Zab zk
 t45:=by kernel_rfl
 a45:=λ_=>Zcz (t:=286) zk
 z45:=λ_=>Zac zk
 v45:=λ_=>Zab zk
 t46:=by kernel_rfl
 a46:=λ_=>Zcz (t:=287) zk
 z46:=λ_=>Zac zk
 v46:=λ_=>Zab zk
 t50:=by kernel_rfl
 a50:=λ_=>Zcz (t:=229) zk
 z50:=λ_=>Zac zk
 v50:=λ_=>Zab zk
 t53:=by kernel_rfl
 a53:=λ_=>Zcz (t:=189) zk
 z53:=λ_=>Zac zk
 v53:=λ_=>Zab zk
 t55:=by kernel_rfl
 a55:=λ_=>Zcz (t:=121) zk
 z55:=λ_=>Zac zk
 v55:=λ_=>Zab zk
 t66:=by kernel_rfl
 a66:=λ_=>Zcz (t:=313) zk
 z66:=λ_=>Zac zk
 v66:=λ_=>Zab zk
 t70:=by kernel_rfl
 a70:=λ_=>Zcz (t:=317) zk
 z70:=λ_=>Zac zk
 v70:=λ_=>Zab zk
 t76:=by kernel_rfl
 a76:=λ_=>Zcz (t:=323) zk
 z76:=λ_=>Zac zk
 v76:=λ_=>Zab zk
 t77:=by kernel_rfl
 a77:=λ_=>Zcz (t:=324) zk
 z77:=λ_=>Zac zk
 v77:=λ_=>Zab zk
}
def stR:Go.Shelf.Ren:=⟨fun | 14=>250 | 15=>227 | 20=>287 | 21=>288 | 22=>289 | 23=>290 | 24=>291 | 25=>292 | 26=>293 | 27=>294 | 28=>271 | 29=>272 | 46=>308 | 47=>303 | 48=>304 | 49=>309 | 50=>310 | 57=>314 | n=>n,fun | 0=>0 | 3=>3 | 4=>4 | 5=>5 | 9=>9 | 22=>33 | 24=>78 | 25=>232 | 39=>190 | 45=>286 | 46=>287 | 50=>229 | 53=>189 | 55=>121 | 66=>313 | 70=>317 | 76=>323 | 77=>324 | n=>n,λn=>n⟩
theorem stL:Go.Proofs.SlLaysF0.n14 prog stR:={
 mixed:=by kernel_rfl
 f14:=⟨f250.name,by decide,by kernel_rfl⟩
 f15:=by kernel_rfl
 f20:=⟨f287.name,by decide,by kernel_rfl⟩
 f21:=⟨f288.name,by decide,by kernel_rfl⟩
 f22:=⟨f289.name,by decide,by kernel_rfl⟩
 f23:=⟨f290.name,by decide,by kernel_rfl⟩
 f24:=⟨f291.name,by decide,by kernel_rfl⟩
 f25:=⟨f292.name,by decide,by kernel_rfl⟩
 f26:=⟨f293.name,by decide,by kernel_rfl⟩
 f27:=⟨f294.name,by decide,by kernel_rfl⟩
 f28:=by kernel_rfl
 f29:=by kernel_rfl
 f46:=⟨f308.name,by decide,by kernel_rfl⟩
 f47:=by kernel_rfl
 f48:=by kernel_rfl
 f49:=⟨f309.name,by decide,by kernel_rfl⟩
 f50:=⟨f310.name,by decide,by kernel_rfl⟩
 f57:=⟨f314.name,by decide,by kernel_rfl⟩
 t0:=by kernel_rfl
 a0:=λ_=>Zcz (t:=0) zk
 z0:=λ_=>Zac zk
 v0:=λ_=>Zab zk
 t3:=by kernel_rfl
 a3:=λ_=>Zcz (t:=3) zk
 z3:=λ_=>Zac zk
 v3:=λ_=>Zab zk
 t4:=by kernel_rfl
 a4:=λ_=>Zcz (t:=4) zk
 z4:=λ_=>Zac zk
 v4:=λ_=>Zab zk
 t5:=by kernel_rfl
 a5:=λ_=>Zcz (t:=5) zk
 z5:=λ_=>Zac zk
 v5:=λ_=>Zab zk
 t9:=by kernel_rfl
 a9:=λ_=>Zcz (t:=9) zk
 z9:=λ_=>Zac zk
 v9:=λ_=>Zab zk
 t22:=by kernel_rfl
 a22:=λ_=>Zcz (t:=33) zk
 z22:=λ_=>Zac zk
 v22:=λ_=>Zab zk
 t25:=by kernel_rfl
 a25:=λ_=>Zcz (t:=232) zk
 z25:=λ_=>Zac zk
 v25:=λ_=>Zab zk
 t39:=by kernel_rfl
 a39:=λ_=>Zcz (t:=190) zk
 z39:=λ_=>Zac zk
 v39:=λ_=>Zab zk
 t45:=by kernel_rfl
 a45:=λ_=>Zcz (t:=286) zk
 z45:=λ_=>Zac zk
 v45:=λ_=>Zab zk
 t46:=by kernel_rfl
 a46:=λ_=>Zcz (t:=287) zk
 z46:=λ_=>Zac zk
 v46:=λ_=>Zab zk
 t50:=by kernel_rfl
 a50:=λ_=>Zcz (t:=229) zk
 z50:=λ_=>Zac zk
 v50:=λ_=>Zab zk
 t53:=by kernel_rfl
 a53:=λ_=>Zcz (t:=189) zk
 z53:=λ_=>Zac zk
 v53:=λ_=>Zab zk
 t55:=by kernel_rfl
 a55:=λ_=>Zcz (t:=121) zk
 z55:=λ_=>Zac zk
 v55:=λ_=>Zab zk
 t66:=by kernel_rfl
 a66:=λ_=>Zcz (t:=313) zk
 z66:=λ_=>Zac zk
 v66:=λ_=>Zab zk
 t70:=by kernel_rfl
 a70:=λ_=>Zcz (t:=317) zk
 z70:=λ_=>Zac zk
 v70:=λ_=>Zab zk
 t76:=by kernel_rfl
 a76:=λ_=>Zcz (t:=323) zk
 z76:=λ_=>Zac zk
 v76:=λ_=>Zab zk
 t77:=by kernel_rfl
 a77:=λ_=>Zcz (t:=324) zk
 z77:=λ_=>Zac zk
 v77:=λ_=>Zab zk
}
theorem co_h1 {α:Type} {cmp:α→α→Int} (o:CO cmp) (x y:α):cmp x x=0∧(cmp x y < 0↔0 < cmp y x):=⟨o.refl x,o.flip x y⟩
theorem co_h2 {α:Type} {cmp:α→α→Int} (o:CO cmp) (a b c:α) (h1:cmp a b≤0) (h2:cmp b c≤0):cmp a c≤0:=o.le_tr h1 h2
theorem sqPdqK (σ:Mem) (K:Nat) (sv:Value) (L:List Qt) (lm:Nat) (hK:σ K=some (.row sv 91 4 (L.map Qt.av) 0)) (hl:L.length≤1000000000) (hlim:lm≤1000000000):ACall prog 226 [.own K sv,iv 0,iv L.length,iv lm,.fn 164 []] σ λr σ'=>r=.tup []∧σ'=upd σ K (some (.row sv 91 4 ((srtQ Qt.cmp L).map Qt.av) 0)):=by
 refine(Zmd sqL (k:=4) (λ_=>ag_st (t:=91) zk) (λ_=>Zac zk) zo (λq:Qt=>[iv q.k,iv q.a,iv q.b,iv q.c]) Qt.cmp (g:=164) L (λ_=>rfl) hK zo (co_h1 qtO) (co_h2 qtO) (λx _ y _=>quCmp x.k x.a x.b x.c y.k y.a y.b y.c) call226 lm zo λp cap w=>Go.Proofs.AnyF.pdqsortCmpFunc_none sqL p cap lm _ w).mono λr σ' h=>?_;obtain⟨l',hp,hs,rfl,rfl⟩:=h;have e:l'=srtQ Qt.cmp L:=Zfk qtO hs (Zb5 qtO.cp _) (hp.trans (Za1 _).symm);rw [e];exact⟨rfl,rfl⟩
theorem stPdqK (σ:Mem) (K:Nat) (sv:Value) (L:List (Rat × List Qt)) (lm:Nat) (hK:σ K=some (.row sv 78 4 (L.map qtA) 0)) (hl:L.length≤1000000000) (hq:∀t∈L,t.2.length≤1000000) (hd:Dst L) (hlim:lm≤1000000000):ACall prog 250 [.own K sv,iv 0,iv L.length,iv lm,.fn 198 []] σ λr σ'=>r=.tup []∧σ'=upd σ K (some (.row sv 78 4 ((srtQ ordT L).map qtA) 0)):=by
 refine(Zmd stL (k:=4) (λ_=>ag_st (t:=78) zk) (λ_=>Zac zk) zo (λt:Rat × List Qt=>[.v (.bool (decide (t.1.num < 0))),lim (toL t.1.num.natAbs),lim (toL t.1.den),.sl 4 (t.2.map Qt.av)]) ordT (g:=198) L (λ_=>rfl) hK zo (λs t=>co_h1 Zbh s.2 t.2) (λs t u=>co_h2 Zbh s.2 t.2 u.2) (λs hs t ht=>exCmpT s t (hq s hs) (hq t ht)) call250 lm zo λp cap w=>Go.Proofs.AnyF.pdqsortCmpFunc_none stL p cap lm _ w).mono λr σ' h=>?_;obtain⟨l',hp,hs,rfl,rfl⟩:=h;have e:l'=srtQ ordT L:=Zti Zbh (λs:Rat × List Qt=>s.2) (λs hs' t ht' e=>dst_inj hd s (hp.mem_iff.1 hs') t (hp.mem_iff.1 ht') e) hs (Zb5 (Zbh.cp.key λs:Rat × List Qt=>s.2) L) (hp.trans (Za1 _).symm)
 rw [e];exact⟨rfl,rfl⟩
attribute [go_sem] underlying313 underlying323 szXs byXs zXs
theorem Zqz (a:Nat) (s:Nat) (hs:s < 64):shrI .u64 (a:Int) (s:Int)=((a/2 ^ s:Nat):Int):=by
 unfold shrI;rw [show min ((s:Int).toNat) IntKind.u64.bits=s by rw [ZE9];exact ZD5 (by show s≤64;omega),ZGu _ (Int.le_of_lt (Int.pow_pos zd))];simp
def hintI:Go.Sort.Hint→Int
 | .unknown=>0
 | .increasing=>1
 | .decreasing=>2
abbrev u64A (n:Nat):AV:=.v (.int .u64 (n:Int))
theorem Znt (i:Nat):len8 i=Go.Sort.bitsLen i:=rfl
theorem bLen64 (x:Nat) (hx:x≤1000000000):Pure prog 272 [u64A x] (iv (Go.Sort.bitsLen x:Nat)):=by
 have n32:¬(4294967296:Int)≤(x:Int):=zo;by_cases h16:65536≤x
 ·have g16:(65536:Int)≤(x:Int):=zo;have b1:=Go.Pol.bitsLen_256 (x:=x) zo;have b2:=Go.Pol.bitsLen_256 (x:=x/256) zo;rw [ZGi] at b2;have b2:Go.Sort.bitsLen (x/256)=8+Go.Sort.bitsLen (x/65536):=b2;have s16:shrI .u64 (x:Int) 16=((x/65536:Nat):Int):=Zqz x 16 zo;have hy:x/65536≤15258:=zo;rw [b1,b2];clear b1 b2;generalize x/65536=y at *;have s8:shrI .u64 (y:Int) 8=((y/256:Nat):Int):=Zqz y 8 zo;by_cases h8:256≤y
  ·have g8:(256:Int)≤(y:Int):=zo;rw [Go.Pol.bitsLen_256 h8];have hz:y/256 < 256:=zo;generalize y/256=z at *;rw [←Znt];have b:=Zgd hz;refine pI func272 rfl ntmps272 results272 call272 ?_
   (repeat' (first|(apply Zrl (g:=len8) (n:=256) zk zk zo)|(with_reducible first|refine stp ?_|apply gx1|apply gx2|apply gx3|apply gx4|apply gx5|apply gx6|apply gx7)|(with_reducible refine Zcl ?_;intro _)|((with_reducible refine gE ?_);(try simp (disch:=omega) only [go_sem,n32,g16,s16,s8,g8])<;>first|rfl|omega)|with_reducible refine Zaj zd ?_))
   (all_goals (try simp (disch:=omega) only [go_sem,ZBu,ZBv,ZBm,ZBl,Int.reduceAdd,Int.reduceSub,Int.reduceToNat,ZB3]));(all_goals first|done|rfl|(congr 2;first|done|omega|(rw [ZCh];simp only [bool_to_prop,ZB0,ZCp,ZCq,ZCr,ZCs];omega))|skip)
  ·have g8:¬(256:Int)≤(y:Int):=zo;rw [←Znt];have b:=Zgd (i:=y) zo;refine pI func272 rfl ntmps272 results272 call272 ?_
   (repeat' (first|(apply Zrl (g:=len8) (n:=256) zk zk zo)|(with_reducible first|refine stp ?_|apply gx1|apply gx2|apply gx3|apply gx4|apply gx5|apply gx6|apply gx7)|(with_reducible refine Zcl ?_;intro _)|((with_reducible refine gE ?_);(try simp (disch:=omega) only [go_sem,n32,g16,s16,s8,g8])<;>first|rfl|omega)|with_reducible refine Zaj zd ?_))
   (all_goals (try simp (disch:=omega) only [go_sem,ZBu,ZBv,ZBm,ZBl,Int.reduceAdd,Int.reduceSub,Int.reduceToNat,ZB3]));(all_goals first|done|rfl|(congr 2;first|done|omega|(rw [ZCh];simp only [bool_to_prop,ZB0,ZCp,ZCq,ZCr,ZCs];omega))|skip)
 ·have g16:¬(65536:Int)≤(x:Int):=zo;have s8:shrI .u64 (x:Int) 8=((x/256:Nat):Int):=Zqz x 8 zo;by_cases h8:256≤x
  ·have g8:(256:Int)≤(x:Int):=zo;rw [Go.Pol.bitsLen_256 h8];have hz:x/256 < 256:=zo;generalize x/256=z at *;rw [←Znt];have b:=Zgd hz;refine pI func272 rfl ntmps272 results272 call272 ?_
   (repeat' (first|(apply Zrl (g:=len8) (n:=256) zk zk zo)|(with_reducible first|refine stp ?_|apply gx1|apply gx2|apply gx3|apply gx4|apply gx5|apply gx6|apply gx7)|(with_reducible refine Zcl ?_;intro _)|((with_reducible refine gE ?_);(try simp (disch:=omega) only [go_sem,n32,g16,s8,g8])<;>first|rfl|omega)|with_reducible refine Zaj zd ?_))
   (all_goals (try simp (disch:=omega) only [go_sem,ZBu,ZBv,ZBm,ZBl,Int.reduceAdd,Int.reduceSub,Int.reduceToNat,ZB3]));(all_goals first|done|rfl|(congr 2;first|done|omega|(rw [ZCh];simp only [bool_to_prop,ZB0,ZCp,ZCq,ZCr,ZCs];omega))|skip)
  ·have g8:¬(256:Int)≤(x:Int):=zo;rw [←Znt];have b:=Zgd (i:=x) zo;refine pI func272 rfl ntmps272 results272 call272 ?_
   (repeat' (first|(apply Zrl (g:=len8) (n:=256) zk zk zo)|(with_reducible first|refine stp ?_|apply gx1|apply gx2|apply gx3|apply gx4|apply gx5|apply gx6|apply gx7)|(with_reducible refine Zcl ?_;intro _)|((with_reducible refine gE ?_);(try simp (disch:=omega) only [go_sem,n32,g16,s8,g8])<;>first|rfl|omega)|with_reducible refine Zaj zd ?_))
   (all_goals (try simp (disch:=omega) only [go_sem,ZBu,ZBv,ZBm,ZBl,Int.reduceAdd,Int.reduceSub,Int.reduceToNat,ZB3]));(all_goals first|done|rfl|(congr 2;first|done|omega|(rw [ZCh];simp only [bool_to_prop,ZB0,ZCp,ZCq,ZCr,ZCs];omega))|skip)
theorem bLen (x:Nat) (hx:x≤1000000000):Pure prog 227 [u64A x] (iv (Go.Sort.bitsLen x:Nat)):=by
 have c:=bLen64 x hx;generalize ((Go.Sort.bitsLen x:Nat):Int)=r at *;refine pI func227 rfl ntmps227 results227 call227 ?_
 (refine wkap w_t (w_1 c) (w_r 0) (w_s ?_);intros)
 all_goals exact gL
theorem Zmy {x:Nat} (h:x≤1000000000):Go.Sort.bitsLen x≤30:=(Go.Sort.bitsLen_le_iff x 30).2 zo
attribute [local go_sem] Zag Zao Zah Bool.and_self Zal Zbb Za7
theorem Zw9 (σ:Mem) (K:Nat) (sv:Value) (L:List Qt) (hK:σ K=some (.row sv 91 4 (L.map Qt.av) 0)) (hl:L.length≤1000000000):ACall prog 163 [.own K sv,.fn 164 []] σ λr σ'=>r=.tup []∧σ'=upd σ K (some (.row sv 91 4 ((srtQ Qt.cmp L).map Qt.av) 0)):=by
 refine Zjo (args':=[.own (K+1000) sv,.fn 164 []]) func163 rfl ntmps163 results163 call163 zr zs (.cons (Sub.own _ _ _) (.cons (Sub.refl _) .nil)) ?_;have hL:∀k,lent σ (k+1000)=σ k:=λk=>by unfold lent;rw [ZBl zo,ZEy]
 generalize lent σ=m0 at *;have m0K:m0 (K+1000)=some (.row sv 91 4 (L.map Qt.av) 0):=by rw [hL,hK]
 have cb:=bLen L.length hl;have hb:=Zmy hl;have hml:(L.map Qt.av).length=L.length:=ZBt ..;have ci:=fun(σ:Mem) h=>sqPdqK σ (K+1000) sv L (Go.Sort.bitsLen L.length) h hl zo;generalize (srtQ Qt.cmp L).map Qt.av=V at *;generalize Go.Sort.bitsLen L.length=lim at *;have ci:∀(σ:Mem),σ (K+1000)=some (.row sv 91 4 (L.map Qt.av) 0)→ACall prog 226 [.own (K+1000) sv,iv 0,iv L.length,iv lim,.fn 164 []] σ _:=ci;generalize L.map Qt.av=LA at *
 (refine wkap (w_2 m0K hml) (w_1 cb) (w_r 0) (w_s ?_);intros)
 refine Zgx (ci _ (by(simp (disch:=omega) only [go_sem,m0K]<;>repeat' first|rfl|refine⟨?_,?_⟩))) ?_
 (refine wkap w_t w_t (w_r 0) (w_s ?_);intros)
 simp (disch:=omega) only [go_sem];refine Zqf (Sub.refl _) ⟨rfl,rfl⟩ λk hk=>?_;by_cases e:k=K
 ·subst e;rw [Zam,ZBm rfl,Zam,ZBm rfl]
 ·rw [Zam,ZBl zo,Zam,ZBl e,hL]
theorem stSortN (σ:Mem) (K:Nat) (sv:Value) (L:List (Rat × List Qt)) (hK:σ K=some (.row sv 78 4 (L.map qtA) 0)) (hl:L.length≤1000000000) (hq:∀t∈L,t.2.length≤1000000) (hd:Dst L):ACall prog 197 [.own K sv,.fn 198 []] σ λr σ'=>r=.tup []∧σ'=upd σ K (some (.row sv 78 4 ((srtQ ordT L).map qtA) 0)):=by
 refine Zjo (args':=[.own (K+1000) sv,.fn 198 []]) func197 rfl ntmps197 results197 call197 zr zs (.cons (Sub.own _ _ _) (.cons (Sub.refl _) .nil)) ?_;have hL:∀k,lent σ (k+1000)=σ k:=λk=>by unfold lent;rw [ZBl zo,ZEy]
 generalize lent σ=m0 at *;have m0K:m0 (K+1000)=some (.row sv 78 4 (L.map qtA) 0):=by rw [hL,hK]
 have cb:=bLen L.length hl;have hb:=Zmy hl;have hml:(L.map qtA).length=L.length:=ZBt ..;have ci:=fun(σ:Mem) h=>stPdqK σ (K+1000) sv L (Go.Sort.bitsLen L.length) h hl hq hd zo;generalize (srtQ ordT L).map qtA=V at *;generalize Go.Sort.bitsLen L.length=lim at *;have ci:∀(σ:Mem),σ (K+1000)=some (.row sv 78 4 (L.map qtA) 0)→ACall prog 250 [.own (K+1000) sv,iv 0,iv L.length,iv lim,.fn 198 []] σ _:=ci;generalize L.map qtA=LA at *
 (refine wkap (w_2 m0K hml) (w_1 cb) (w_r 0) (w_s ?_);intros)
 refine Zgx (ci _ (by(simp (disch:=omega) only [go_sem,m0K]<;>repeat' first|rfl|refine⟨?_,?_⟩))) ?_
 (refine wkap w_t w_t (w_r 0) (w_s ?_);intros)
 simp (disch:=omega) only [go_sem];refine Zqf (Sub.refl _) ⟨rfl,rfl⟩ λk hk=>?_;by_cases e:k=K
 ·subst e;rw [Zam,ZBm rfl,Zam,ZBm rfl]
 ·rw [Zam,ZBl zo,Zam,ZBl e,hL]
def maxQ:Nat:=1000
theorem qSort (σ:Mem) (K:Nat) (sv:Value) (L:List Qt) (hK:σ K=some (.row sv 91 4 (L.map Qt.av) 0)) (hl:L.length≤maxQ):ACall prog 163 [.own K sv,.fn 164 []] σ λr σ'=>r=.tup []∧σ'=upd σ K (some (.row sv 91 4 ((srtQ Qt.cmp L).map Qt.av) 0)):=Zw9 σ K sv L hK (by unfold maxQ at hl;omega)
theorem Zjd:maxQ≤1000:=by unfold maxQ;omega
theorem Zzd:12≤maxQ:=by unfold maxQ;omega
def maxT:Nat:=100000000
theorem Ztu:maxT=100000000:=rfl
theorem Znp:maxT≤100000000:=by unfold maxT;omega
theorem Zzc:12≤maxT:=by unfold maxT;omega
theorem stSortT (σ:Mem) (K:Nat) (sv:Value) (L:List (Rat × List Qt)) (hK:σ K=some (.row sv 78 4 (L.map qtA) 0)) (hl:L.length≤maxT) (hq:∀t∈L,t.2.length≤1000000) (hd:Dst L):ACall prog 197 [.own K sv,.fn 198 []] σ λr σ'=>r=.tup []∧σ'=upd σ K (some (.row sv 78 4 ((srtQ ordT L).map qtA) 0)):=stSortN σ K sv L hK (by unfold maxT at hl;omega) hq hd
attribute [go_sem] underlying227 underlying164 underlying225 zSum zMap
attribute [local go_sem] Zaq Zau Zat Zos Zjt Zoh Zou Za5
def mpN:QTs→Nat→List (MKey × AV)
 | [],_=>[]
 | t :: l,n=>(MKey.s (keyS t.2),iv n) :: mpN l (n+1)
abbrev mpE (T:QTs):List (MKey × AV):=mpN T 0
def B8 (T:QTs):Prop:=∀t∈T,∀q∈t.2,q.b8
theorem Zru (s:ByteArray):∀(T:QTs) (n:Nat),Zew (.s s) (mpN T n)=true
 | [],_=>rfl
 | t :: T,n=>by
   show(MKey.like (.s s) (.s (keyS t.2)) && Zew (.s s) (mpN T (n+1)))=true;rw [Zru s T (n+1)];rfl
theorem Zyw (l:QTs) (t:Rat × List Qt):∀n,mpN (l++[t]) n=mpN l n++[(MKey.s (keyS t.2),iv ((n+l.length:Nat)))]:=by
 induction l with
 | nil=>intro n;rfl
 | cons a l ih =>
   intro n;show(MKey.s (keyS a.2),iv n) :: mpN (l++[t]) (n+1)=_;rw [ih];show _=(MKey.s (keyS a.2),iv n) :: (mpN l (n+1)++_);rw [show n+1+l.length=n+(a :: l).length by simp only [ZB5];omega]
theorem Ztq {l m:QTs} (h:l.map (λt=>t.2)=m.map λt=>t.2):∀n,mpN l n=mpN m n:=by
 induction l generalizing m with
 | nil=>intro n;cases m with
   | nil=>rfl
   | cons b m=>simp at h
 | cons a l ih=>intro n;cases m with
   | nil=>simp at h
   | cons b m =>
     simp only [ZCm,List.cons.injEq] at h;show(MKey.s (keyS a.2),iv n) :: mpN l (n+1)=(MKey.s (keyS b.2),iv n) :: mpN m (n+1);rw [h.1,ih h.2]
theorem Zrv:∀{T:QTs} {p:List Qt} {i:Nat} (hi:i < T.length) (n:Nat),B8 T→(∀q∈p,q.b8)→T[i].2=p→(∀j (h:j < T.length),j < i→T[j].2≠p)→Zcf (.s (keyS p)) (mpN T n)=some (iv ((n+i:Nat)))
 | [],p,i,hi,_,_,_,_,_=>by simp at hi
 | t :: T,p,0,hi,n,hb,hp,he,_=>by
   show(if MKey.s (keyS t.2)=MKey.s (keyS p) then _ else _)=_;have he:t.2=p:=he;rw [ZBm (by rw [he])];rfl
 | t :: T,p,i+1,hi,n,hb,hp,he,hn=>by
   show(if MKey.s (keyS t.2)=MKey.s (keyS p) then _ else Zcf (.s (keyS p)) (mpN T (n+1)))=_;have h0:t.2≠p:=hn 0 zs zo;rw [ZBl (λh=>h0 (Zty (hb t (.head _)) hp (by injection h))),Zrv (by simpa using hi) (n+1) (λu hu=>hb u (.tail _ hu)) hp he (λj h hj=>hn (j+1) (by simpa using h) zo)];rw [show n+1+i=n+(i+1) by omega]
theorem Zlh:∀{T:QTs} {p:List Qt} (n:Nat),B8 T→(∀q∈p,q.b8)→(∀j (h:j < T.length),T[j].2≠p)→Zcf (.s (keyS p)) (mpN T n)=none∧∀x,Zco (.s (keyS p)) x (mpN T n)=mpN T n++[(MKey.s (keyS p),x)]
 | [],p,_,_,_,_=>⟨rfl,λ_=>rfl⟩
 | t :: T,p,n,hb,hp,hn=>by
   have h0:t.2≠p:=hn 0 zs;have hk:¬MKey.s (keyS t.2)=MKey.s (keyS p):=λh=>h0 (Zty (hb t (.head _)) hp (by injection h));obtain⟨h1,h2⟩:=Zlh (n+1) (λu hu=>hb u (.tail _ hu)) hp (λj h=>hn (j+1) (by simpa using h));refine⟨?_,λx=>?_⟩
   ·show(if MKey.s (keyS t.2)=MKey.s (keyS p) then _ else Zcf (.s (keyS p)) (mpN T (n+1)))=_;rw [ZBl hk,h1]
   ·show(if MKey.s (keyS t.2)=MKey.s (keyS p) then _ else _ :: Zco (.s (keyS p)) x (mpN T (n+1)))=_;rw [ZBl hk,h2];rfl
theorem ZBb:∀{T:QTs} {t:Rat × List Qt} {i:Nat} (hi:i < T.length),T[i].2=t.2→(∀j (h:j < T.length),j < i→T[j].2≠t.2)→addC T t=T.set i (T[i].1+t.1,T[i].2)
 | [],t,i,hi,_,_=>by simp at hi
 | s :: T,t,0,hi,he,_=>by
   have he:s.2=t.2:=he;show(if s.2=t.2 then _ else _)=_;rw [ZBm he];rfl
 | s :: T,t,i+1,hi,he,hn=>by
   show(if s.2=t.2 then _ else s :: addC T t)=_;have h0:s.2≠t.2:=hn 0 zs zo;rw [ZBl h0,ZBb (i:=i) (by simpa using hi) he (λj h hj=>hn (j+1) (by simpa using h) zo)];rfl
theorem ZBc:∀{T:QTs} {t:Rat × List Qt},(∀j (h:j < T.length),T[j].2≠t.2)→addC T t=T++[t]
 | [],t,_=>rfl
 | s :: T,t,hn=>by
   show(if s.2=t.2 then _ else s :: addC T t)=_;have h0:s.2≠t.2:=hn 0 zs;rw [ZBl h0,ZBc (λj h=>hn (j+1) (by simpa using h))];rfl
theorem Zt9 (T:QTs) (p:List Qt):(∃i,∃h:i < T.length,T[i].2=p∧∀j (h:j < T.length),j < i→T[j].2≠p)∨∀j (h:j < T.length),T[j].2≠p:=by
 induction T with
 | nil=>exact .inr λj h=>by simp at h
 | cons t T ih =>
   by_cases h:t.2=p
   ·exact .inl ⟨0,by simp,h,λj _ hj=>zo⟩
   ·rcases ih with⟨i,hi,h1,h2⟩ | h2
    ·refine .inl ⟨i+1,by simpa using hi,h1,λj hj hji=>?_⟩
     cases j with
     | zero=>exact h
     | succ j=>exact h2 j (by simpa using hj) zo
    ·refine .inr λj hj=>?_
     cases j with
     | zero=>exact h
     | succ j=>exact h2 j (by simpa using hj)
theorem exNew (σ:Mem) (KB KM:Nat) (hne:KM≠KB):ACall prog 117 [] σ λr σ'=>∃g h,r=.pbox KB g 0∧σ'=upd (upd σ KM (some (.map h []))) KB (some (.box g 227 [.mp KM h,.v (.slice none 0 0)] false)):=by
 refine Zsl (args':=[]) func117 rfl ntmps117 results117 call117 zr zs .nil ?_;have hL:∀k,lent σ (k+1000)=σ k:=λk=>by unfold lent;rw [ZBl zo,ZEy]
 generalize lent σ=m0 at *
 (refine wkap w_t w_t (w_r 0) (w_s ?_);intros)
 simp (disch:=omega) only [go_sem];rename_i h g;refine⟨.pbox KB g 0,_,λk=>if k=KB then 3 else if k=KM then 1 else k+1000,Sub.pbox _ _ _ _,⟨g,h,rfl,rfl⟩,λk e hk=>?_,λk k' _ _ he=>?_⟩
 ·by_cases h1:k=KB
  ·subst h1;rw [Zam,ZBm rfl] at hk;injection hk with hk
   subst hk;refine⟨.box g 227 [.mp 1 h,.v (.slice none 0 0)] false,by simp (disch:=omega) only [go_sem,ZBm];rfl,EntSub.box rfl (λx hx=>?_) λj a b ha hb=>?_⟩
   ·simp only [ZE8,List.not_mem_nil,or_false] at hx;rcases hx with rfl | rfl<;>rfl
   ·match j,ha,hb with
    | 0,ha,hb=>simp only [ZEk,Option.some.injEq] at ha hb;subst ha;subst hb;exact Sub.mp _ _ _
    | 1,ha,hb=>simp only [ZFq,ZEk,Option.some.injEq] at ha hb;subst ha;subst hb;exact Sub.refl _
    | j+2,ha,hb=>simp at ha
  ·rw [Zam,ZBl h1] at hk;simp only [ZBl h1];by_cases h2:k=KM
   ·subst h2;rw [Zam,ZBm rfl] at hk;injection hk with hk
    subst hk;simp only [ZCu];exact⟨.map h [],by simp (disch:=omega) only [go_sem,ZBm,ZBl],EntSub.refl _⟩
   ·rw [Zam,ZBl h2] at hk;simp only [ZBl h2];exact⟨e,by rw [←hk,←hL k];simp (disch:=omega) only [go_sem,ZBl],EntSub.refl _⟩
 ·simp only at he;split at he<;>split at he<;>(try split at he)<;>(try split at he)<;>first|omega|(subst_vars;rfl)
theorem exAdd (σ:Mem) (KB KM KT g h:Nat) (sv:Value) (T:QTs) (a:Rat) (p:List Qt) {j k:Nat} (hB:σ KB=some (.box g 227 [.mp KM h,.own KT sv] false)) (hM:σ KM=some (.map h (mpE T))) (hT:σ KT=some (.row sv 78 4 (T.map qtA) 0))
 (n1:KB≠KM) (n2:KB≠KT) (n3:KM≠KT) (hl:T.length≤100000000) (hp:p.length≤1000) (b1:B8 T) (b2:∀q∈p,q.b8) (hs:∀t∈T,Sz t.1 j) (ha:Sz a k) (hj:j≤1000000) (hk:k≤1000000) :
 ACall prog 118 [.pbox KB g 0,ratQ a,qsA p] σ λr σ'=>∃sv',r=.tup []∧σ'=upd (upd (upd σ KM (some (.map h (mpE (addC T (a,p)))))) KT (some (.row sv' 78 4 ((addC T (a,p)).map qtA) 0))) KB (some (.box g 227 [.mp KM h,.own KT sv'] false)):=by
 have mB:=Zax hB;have mM:=Zax hM;have mT:=Zax hT;simp only [Ent.sh,AV.shL,AV.sh] at mB mM mT;have ck:=exKey p hp;have hlT:(T.map qtA).length=T.length:=ZBt ..;have hal:Zew (.s (keyS p)) (mpE T)=true:=Zru _ T 0;rcases Zt9 T p with⟨i,hi,he,hf⟩ | hf
 ·have hget:Zcf (.s (keyS p)) (mpE T)=some (iv i):=by have:=Zrv hi 0 b1 b2 he hf;rwa [ZCb] at this
  have hadd:=ZBb (t:=(a,p)) hi he hf
  have hkeys:mpE (addC T (a,p))=mpE T:=by
   refine Ztq ?_ 0;rw [hadd,List.map_set];show(T.map _).set i T[i].2=_;rw [←ZGa (f:=λt:Rat × List Qt=>t.2) (h:=by rw [ZBt];exact hi)];exact List.set_getElem_self _
  have hgi:(T.map qtA).getD i .u=qtA T[i]:=Zaw qtA hi;have hst:(T.map qtA).set i (qtA (T[i].1+a,T[i].2))=(addC T (a,p)).map qtA:=by rw [hadd,List.map_set]
  have ca:=Zju T[i].1 a (hs _ (ZBy hi)) ha zo zo;rw [hkeys];clear hs ha b1 b2 hf hadd hkeys;generalize T[i]=t at *;obtain⟨t1,t2⟩:=t;simp only at *;refine Zbe func118 rfl ntmps118 results118 call118 zr zs ?_;generalize hRR:(addC T (a,p)).map qtA=R at *;generalize T.map qtA=TA at *;generalize mpE T=es at *
  (refine wkad (w_9 mB mM mT @Zcd @Zcw hget hal hgi hlT) (w_2 ck ca) (w_1 (w_d 4 [(14,ratQ (t1+a))] [17] [])) (w_s ?_);intros)
  simp (disch:=omega) only [go_sem];have e1:upd σ KM (some (.map h es))=σ:=Zd6 hM;have e2:upd (upd σ KT (some (.row sv 78 4 R 0))) KB (some (.box g 227 [.mp KM h,.own KT sv] false))=upd σ KT (some (.row sv 78 4 R 0)):=Zd6 (by rw [Zam,ZBl n2];exact hB);refine Zig (Sub.refl _) ⟨sv,rfl,rfl⟩ ?_;rw [e1,e2];exact((Agr.start σ).own zo).put rfl (by rw [←hst];rfl)
 ·have hget:Zcf (.s (keyS p)) (mpE T)=none:=(Zlh 0 b1 b2 hf).1;have hput:∀x,Zco (.s (keyS p)) x (mpE T)=mpE T++[(MKey.s (keyS p),x)]:=(Zlh 0 b1 b2 hf).2;have hadd:=ZBc (t:=(a,p)) hf;have hmp:mpE (addC T (a,p))=mpE T++[(MKey.s (keyS p),iv T.length)]:=by rw [hadd];show mpN _ 0=_;rw [Zyw,ZCb]
  have hrow:(addC T (a,p)).map qtA=T.map qtA++[.agg [.v (.bool (decide (a.num < 0))),lim (toL a.num.natAbs),lim (toL a.den),.sl 4 (p.map Qt.av)]]:=by rw [hadd,ZCe];rfl
  rw [hmp,hrow];clear hs ha b1 b2 hf hadd hmp hrow;refine Zbe func118 rfl ntmps118 results118 call118 zr zs ?_;generalize T.map qtA=TA at *;generalize mpE T=es at *
  (refine wkax (w_9 mB mM mT @Zcd @Zcw hget hal hput hlT) (w_1 ck) (w_2 (w_d 5 [] [10] []) (w_d 6 [] [9,2009,12] [])) w_t w_t w_t w_y (w_r 0) (w_s ?_);intros)
  simp (disch:=omega) only [go_sem];rename_i x1 x2 x3;refine Zig (Sub.refl _) ⟨x3,rfl,rfl⟩ ?_;refine Agr.put ?_ rfl rfl;refine Agr.put ?_ rfl rfl;refine Agr.own ?_ zo;refine Agr.put ?_ rfl rfl;refine Agr.own ?_ zo;exact Agr.start σ
def nzT (T:QTs):QTs:=T.filter λt=>decide (t.1≠0)
theorem nzT_y {T:QTs} {i:Nat} (h:i < T.length) (h0:T[i].1≠0):nzT (T.take (i+1))=nzT (T.take i)++[T[i]]:=by
 unfold nzT;rw [ZFl,ZBx h,ZEn];show _++List.filter _ [T[i]]=_;rw [ZE0,ZBm (ZBu h0)];rfl
theorem nzT_n {T:QTs} {i:Nat} (h:i < T.length) (h0:T[i].1=0):nzT (T.take (i+1))=nzT (T.take i):=by
 unfold nzT;rw [ZFl,ZBx h,ZEn];show _++List.filter _ [T[i]]=_;rw [ZE0,ZBl (by simp [h0])];simp
theorem Zrm (T:QTs):(nzT T).length≤T.length:=ZF8 _ _
theorem exExpr (σ:Mem) (KB KM KT KP g h:Nat) (sv:Value) (T:QTs) {j n:Nat} (hB:σ KB=some (.box g 227 [.mp KM h,.own KT sv] false)) (hT:σ KT=some (.row sv 78 4 (T.map qtA) 0))
 (hl:T.length≤maxT) (hd:Dst T) (hs:QK T j n) (hj:j≤1000000) (hn:n≤1000000) :
 ACall prog 120 [.pbox KB g 0] σ λr σ'=>∃sv',r=.own KP sv'∧σ'=upd σ KP (some (.row sv' 78 4 ((srtQ ordT (nzT T)).map qtA) 0)):=by
 have hMT:=Znp;have mB:=Zax hB;have mT:=Zax hT;simp only [Ent.sh,AV.shL,AV.sh] at mB mT;have hlT:(T.map qtA).length=T.length:=ZBt ..;have hg:∀i (h:i < T.length),(T.map qtA).getD i .u=qtA T[i]:=λi h=>Zaw qtA h;refine Zhb func120 rfl ntmps120 results120 call120 zr zs ?_;have hL:∀k,Zd9 σ (k+1000)=(σ k).map Ent.sh:=Agr.start σ;have h0:∀k,k < 1000→Zd9 σ k=none:=λk hk=>Zcd hk;generalize Zd9 σ=m0 at *;generalize T.map qtA=A at *
 (refine wkap (w_3 mB mT hlT) w_t (w_r 0) (w_s ?_);intros)
 refine Zff (Frz.nilOwn (d:=3) 22 4 78 (gC)) ?_;refine Zad (ι:=Nat) (λi e m=>i≤T.length∧e 9=.own (KT+1000) sv∧e 10=iv T.length∧e 11=iv i∧m (KT+1000)=some (.row sv 78 4 A 0)∧(∀k,m (k+1000)=m0 (k+1000))∧∃sv,e 3=.own 22 sv∧m 22=some (.row sv 78 4 ((nzT (T.take i)).map qtA) 0)) (λi=>T.length - i) 0 zr ?_ ?_
 ·rintro i e m ⟨hi,e9,e10,e11,mT,hm,sv',e3,m22⟩
  have hol:((nzT (T.take i)).map qtA).length≤100000000:=by rw [ZBt];have:=Zrm (T.take i);rw [ZB9] at this;omega
  by_cases hlt:i < T.length
  ·have hgi:=hg i hlt;have ms:=hs _ (ZBy hlt);have hy:=nzT_y hlt;have hnn:=nzT_n hlt;clear hg hs;generalize T[i]=t at *;have cz:=Zck t.1 ms.1 zo;by_cases hz:t.1=0
   ·have hnz:=hnn hz;clear hnn;have hz2:t.1.num.sign=0:=by rw [Zdb];exact hz
    rw [hz2] at cz;clear hy ms hz2;obtain⟨t1,t2⟩:=t;simp only at *;generalize hO:(nzT (T.take i)).map qtA=O at *;generalize t2.map Qt.av=S2 at *;generalize toL t1.num.natAbs=a at *;generalize toL t1.den=b at *
    (refine wkap (w_8 e9 e10 e11 mT e3 m22 hlT hgi) (w_1 cz) (w_r 0) (w_s ?_);intros)
    exact⟨i+1,⟨zo,gW e9,gW e10,gS,by(simp (disch:=omega) only [go_sem,mT]<;>repeat' first|rfl|refine⟨?_,?_⟩),λk=>by rw [←hm k];try simp (disch:=omega) [Zam,marks,mark],_,gW e3,by rw [hnz,hO];exact gW m22⟩,zo⟩
   ·have hy:=hy hz;have hz2:¬t.1.num.sign=0:=by rw [Zdb];exact hz
    have hmp:(nzT (T.take (i+1))).map qtA=(nzT (T.take i)).map qtA++[qtA t]:=by rw [hy,ZCe];rfl
    clear hnn ms hy;obtain⟨t1,t2⟩:=t;simp only at *;generalize t1.num.sign=z at *;generalize (nzT (T.take i)).map qtA=O at *;have hmp:(nzT (T.take (i+1))).map qtA=O++[.agg [.v (.bool (decide (t1.num < 0))),lim (toL t1.num.natAbs),lim (toL t1.den),.sl 4 (t2.map Qt.av)]]:=hmp;have hgi:A.getD i .u=.agg [.v (.bool (decide (t1.num < 0))),lim (toL t1.num.natAbs),lim (toL t1.den),.sl 4 (t2.map Qt.av)]:=hgi;have cz:Pure prog 18 [.agg [.v (.bool (decide (t1.num < 0))),lim (toL t1.num.natAbs),lim (toL t1.den)]] (iv z):=cz;generalize t2.map Qt.av=S2 at *;generalize toL t1.num.natAbs=a at *;generalize toL t1.den=b at *
    (refine wkap (w_9 e9 e10 e11 mT e3 m22 hlT hgi hz2) (w_1 cz) (w_r 0) (w_s ?_);intros)
    exact⟨i+1,⟨zo,gW e9,gW e10,gS,by(simp (disch:=omega) only [go_sem,mT]<;>repeat' first|rfl|refine⟨?_,?_⟩),λk=>by rw [←hm k];try simp (disch:=omega) [Zam,marks,mark],_,gC,by rw [hmp];exact gC⟩,zo⟩
  ·have hil:i=T.length:=zo;subst hil;rw [ZC8] at m22 hol;rw [ZBt] at hol;have hmem:∀t,t∈nzT T→t∈T:=λt ht=>(List.mem_filter.1 ht).1;have ci:=fun(m:Mem) h=>stSortT m 22 sv' (nzT T) h (by have:=Zrm T;omega) (λt ht=>by have:=(hs t (hmem t ht)).2;omega) (hd.sublist List.filter_sublist);clear hg hs
   (refine wkap (w_7 e9 e10 e11 mT e3 m22 hlT) w_t (w_r 0) (w_s ?_);intros)
   refine Zgx (ci _ (gW m22)) ?_
   (refine wkap (w_1 e3) w_t (w_r 0) (w_s ?_);intros)
   simp (disch:=omega) only [go_sem];refine Zi5 (σ:=σ) (r:=.own KP sv') 22 KP zo (Sub.own _ _ _) ⟨sv',rfl,rfl⟩ ?_ ?_
   ·simp only [Zam,ZBm]
   ·intro k hk _;rw [Zam,ZBl zo,hm k,hL k,Zam,ZBl hk]
 ·exact⟨ZBw _,gC,gC,gC,by(simp (disch:=omega) only [go_sem,mT]<;>repeat' first|rfl|refine⟨?_,?_⟩),λk=>by try simp (disch:=omega) [Zam,marks,mark],_,gC,gC⟩
theorem exAddO (σ:Mem) (KB KM KT KP g h:Nat) (sv svP:Value) (T:QTs) (a:Rat) (p:List Qt) {j k:Nat} (hB:σ KB=some (.box g 227 [.mp KM h,.own KT sv] false)) (hM:σ KM=some (.map h (mpE T))) (hT:σ KT=some (.row sv 78 4 (T.map qtA) 0)) (hP:σ KP=some (.row svP 91 4 (p.map Qt.av) 0)) (n4:KP≠KB) (n5:KP≠KM) (n6:KP≠KT)
 (n1:KB≠KM) (n2:KB≠KT) (n3:KM≠KT) (hl:T.length≤100000000) (hp:p.length≤1000) (b1:B8 T) (b2:∀q∈p,q.b8) (hs:∀t∈T,Sz t.1 j) (ha:Sz a k) (hj:j≤1000000) (hk:k≤1000000) :
 ACall prog 118 [.pbox KB g 0,ratQ a,.own KP svP] σ λr σ'=>∃sv' eP,r=.tup []∧σ'=upd (upd (upd (upd σ KP eP) KM (some (.map h (mpE (addC T (a,p)))))) KT (some (.row sv' 78 4 ((addC T (a,p)).map qtA) 0))) KB (some (.box g 227 [.mp KM h,.own KT sv'] false)):=by
 have mB:=Zax hB;have mM:=Zax hM;have mT:=Zax hT;have mP:=Zax hP;simp only [Ent.sh,AV.shL,AV.sh] at mB mM mT mP;have ck:=exKey p hp;have ck:Pure prog 195 [.sl 4 (p.map Qt.av)] (strA (keyS p)):=ck;have hlT:(T.map qtA).length=T.length:=ZBt ..;have hal:Zew (.s (keyS p)) (mpE T)=true:=Zru _ T 0;rcases Zt9 T p with⟨i,hi,he,hf⟩ | hf
 ·have hget:Zcf (.s (keyS p)) (mpE T)=some (iv i):=by have:=Zrv hi 0 b1 b2 he hf;rwa [ZCb] at this
  have hadd:=ZBb (t:=(a,p)) hi he hf
  have hkeys:mpE (addC T (a,p))=mpE T:=by
   refine Ztq ?_ 0;rw [hadd,List.map_set];show(T.map _).set i T[i].2=_;rw [←ZGa (f:=λt:Rat × List Qt=>t.2) (h:=by rw [ZBt];exact hi)];exact List.set_getElem_self _
  have hgi:(T.map qtA).getD i .u=qtA T[i]:=Zaw qtA hi;have hst:(T.map qtA).set i (qtA (T[i].1+a,T[i].2))=(addC T (a,p)).map qtA:=by rw [hadd,List.map_set]
  have ca:=Zju T[i].1 a (hs _ (ZBy hi)) ha zo zo;rw [hkeys];clear hs ha b1 b2 hf hadd hkeys;generalize T[i]=t at *;obtain⟨t1,t2⟩:=t;simp only at *;refine Zbe func118 rfl ntmps118 results118 call118 zr zs ?_;generalize hRR:(addC T (a,p)).map qtA=R at *;generalize T.map qtA=TA at *;generalize mpE T=es at *;generalize hPA:p.map Qt.av=PA at *
  (repeat' (first|(with_reducible first|refine stp ?_|apply gx1|apply gx2|apply gx3|apply gx4|apply gx5|apply gx6|apply gx7|apply gy8|apply gz2|apply gz3|apply gw2 (ck)|refine gw0 (ca) ?_ ?_|refine gw3 (ca) ?_ ?_ ?_)|(with_reducible refine Zcl ?_;intro _)|((with_reducible refine gE ?_);(try simp (disch:=omega) only [go_sem,mB,mM,mT,mP,Zcd,Zcw,hget,hal,hgi,hlT,ZBu,ZBv,ZBm,ZBl,Int.reduceAdd,Int.reduceSub,Int.reduceToNat,ZB3])<;>first|rfl|omega)|with_reducible refine Zaj zd ?_|((with_reducible apply gy1);iterate 3 focus rfl)|((with_reducible apply gy2);iterate 3 focus rfl)|((with_reducible apply gy3);iterate 2 focus rfl)|((with_reducible apply gy4);iterate 1 focus rfl)|((with_reducible apply gy5);iterate 4 focus rfl)|((with_reducible apply gy5c);iterate 4 focus rfl)|((with_reducible apply gy6);iterate 4 focus rfl)|((with_reducible apply Zj8);iterate 3 focus rfl)|((with_reducible apply Zj7);iterate 1 focus rfl)|((with_reducible apply gy7);iterate 1 focus rfl)|((with_reducible apply gy9);(focus ((with_reducible refine gE ?_);(try simp (disch:=omega) only [go_sem,mB,mM,mT,mP,Zcd,Zcw,hget,hal,hgi,hlT,ZBu,ZBv,ZBm,ZBl,Int.reduceAdd,Int.reduceSub,Int.reduceToNat,ZB3])<;>rfl)))|((with_reducible apply gz1);(focus first|rfl|(simp (disch:=omega) only [go_sem,mB,mM,mT,mP,Zcd,Zcw,hget,hal,hgi,hlT,ZBu,ZBv,ZBm,ZBl,Int.reduceAdd,Int.reduceSub,Int.reduceToNat,ZB3];done)))|((with_reducible apply Zc8 (id:=4) (Zga [(14,ratQ (t1+a))]) [17] []);(focus kernel_rfl);(focus rfl);(focus kernel_rfl);(focus (simp only [ZB5,ZCf,Nat.reduceAdd];rfl)))|((with_reducible first|apply Zek|apply Zi3|apply Zel);all_goals (intro hc;(try simp only [bool_to_prop] at hc);try (exfalso;omega)))))
  simp (disch:=omega) only [go_sem];have e1:upd σ KM (some (.map h es))=σ:=Zd6 hM;have e2:upd (upd σ KT (some (.row sv 78 4 R 0))) KB (some (.box g 227 [.mp KM h,.own KT sv] false))=upd σ KT (some (.row sv 78 4 R 0)):=Zd6 (by rw [Zam,ZBl n2];exact hB);refine Zig (Sub.refl _) ⟨sv,some (.row svP 91 4 PA 0),rfl,rfl⟩ ?_;have e0:upd σ KP (some (.row svP 91 4 PA 0))=σ:=Zd6 hP;rw [e0,e1,e2];exact((Agr.start σ).own zo).put rfl (by rw [←hst];rfl)
 ·have hget:Zcf (.s (keyS p)) (mpE T)=none:=(Zlh 0 b1 b2 hf).1;have hput:∀x,Zco (.s (keyS p)) x (mpE T)=mpE T++[(MKey.s (keyS p),x)]:=(Zlh 0 b1 b2 hf).2;have hadd:=ZBc (t:=(a,p)) hf;have hmp:mpE (addC T (a,p))=mpE T++[(MKey.s (keyS p),iv T.length)]:=by rw [hadd];show mpN _ 0=_;rw [Zyw,ZCb]
  have hrow:(addC T (a,p)).map qtA=T.map qtA++[.agg [.v (.bool (decide (a.num < 0))),lim (toL a.num.natAbs),lim (toL a.den),.sl 4 (p.map Qt.av)]]:=by rw [hadd,ZCe];rfl
  rw [hmp,hrow];clear hs ha b1 b2 hf hadd hmp hrow;refine Zbe func118 rfl ntmps118 results118 call118 zr zs ?_;generalize T.map qtA=TA at *;generalize mpE T=es at *;generalize hPA:p.map Qt.av=PA at *
  (repeat' (first|(with_reducible first|refine stp ?_|apply gx1|apply gx2|apply gx3|apply gx4|apply gx5|apply gx6|apply gx7|apply gy8|apply gz2|apply gz3|apply gw2 (ck))|(with_reducible refine Zcl ?_;intro _)|((with_reducible refine gE ?_);(try simp (disch:=omega) only [go_sem,mB,mM,mT,mP,Zcd,Zcw,hget,hal,hput,hlT,ZBu,ZBv,ZBm,ZBl,Int.reduceAdd,Int.reduceSub,Int.reduceToNat,ZB3])<;>first|rfl|omega)|with_reducible refine Zaj zd ?_|((with_reducible apply gy1);iterate 3 focus rfl)|((with_reducible apply gy2);iterate 3 focus rfl)|((with_reducible apply gy3);iterate 2 focus rfl)|((with_reducible apply gy4);iterate 1 focus rfl)|((with_reducible apply gy5);iterate 4 focus rfl)|((with_reducible apply gy5c);iterate 4 focus rfl)|((with_reducible apply gy6);iterate 4 focus rfl)|((with_reducible apply Zj8);iterate 3 focus rfl)|((with_reducible apply Zj7);iterate 1 focus rfl)|((with_reducible apply gy7);iterate 1 focus rfl)|((with_reducible apply gy9);(focus ((with_reducible refine gE ?_);(try simp (disch:=omega) only [go_sem,mB,mM,mT,mP,Zcd,Zcw,hget,hal,hput,hlT,ZBu,ZBv,ZBm,ZBl,Int.reduceAdd,Int.reduceSub,Int.reduceToNat,ZB3])<;>rfl)))|((with_reducible apply gz1);(focus first|rfl|(simp (disch:=omega) only [go_sem,mB,mM,mT,mP,Zcd,Zcw,hget,hal,hput,hlT,ZBu,ZBv,ZBm,ZBl,Int.reduceAdd,Int.reduceSub,Int.reduceToNat,ZB3];done)))|((with_reducible apply Zc8 (id:=4) (Zga []) [] []);(focus kernel_rfl);(focus rfl);(focus kernel_rfl);(focus (simp only [ZB5,ZCf,Nat.reduceAdd];rfl)))|((with_reducible first|apply Zek|apply Zi3|apply Zel);all_goals (intro hc;(try simp only [bool_to_prop] at hc);try (exfalso;omega)))))
  refine r_frzD (Frz.own (d:=2) (k:=KP+1000) (sv:=svP) (ty:=91) (mm:=4) (es:=PA) (pub:=0) (gC) (by(simp (disch:=omega) only [go_sem,mP]<;>repeat' first|rfl|refine⟨?_,?_⟩))) ?_
  (refine wkax (w_10 mB mM mT mP @Zcd @Zcw hget hal hput hlT) w_t (w_2 (w_d 5 [] [10] []) (w_d 6 [] [9,2009,12] [])) w_t w_t w_t w_y (w_r 0) (w_s ?_);intros)
  simp (disch:=omega) only [go_sem];rename_i x1 x2 x3;refine Zig (Sub.refl _) ⟨x3,some (.row svP 91 4 PA PA.length),rfl,rfl⟩ ?_;refine Agr.put ?_ rfl rfl;refine Agr.put ?_ rfl rfl;refine Agr.own ?_ zo;refine Agr.put ?_ rfl rfl;rw [mP];refine Agr.put ?_ rfl rfl;refine Agr.own ?_ zo;exact Agr.start σ
def nsP (l:List Qt):List Qt:=l.map λq=>q.norm.1
abbrev accS (L:QTs):QTs:=L.foldl addC []
theorem sgP_ne {l:List Qt} (h:sgP l≠0):∀q∈l,q.norm.2≠0:=by
 have key:∀(l:List Qt) (s:Int),l.foldl (λs q=>s*q.norm.2) s≠0→s≠0∧∀q∈l,q.norm.2≠0:=by
  intro l
  induction l with
  | nil=>intro s h;exact⟨h,λq hq=>by cases hq⟩
  | cons a l ih =>
    intro s h;obtain⟨h1,h2⟩:=ih _ h;have ha:a.norm.2≠0:=λe=>h1 (by show s*a.norm.2=0;rw [e,Int.mul_zero]);have hs:s≠0:=λe=>h1 (by show s*a.norm.2=0;rw [e,Int.zero_mul]);exact⟨hs,λq hq=>by rcases List.mem_cons.1 hq with rfl | hq;exact ha;exact h2 q hq⟩
 exact(key l 1 h).2
theorem Zw8 {l:List Qt} (h:sgP l≠0):srtQ Qt.cmp (nsP l)=putP l:=by
 unfold putP;rw [Zp0 qtO];congr 1;unfold nzP nsP;rw [List.filter_eq_self.2 λq hq=>ZBu (sgP_ne h q hq)]
theorem norm_b8 {q:Qt} (h:q.ok=true):q.norm.1.b8:=by
 have hb:=ok_b8 h;unfold Qt.b8 at hb;unfold Qt.norm Zfh Zgz;rw [ZBm h]
 repeat' split
 all_goals (unfold Qt.b8;simp only;omega)
theorem Zx1 {l:List Qt} (h:l.all Qt.ok=true):∀q∈putP l,q.b8:=by
 intro q hq;unfold putP at hq;have:=(Zfi (cmp:=Qt.cmp) (nzP l) []).mem_iff.1 hq;rw [ZC6] at this;unfold nzP at this;obtain⟨x,hx,rfl⟩:=List.mem_map.1 this;exact norm_b8 (List.all_eq_true.1 h x (List.mem_filter.1 hx).1)
theorem Zlz (L:QTs) (t:Rat × List Qt):accS (L++[t])=addC (accS L) t:=by unfold accS;rw [ZFy];rfl
theorem Zux (l:QTs) (t:Rat × List Qt):(addC l t).length≤l.length+1:=by
 induction l with
 | nil=>exact ZBn _
 | cons s l ih=>unfold addC;split<;>simp only [ZB5]<;>omega
theorem Zoe {l:QTs} {t u:Rat × List Qt} (h:u∈addC l t):u∈l∨u=t∨∃s∈l,u=(s.1+t.1,s.2):=by
 induction l with
 | nil=>exact .inr (.inl (List.mem_singleton.1 h))
 | cons s l ih =>
   unfold addC at h;split at h
   ·rcases List.mem_cons.1 h with rfl | h
    ·exact .inr (.inr ⟨s,.head _,rfl⟩)
    ·exact .inl (.tail _ h)
   ·rcases List.mem_cons.1 h with rfl | h
    ·exact .inl (.head _)
    ·rcases ih h with h | h | ⟨v,hv,e⟩
     ·exact .inl (.tail _ h)
     ·exact .inr (.inl h)
     ·exact .inr (.inr ⟨v,.tail _ hv,e⟩)
structure AccOk (S:QTs) (i j n:Nat):Prop where
 len:S.length≤i
 b8:B8 S
 qk:QK S (i*(j+2)) n
theorem AccOk.nil (j n:Nat):AccOk [] 0 j n:=⟨ZBn _,λt ht=>by(cases ht),λt ht=>by(cases ht)⟩
theorem AccOk.mono {S:QTs} {i k j n:Nat} (h:AccOk S i j n) (hk:i≤k):AccOk S k j n:=⟨ZBs h.len hk,h.b8,h.qk.mono (ZB4 _ hk) (ZBn _)⟩
theorem AccOk.add {S:QTs} {i j n:Nat} (h:AccOk S i j n) {t:Rat × List Qt} (h1:Sz t.1 j) (h2:t.2.length≤n) (h3:∀q∈t.2,q.b8):AccOk (addC S t) (i+1) j n:=by
 have e:(i+1)*(j+2)=i*(j+2)+(j+2):=ZDh _ _;refine⟨ZBs (Zux S t) (by have:=h.len;omega),λu hu=>?_,λu hu=>?_⟩
 ·rcases Zoe hu with hu | rfl | ⟨s,hs,rfl⟩
  ·exact h.b8 u hu
  ·exact h3
  ·exact h.b8 s hs
 ·rcases Zoe hu with hu | rfl | ⟨s,hs,rfl⟩
  ·exact⟨(h.qk u hu).1.mono zo,(h.qk u hu).2⟩
  ·exact⟨h1.mono zo,h2⟩
  ·exact⟨((h.qk s hs).1.add h1).mono zo,(h.qk s hs).2⟩
theorem acc_fin (L:QTs):srtQ ordT (nzT (accS (nzT L)))=gatM L:=by
 have h1:srtQ ordT (nzT (accS (nzT L)))=Go.Pol.sumC ordQ (nzT L):=rfl;rw [h1,Zm7 Zbh];refine Zja Zbh.ko (Zm5 Zbh _) (Zm5 Zbh _) λx=>?_;rw [Zm6 Zbh,Zm6 Zbh];exact Zmw L x
theorem Zmh {z:Int} (h:z=-1∨z=0∨z=1):Pure prog 27 [iv z] (ratQ (z:Rat)):=by
 rcases h with rfl | rfl | rfl
 ·exact ratOfM
 ·exact Zk6 0 zo
 ·exact Zk6 1 zo
theorem Zua (l:List RE) {J JA nQ:Nat} (hl:l.length≤1000000) (hr:∀t∈l,t.r.lm J) (hq:∀t∈l,t.q.length≤nQ) (hnQ:nQ≤maxQ) (hJ:J≤900000) (hJA:JA≤1000000)
 (hA:∀i,i≤l.length→(l.take i).all RE.ok=true→QK (accS (nzT ((l.take i).map RE.t))) JA nQ∧B8 (accS (nzT ((l.take i).map RE.t)))∧(accS (nzT ((l.take i).map RE.t))).length≤maxT):Pure prog 100 [.sl 4 (l.map RE.av)] (nrmR l):=by
 have hMq0:=Zjd;have hMT:=Znp;have hlm:(l.map RE.av).length=l.length:=ZBt ..;have hg:∀i (h:i < l.length),(l.map RE.av).getD i .u=RE.av l[i]:=λi h=>Zaw RE.av h;generalize l.map RE.av=A at *;refine pI func100 rfl ntmps100 results100 call100 ?_
 (refine wkad w_t w_t w_t (w_s ?_);intros)
 refine Zdo (exNew _ 200 201 zo) ?_
 rintro _ _ ⟨g,h,rfl,rfl⟩
 (refine wkad (w_1 hlm) w_t w_t (w_s ?_);intros)
 refine Zff (Frz.nilBox (k:=200) 1 202 4 78 (gC) rfl zo) ?_;refine Zad (ι:=Nat) (λi e m=>i≤l.length∧(l.take i).all RE.ok=true∧e 3=.pbox 200 g 0∧m 201=some (.map h (mpE (accS (nzT ((l.take i).map RE.t)))))∧(∃sv,m 200=some (.box g 227 [.mp 201 h,.own 202 sv] false)∧m 202=some (.row sv 78 4 ((accS (nzT ((l.take i).map RE.t))).map qtA) 0))∧e 13=.sl 4 A∧e 14=iv l.length∧e 15=iv i) (λi=>l.length - i) 0 zr ?_ ?_
 ·rintro i e m ⟨hi,ha,e3,m201,⟨sv,m200,m202⟩,e13,e14,e15⟩
  have hacc:=hA i hi ha;by_cases hlt:i < l.length
  ·have hgi:=hg i hlt;have hri:=hr _ (ZBy hlt);have hqi:=hq _ (ZBy hlt);have hta:(l.take (i+1)).map RE.t=(l.take i).map RE.t++[l[i].t]:=by rw [ZFl,ZBx hlt,ZCe];rfl
   have hok:=Zqg (p:=RE.ok) hlt ha;have hbr:RE.ok l[i]=false→nrmR l=.v (.slice none 0 0):=λh=>by unfold nrmR;rw [Zuv (p:=RE.ok) hlt h];rfl
   have hny:(l[i].t).1≠0→accS (nzT ((l.take (i+1)).map RE.t))=addC (accS (nzT ((l.take i).map RE.t))) l[i].t:=λh=>by
    rw [hta];unfold nzT;rw [ZEn];rw [show List.filter (λt:Rat × List Qt=>decide (t.1≠0)) [l[i].t]=[l[i].t] from by rw [ZE0,ZBm (ZBu h)];rfl];exact Zlz _ _
   have hnn:(l[i].t).1=0→accS (nzT ((l.take (i+1)).map RE.t))=accS (nzT ((l.take i).map RE.t)):=λh=>by
    rw [hta];unfold nzT;rw [ZEn];rw [show List.filter (λt:Rat × List Qt=>decide (t.1≠0)) [l[i].t]=[] from by rw [ZE0,ZBl (by simp [h])];rfl,ZC6]
   clear hg hr hq ha hta;generalize l[i]=t at *;generalize hNR:nrmR l=NR at *;generalize accS (nzT ((l.take i).map RE.t))=S at *;obtain⟨r,q⟩:=t;simp only at hri hqi;have hgi:A.getD i .u=.agg [.v (.bool r.s),lim r.l,lim r.d,.sl 4 (q.map Qt.av)]:=hgi;have crq:=Zq6 r ⟨hri.1,hri.2.1,by have:=hri.2.2.1;omega,by have:=hri.2.2.2;omega⟩;have crq:Pure prog 62 [.agg [.v (.bool r.s),lim r.l,lim r.d]] (.v (.bool r.ok)):=crq
   cases hro:r.ok with
   | false =>
     rw [hro] at crq;rw [hbr (by unfold RE.ok;rw [hro];rfl)];clear hbr hok hny hnn hacc;obtain⟨s,x,d⟩:=r;simp only at *;generalize q.map Qt.av=Q at *
     (refine wkad (w_9 e3 m200 m201 m202 e13 e14 e15 hlm hgi) (w_1 crq) w_t (w_s ?_);intros)
     all_goals exact gL
   | true =>
     rw [hro] at crq;have hz:=(RQ.ok_av hri hro).2;have hre:=RQ.ok_eq hri hro;have hqm:(q.map Qt.av).length=q.length:=ZBt ..;have hgq:∀k (h:k < q.length),(q.map Qt.av).getD k .u=Qt.av q[k]:=λk h=>Zaw Qt.av h;have hbq:∀k (h:k < q.length),Qt.ok q[k]=false→NR=.v (.slice none 0 0):=λk h h2=>hbr (by unfold RE.ok;rw [Zuv (p:=Qt.ok) h h2,ZGm]);have hqk:q.all Qt.ok=true→RE.ok ⟨r,q⟩=true:=λh=>by unfold RE.ok;rw [hro,h];rfl
     have het1:(RE.t ⟨r,q⟩).1=r.q*(sgP q:Rat):=rfl;have het:RE.t ⟨r,q⟩=(r.q*(sgP q:Rat),putP q):=rfl;rw [het] at hny;rw [het1] at hnn;clear het het1 hbr;generalize hx:r.q=x at *;subst hre;clear hro;simp only at *;generalize hQ:q.map Qt.av=Q at *
     (refine wkad (w_10 e3 m200 m201 m202 e13 e14 e15 hlm hgi hqm) (w_1 crq) w_t (w_s ?_);intros)
     rename_i g5 g6 s28;clear crq;have hw0:x*((sgP (q.take 0):Int):Rat)=x:=by show x*((1:Int):Rat)=x;exact ZE1 x
     refine Zad (ι:=Nat) (λk e m=>k≤q.length∧(q.take k).all Qt.ok=true∧(e 3=.pbox 200 g 0∧m 201=some (.map h (mpE S))∧m 200=some (.box g 227 [.mp 201 h,.own 202 sv] false)∧m 202=some (.row sv 78 4 (S.map qtA) 0))∧(e 13=.sl 4 A∧e 14=iv l.length∧e 15=iv i)∧(e 30=.sl 4 Q∧e 31=iv q.length∧e 32=iv k)∧(e 6=.pbox 6 g6 0∧m 6=some (.box g6 28 [.v (.bool (decide ((x*((sgP (q.take k):Int):Rat)).num < 0))),lim (toL (x*((sgP (q.take k):Int):Rat)).num.natAbs),lim (toL (x*((sgP (q.take k):Int):Rat)).den)] false))∧∃sv,e 7=.own 28 sv∧m 28=some (.row sv 91 4 ((nsP (q.take k)).map Qt.av) 0)) (λk=>q.length - k) 0 zr ?_ ?_
     ·rintro k e m ⟨hk,hak,⟨e3,m201,m200,m202⟩,⟨e13,e14,e15⟩,⟨e30,e31,e32⟩,⟨e6,m6⟩,s7,e7,m28⟩
      have hwz:Sz (x*((sgP (q.take k):Int):Rat)) (J+1):=hz.mul (Zox (sgP_sg _));have hnl:((nsP (q.take k)).map Qt.av).length=k:=by unfold nsP;rw [ZBt,ZBt,ZB9];omega
      by_cases hkt:k < q.length
      ·have hgk:=hgq k hkt;have hok2:=Zqg (p:=Qt.ok) hkt hak;have hbk:=hbq k hkt;have htk:q.take (k+1)=q.take k++[q[k]]:=by rw [ZFl,ZBx hkt];rfl
       have s1:x*((sgP (q.take (k+1)):Int):Rat)=x*((sgP (q.take k):Int):Rat)*(q[k].norm.2:Rat):=by rw [htk,sgP_snoc,Rat.intCast_mul,Rat.mul_assoc]
       have s2:(nsP (q.take (k+1))).map Qt.av=(nsP (q.take k)).map Qt.av++[Qt.av q[k].norm.1]:=by rw [htk];unfold nsP;rw [ZCe,ZCe];rfl
       have hns:=Zh6 q[k];have c1:=Zk8 q[k].k q[k].a q[k].b q[k].c;have c2:=Zxy q[k].k q[k].a q[k].b q[k].c;have c3:=Zmh hns;have c4:=Zfo _ _ hwz (Zox hns) zo zo;have c4:Pure prog 51 [.agg [.v (.bool (decide ((x*((sgP (q.take k):Int):Rat)).num < 0))),lim (toL (x*((sgP (q.take k):Int):Rat)).num.natAbs),lim (toL (x*((sgP (q.take k):Int):Rat)).den)],ratQ (q[k].norm.2:Rat)] (ratQ (x*((sgP (q.take k):Int):Rat)*(q[k].norm.2:Rat))):=c4;rw [←s1] at c4;clear hgq hbq hqk hny hnn hok htk hak s1 hwz;generalize q[k]=y at *;generalize hW1:x*((sgP (q.take (k+1)):Int):Rat)=w1 at *;generalize x*((sgP (q.take k):Int):Rat)=w0 at *
       generalize (nsP (q.take k)).map Qt.av=PR at *;generalize toL w0.num.natAbs=wn at *;generalize toL w0.den=wd at *;generalize decide (w0.num < 0)=ws at *;generalize S.map qtA=SA at *;generalize mpE S=SM at *;generalize hn1:y.norm.1=nn at *;generalize hn2:y.norm.2=ns at *;obtain⟨y1,y2,y3,y4⟩:=y;simp only at *
       cases hyo:Qt.ok ⟨y1,y2,y3,y4⟩with
       | false =>
         rw [hyo] at c1;rw [hbk hyo];clear s2 c2 c3 c4 hok2 hbk
         (refine wkad (w_16 e3 m200 m201 m202 e13 e14 e15 e30 e31 e32 e6 m6 e7 m28 hqm hgk) (w_1 c1) w_t (w_s ?_);intros)
         all_goals exact gL
       | true =>
         rw [hyo] at c1;have hok3:=hok2 hyo;clear hbk hok2;obtain⟨n1,n2,n3,n4⟩:=nn
         (refine wkad (w_17 e3 m200 m201 m202 e13 e14 e15 e30 e31 e32 e6 m6 e7 m28 hqm hgk hnl) (w_4 c1 c2 c3 c4) (w_1 (w_d 15 [(2,ratQ (ns:Rat)),(3,ratQ w1)] [4] [])) (w_s ?_);intros)
         exact⟨k+1,⟨zo,hok3,⟨gW e3,gW m201,gW m200,gW m202⟩,⟨gW e13,gW e14,gW e15⟩,⟨gW e30,gW e31,gS⟩,⟨gW e6,by rw [hW1];exact gC⟩,_,gC,by rw [s2];exact gC⟩,zo⟩
      ·have hkl:k=q.length:=zo;subst hkl;rw [ZC8] at hak m6 m28 hwz;have hok3:=hok (hqk hak);clear hgq hbq hqk hok;have cz:=Zck _ hwz zo;generalize hW:x*((sgP q:Int):Rat)=w at *;have cz:Pure prog 18 [.agg [.v (.bool (decide (w.num < 0))),lim (toL w.num.natAbs),lim (toL w.den)]] (iv w.num.sign):=cz;by_cases hw:w=0
       ·have hnn:=hnn hw;have hz2:w.num.sign=0:=by rw [Zdb];exact hw
        rw [hz2] at cz;clear hny hz2;rw [←hnn] at m201 m202;generalize toL w.num.natAbs=wn at *;generalize toL w.den=wd at *;generalize decide (w.num < 0)=ws at *
        (refine wkad (w_15 e3 m200 m201 m202 e13 e14 e15 e30 e31 e32 e6 m6 e7 m28 hqm) (w_1 cz) w_t (w_s ?_);intros)
        exact⟨i+1,⟨zo,hok3,gW e3,gW m201,⟨sv,gW m200,gW m202⟩,gW e13,gW e14,gS⟩,zo⟩
       ·have hny:=hny hw;have hz2:¬w.num.sign=0:=by rw [Zdb];exact hw
        have hsg:sgP q≠0:=λe=>hw (by rw [←hW,e];exact ZFn x);have hsr:=Zw8 hsg;have hpl:=Ztc q;have hbb:=Zx1 hak;have hSl:=hacc.2.2;have hSq:=λt ht=>(hacc.1 t ht).1;have hSb:=hacc.2.1;have hMq:=Zjd;have ci:=fun(m:Mem) h=>qSort m 28 s7 (nsP q) h (by unfold nsP;rw [ZBt];exact(show q.length≤maxQ by omega));rw [hsr] at ci;clear hnn hsg hak hacc;have cad:=fun(m:Mem) a b c d=>exAddO m 200 201 202 28 g h sv s7 S w (putP q) a b c d zo zo zo zo zo zo zo zo hSb hbb hSq hwz zo zo;rw [←hny] at cad;have cad:∀(m:Mem),m 200=some (.box g 227 [.mp 201 h,.own 202 sv] false)→m 201=some (.map h (mpE S))→m 202=some (.row sv 78 4 (S.map qtA) 0)→m 28=some (.row s7 91 4 ((putP q).map Qt.av) 0)→ACall prog 118 [.pbox 200 g 0,.agg [.v (.bool (decide (w.num < 0))),lim (toL w.num.natAbs),lim (toL w.den)],.own 28 s7] m _:=cad
        generalize w.num.sign=z at *;generalize toL w.num.natAbs=wn at *;generalize toL w.den=wd at *;generalize decide (w.num < 0)=ws at *
        (refine wkad (w_16 e3 m200 m201 m202 e13 e14 e15 e30 e31 e32 e6 m6 e7 m28 hqm hz2) (w_1 cz) w_t (w_s ?_);intros)
        refine Zgx (ci _ (gW m28)) ?_
        (refine wkad (w_11 e3 m200 m201 m202 e13 e14 e15 e6 m6 e7 hqm) w_t w_t (w_s ?_);intros)
        refine Zdo (cad _ (gW m200) (gW m201) (gW m202) (gC)) ?_
        rintro _ _ ⟨sv2,eP,rfl,rfl⟩
        (refine wkad (w_4 e3 e13 e14 e15) w_t w_t (w_s ?_);intros)
        exact⟨i+1,⟨zo,hok3,gW e3,gC,⟨sv2,gC,gC⟩,gW e13,gW e14,gS⟩,zo⟩
     ·exact⟨ZBw _,rfl,⟨gW e3,gW m201,gW m200,gW m202⟩,⟨gW e13,gW e14,gW e15⟩,⟨gC,gW hqm,gC⟩,⟨gC,by rw [hw0];exact gC⟩,_,gC,gC⟩
  ·have hil:i=l.length:=zo;subst hil;have hacc:=hA l.length (ZBn _) ha;rw [ZC8] at ha hacc m201 m202;have hfin:nrmR l=.sl 4 ((srtQ ordT (nzT (accS (nzT (l.map RE.t))))).map qtA):=by unfold nrmR;rw [ZBm ha,acc_fin]
   have hlen:=hacc.2.2;have hMq:=Zjd;have ce:=fun(m:Mem) a b=>exExpr m 200 201 202 300 g h sv (accS (nzT (l.map RE.t))) a b zo (Zfj _ [] .nil) hacc.1 zo zo;rw [hfin];clear hg hr hq ha hacc hfin;generalize accS (nzT (l.map RE.t))=S at *;generalize (srtQ ordT (nzT S)).map qtA=R at *
   (refine wkad (w_8 e3 m200 m201 m202 e13 e14 e15 hlm) w_t w_t (w_s ?_);intros)
   refine Zgy (ce _ (gW m200) (gW m202)) ?_;intro sv3
   (refine wkad w_t w_t w_t (w_s ?_);intros)
   all_goals exact gL
 ·refine⟨ZBw _,rfl,gC,gC,⟨_,gC,gC⟩,gC,gW hlm,gC⟩
theorem ZBe (l:List RE) {J:Nat} (hr:∀t∈l,t.r.lm J) (hq:∀t∈l,t.q.length≤12):∀i,i≤l.length→(l.take i).all RE.ok=true→AccOk (accS (nzT ((l.take i).map RE.t))) i (J+1) 12
 | 0,_,_=>AccOk.nil _ _
 | i+1,hi,ha=>by
   have hlt:i < l.length:=hi;have hta:l.take (i+1)=l.take i++[l[i]]:=by rw [ZD1 hlt]
   rw [hta,List.all_append,ZCd] at ha;have ih:=ZBe l hr hq i zo ha.1;have hok:RE.ok l[i]=true:=by have:=ha.2;simpa using this
   have hri:=hr _ (ZBy hlt);have hqi:=hq _ (ZBy hlt);rw [hta,ZCe];unfold nzT at *;rw [ZEn];unfold RE.ok at hok;rw [ZCd] at hok;by_cases h0:(RE.t l[i]).1=0
   ·rw [ZCm,ZDl,ZE3 (by simpa using h0),List.filter_nil,ZC6];exact ih.mono zo
   ·rw [ZCm,ZDl,ZE4 (by simpa using h0),List.filter_nil,Zlz];exact ih.add (((RQ.ok_av hri hok.1).2).mul (Zox (sgP_sg _))) (ZBs (Ztc _) hqi) (Zx1 hok.2)
theorem exNorm (l:List RE) {J:Nat} (hl:l.length≤12) (hr:∀t∈l,t.r.lm J) (hq:∀t∈l,t.q.length≤12) (hJ:J≤1000):Pure prog 100 [.sl 4 (l.map RE.av)] (nrmR l) :=
 Zua l (J:=J) (JA:=12*(J+1+2)) (nQ:=12) zo hr hq Zzd zo zo λi hi ha=>by
  have h:=ZBe l hr hq i hi ha;have h2:i*(J+1+2)≤12*(J+1+2):=ZB4 _ zo;exact⟨h.qk.mono h2 (ZBn _),h.b8,by have:=h.len;have:=Zzc;omega⟩
theorem exNormG (l:List RE) {J JA nQ:Nat} (hl:l.length≤1000000) (hr:∀t∈l,t.r.lm J) (hq:∀t∈l,t.q.length≤nQ) (hnQ:nQ≤maxQ) (hJ:J≤900000) (hJA:JA≤1000000)
 (hA:∀i,i≤l.length→(l.take i).all RE.ok=true→QK (accS (nzT ((l.take i).map RE.t))) JA nQ∧B8 (accS (nzT ((l.take i).map RE.t)))∧(accS (nzT ((l.take i).map RE.t))).length≤100000000):Pure prog 100 [.sl 4 (l.map RE.av)] (nrmR l) :=
 Zua l hl hr hq hnQ hJ hJA λi hi ha=>by have h:=hA i hi ha;exact⟨h.1,h.2.1,by rw [Ztu];exact h.2.2⟩
attribute [local go_sem] List.append_eq
theorem ratNegN (a:Rat) {k:Nat} (h:Sz a k) (hk:k≤1000000) (h0:a.num < 0):Pure prog 109 [ratQ a] (.agg [.v (.bool false),lim (toL a.num.natAbs),lim (toL a.den)]):=by
 have cp:=Zf7 a h zo;have h1:=h.1;have h2:=h.2;have cr:=Zfn false a.num.natAbs a.den zo zo a.den_nz
 have e:mkRat (zI false a.num.natAbs) a.den=-a:=by
  rw [show zI false a.num.natAbs=-a.num from by simp only [zI];simp;omega,←Rat.neg_mkRat,ZF7]
 have e2:absR a=-a:=by unfold absR;rw [ZBm h0]
 rw [e,←e2,ZBg] at cr;have e3:ratQ a=.agg [.v (.bool true),lim (toL a.num.natAbs),lim (toL a.den)]:=by unfold ratQ;rw [ZBu h0]
 have e4:intZ a.num=.agg [.v (.bool true),lim (toL a.num.natAbs)]:=by unfold intZ intA;rw [ZBu h0]
 have e5:intA false a.num.natAbs=.agg [.v (.bool false),lim (toL a.num.natAbs)]:=rfl;rw [e3,e4] at cp;rw [e5] at cr;rw [e3];clear e e2 e3 e4 e5;refine pI func109 rfl ntmps109 results109 call109 ?_
 (refine wkvp w_t (w_2 cp cr) (w_s ?_);intros)
 simp (disch:=omega) only [go_sem]
theorem Zcp {α:Type} {l:List α} {i:Nat} {d:α} (h:i < l.length):l.getD i d=l[i]:=by
 rw [ZB6,ZBx h];rfl
theorem exTerm (a:Rat) (p:List Qt) (ss:List ByteArray) (hl:ss.length≤1000000000) (hs:∀s∈ss,s.size≤1000) (hp:p.length≤1000) {k:Nat} (ha:Sz a k) (hk:k≤1000000) :
 Pure prog 60 [qtA (a,p),.sl 1 (ss.map strA)] (if chkP ss.length p=0 then .tup [strA (tTxt ss (a,p)),iv 0] else .tup [strA ⟨#[]⟩,iv (chkP ss.length p)]):=by
 have cs:=Zck a ha zo;have cn:=ratNegN a ha hk;have cx:=ratText (absR a) (Zof ha) hk;have c1:Pure prog 27 [iv 1] (ratQ 1):=Zk6 1 zo;have ce:=ratEqual (absR a) 1 (Zof ha) (k:=1) ⟨by show(toL 1).length≤1;rw [Zfs];omega,by show(toL 1).length≤1;rw [Zfs];omega⟩ hk zo;have hz:=Zp8 (Zof ha);have hpl:(p.map Qt.av).length=p.length:=ZBt ..;have hq:∀i (h:i < p.length),(p.map Qt.av).getD i .u=Qt.av p[i]:=λi h=>Zaw Qt.av h;have hx:tTxt ss (a,p)=tS ss p (if p.length≠0∧absR a=1 then ⟨#[]⟩ else decQ (absR a)) p.length:=rfl;have e0:decide (a.num.sign < 0)=decide (a.num < 0):=by rw [ZBo];exact Int.sign_neg_iff
 rw [ZBg] at cx ce;rw [hx,show qtA (a,p)=.agg [.v (.bool (decide (a.num < 0))),lim (toL a.num.natAbs),lim (toL a.den),.sl 4 (p.map Qt.av)] from rfl];have hne:(ratQ a)=.agg [.v (.bool (decide (a.num < 0))),lim (toL a.num.natAbs),lim (toL a.den)]:=rfl;rw [hne] at cs cn;have hng:decide (a.num < 0)=true→a.num < 0:=ZGx;have cn:=λh=>cn (hng h);generalize decide (a.num < 0)=sg at *;clear hng;generalize toL a.num.natAbs=An at *;generalize toL a.den=Ad at *;generalize hS:a.num.sign=sn at *;generalize decQ (absR a)=D at *;clear hS hx hne;have hemp:(⟨#[]⟩:ByteArray).size=0:=rfl;generalize hPA:p.map Qt.av=PA at *
 generalize hX:decide (absR a=1)=x at *;have hb:p.length=0→p=[]:=List.length_eq_zero_iff.1;have q1:∀c,chkP ss.length p=c→chkP ss.length p=c:=λ_ h=>h;have cq:∀i (h:i < p.length),Pure prog 112 [Qt.av p[i],.sl 1 (ss.map strA)] (if Qt.chk p[i] ss.length 64=0 then .tup [strA (p[i].txt ss),iv 0] else .tup [strA ⟨#[]⟩,iv (Qt.chk p[i] ss.length 64)]):=λi h=>quText p[i].k p[i].a p[i].b p[i].c ss hl hs;generalize ss.map strA=N at *;generalize hR:(if chkP ss.length p=0 then AV.tup [strA (tS ss p (if p.length≠0∧absR a=1 then ⟨#[]⟩ else D) p.length),iv 0] else .tup [strA ⟨#[]⟩,iv (chkP ss.length p)])=R at *
 refine pI func60 rfl ntmps60 results60 call60 ?_
 (refine wkvp w_t (w_1 cs) (w_s ?_);intros)
 refine r_cgX (λe m=>e 1=.sl 1 N∧(∃g2,e 2=.pbox 2 g2 0∧m 2=some (.box g2 78 [.v (.bool sg),lim An,lim Ad,.sl 4 PA] false))∧∃g6,e 6=.pbox 6 g6 0∧m 6=some (.box g6 28 [.v (.bool false),lim An,lim Ad] false)) ?_ ?_
 ·rw [e0]
  cases sg with
  | true =>
    have cn:=cn rfl;refine c_t ?_
    (refine wkad w_t (w_1 cn) w_t (w_s ?_);intros)
    exact⟨rfl,gC,⟨_,gC,gC⟩,_,gC,gC⟩
  | false =>
    refine c_f ?_
    (refine wkad w_t w_t w_t (w_s ?_);intros)
    exact⟨rfl,gC,⟨_,gC,gC⟩,_,gC,gC⟩
 ·rintro e m ⟨e1,⟨g2,e2,m2⟩,g6,e6,m6⟩
  by_cases hp0:p.length=0
  ·obtain rfl:=hb hp0;have hR:AV.tup [strA D,iv 0]=R:=hR;have hpl:PA.length=0:=hpl;rw [←hR]
   (refine wkax (w_7 e1 e2 m2 e6 m6 hpl @ZDm) (w_1 cx) (w_1 (w_d 5 [] [] [])) w_t w_t w_t w_y (w_r 1) (w_s ?_);intros)
   all_goals exact gL
  ·have hpp:0 < p.length:=ZDg hp0
   have hsx:(if p.length≠0∧absR a=1 then ⟨#[]⟩ else D:ByteArray)=if x=true then ⟨#[]⟩ else D:=by
    by_cases h1:absR a=1
    ·rw [ZBm ⟨hp0,h1⟩,ZBm (by rw [←hX];exact ZBu h1)]
    ·rw [ZBl (λh=>h1 h.2),ZBl (by rw [←hX,ZBv h1];decide)]
   rw [hsx] at hR;clear hsx;clear hX hb
   (repeat' (first|(with_reducible first|refine stp ?_|apply gx1|apply gx2|apply gx3|apply gx4|apply gx5|apply gx6|apply gx7|apply gy8|apply gz2|apply gz3|refine gw0 (cx) ?_ ?_|refine gw3 (cx) ?_ ?_ ?_|refine gw0 (c1) ?_ ?_|refine gw3 (c1) ?_ ?_ ?_|refine gw0 (ce) ?_ ?_|refine gw3 (ce) ?_ ?_ ?_)|(with_reducible refine Zcl ?_;intro _)|((with_reducible refine gE ?_);(try simp (disch:=omega) only [go_sem,e1,e2,m2,e6,m6,hpl])<;>first|rfl|omega)|with_reducible refine Zaj zd ?_|((with_reducible apply gy1);iterate 3 focus rfl)|((with_reducible apply gy2);iterate 3 focus rfl)|((with_reducible apply gy3);iterate 2 focus rfl)|((with_reducible apply gy4);iterate 1 focus rfl)|((with_reducible apply gy5);iterate 4 focus rfl)|((with_reducible apply gy5c);iterate 4 focus rfl)|((with_reducible apply gy6);iterate 4 focus rfl)|((with_reducible apply Zj8);iterate 3 focus rfl)|((with_reducible apply Zj7);iterate 1 focus rfl)|((with_reducible apply gy7);iterate 1 focus rfl)|((with_reducible apply gy9);(focus ((with_reducible refine gE ?_);(try simp (disch:=omega) only [go_sem,e1,e2,m2,e6,m6,hpl])<;>rfl)))|((with_reducible apply gz1);(focus first|rfl|(simp (disch:=omega) only [go_sem,e1,e2,m2,e6,m6,hpl];done)))|((with_reducible apply Zc8 (id:=5) (Zga [(6,ratQ 1),(7,.v (.bool x))]) [] []);(focus kernel_rfl);(focus rfl);(focus kernel_rfl);(focus (simp only [ZB5,ZCf,Nat.reduceAdd];rfl)))))
   refine r_cgX (λe m=>e 1=.sl 1 N∧(e 2=.pbox 2 g2 0∧m 2=some (.box g2 78 [.v (.bool sg),lim An,lim Ad,.sl 4 PA] false))∧e 7=strA (if x=true then ⟨#[]⟩ else D)) ?_ ?_
   ·cases x with
    | true =>
      refine c_t ?_
      (refine wkad (w_3 e1 e2 m2) w_t w_t (w_s ?_);intros)
      exact⟨rfl,gW e1,⟨gW e2,gW m2⟩,gC⟩
    | false =>
      refine c_f ?_;exact⟨rfl,gW e1,⟨gW e2,gW m2⟩,gC⟩
   ·have hz2:(if x=true then ⟨#[]⟩ else D:ByteArray).size≤10*k+4:=by split;(rw [hemp];omega);exact hz
    clear hz cs cn c1 ce e0 cx;generalize (if x=true then ⟨#[]⟩ else D:ByteArray)=s0 at *;clear e1 e2 m2 e6 m6
    rintro e m ⟨e1,⟨e2,m2⟩,e7⟩
    (refine wkad (w_5 e1 e2 m2 e7 hpl) w_t w_t (w_s ?_);intros)
    refine Zad (ι:=Nat) (λi e m=>i≤p.length∧(e 1=.sl 1 N∧e 31=.sl 4 PA∧e 32=iv p.length∧e 33=iv i)∧e 7=strA (tS ss p s0 i)∧∀j (h:j < p.length),j < i→Qt.chk p[j] ss.length 64=0) (λi=>p.length - i) 0 zr ?_ ?_
    ·rintro i e m ⟨hi,⟨e1,e31,e32,e33⟩,e7,hc⟩
     by_cases hlt:i < p.length
     ·have cqi:=cq i hlt;have hqi:=hq i hlt;have hsz:=Zwy (s0:=s0) hs zo hc;by_cases hch:Qt.chk p[i] ss.length 64=0
      ·rw [ZBm hch] at cqi;have ht:=ZAn ss hs hch;have hnx:tS ss p s0 (i+1)=(if (tS ss p s0 i).size=0 then tS ss p s0 i else tS ss p s0 i++⟨#[42]⟩)++p[i].txt ss:=by rw [←Zcp (d:=Qt.zero) hlt];rfl
       have hpo:0 < i→0 < (tS ss p s0 i).size:=tS_pos ss p s0 i;have hc2:∀j (h:j < p.length),j < i+1→Qt.chk p[j] ss.length 64=0:=λj h hj=>by
        rcases ZB7 j i with h1 | h1
        ·exact hc j h h1
        ·have:j=i:=zo;subst this;exact hch
       have h42:(⟨#[42]⟩:ByteArray).size=1:=rfl;have h43:=ZCk (a:=tS ss p s0 i) (b:=⟨#[42]⟩);have qe:Qt.av p[i]=.agg [iv p[i].k,iv p[i].a,iv p[i].b,iv p[i].c]:=rfl;rw [qe] at cqi hqi;clear hc hch;generalize p[i].txt ss=T at *;generalize tS ss p s0 i=S at *;generalize p[i].k=qk at *;generalize p[i].a=qa at *;generalize p[i].b=qb at *;generalize p[i].c=qc at *;by_cases hS:S.size=0
       ·have hi0:decide ((0:Int) < (i:Int))=false:=ZBv zo;have hSz:=ZBu hS;rw [ZBm hS] at hnx
        (refine wkad (w_10 e1 e31 e32 e33 e7 hpl hqi @Zi9 hi0 hSz) (w_1 cqi) w_t (w_s ?_);intros)
        exact⟨i+1,⟨zo,⟨gW e1,gW e31,gW e32,gS⟩,by rw [hnx];exact gC,hc2⟩,zo⟩
       ·have hSz:=ZBv hS;rw [ZBl hS] at hnx;by_cases hi0:i=0
        ·have hi0:decide ((0:Int) < (i:Int))=false:=ZBv zo
         (refine wkad (w_12 e1 e31 e32 e33 e7 hpl hqi @Zi9 hi0 hSz h42 h43) (w_1 cqi) w_t (w_s ?_);intros)
         exact⟨i+1,⟨zo,⟨gW e1,gW e31,gW e32,gS⟩,by rw [hnx];exact gC,hc2⟩,zo⟩
        ·have hi0:decide ((0:Int) < (i:Int))=true:=ZBu zo
         (refine wkad (w_11 e1 e31 e32 e33 e7 hpl hqi @Zi9 hi0 h42 h43) (w_1 cqi) w_t (w_s ?_);intros)
         exact⟨i+1,⟨zo,⟨gW e1,gW e31,gW e32,gS⟩,by rw [hnx];exact gC,hc2⟩,zo⟩
      ·rw [ZBl hch] at cqi;have hat:=ZAp hlt hc hch;rw [hat,ZBl hch] at hR;have qe:Qt.av p[i]=.agg [iv p[i].k,iv p[i].a,iv p[i].b,iv p[i].c]:=rfl;rw [qe] at cqi hqi;generalize Qt.chk p[i] ss.length 64=ch at *;generalize p[i].k=qk at *;generalize p[i].a=qa at *;generalize p[i].b=qb at *;generalize p[i].c=qc at *;rw [←hR]
       (refine wkad (w_7 e1 e31 e32 e33 e7 hpl hqi) (w_1 cqi) w_t (w_s ?_);intros)
       all_goals exact gL
     ·have:i=p.length:=zo;subst this;rw [ZBm (Zum λj h=>hc j h h)] at hR;rw [←hR]
      (refine wkad (w_6 e1 e31 e32 e33 e7 hpl) w_t w_t (w_s ?_);intros)
      all_goals exact gL
    ·exact⟨ZBw _,⟨gW e1,gC,gW hpl,gC⟩,gW e7,λj h hj=>zo⟩
section
attribute [local go_sem] underlying3 underlying4 underlying161 underlying24 underlying26 underlying28 underlying91 underlying76 underlying78 underlying33 underlying34 sz3 by3 z3 szB zB Zaq zRat Zau zInt Zat zNat Zag Zao Zah Bool.and_self Zal Zbb zSlQ szQT byQT zQT Za7 zSlT szQP zQP underlying9 underlying227 underlying164 underlying225 Zos Zjt Zoh Zou Za5 zStr zSum zMap underlying35 underlying65 List.append_eq
end
theorem Zor {ss:List ByteArray} {t:Rat × List Qt} (hs:∀s∈ss,s.size≤1000) (hp:t.2.length≤1000) {k:Nat} (ha:Sz t.1 k) (hk:k≤1000000) (h:chkP ss.length t.2=0):(tTxt ss t).size≤15000000:=by
 have hz:=Zp8 (Zof ha)
 have hall:∀j (h:j < t.2.length),Qt.chk t.2[j] ss.length 64=0:=by
  generalize t.2=p at h;clear hp
  induction p with
  | nil=>intro j hj;simp at hj
  | cons q l ih =>
    unfold chkP at h;by_cases h0:Qt.chk q ss.length 64=0
    ·rw [ZBm h0] at h;intro j hj
     cases j with
     | zero=>exact h0
     | succ j=>exact ih h j (by simpa using hj)
    ·rw [ZBl h0] at h;exact absurd h h0
 have hemp:(⟨#[]⟩:ByteArray).size=0:=rfl;unfold tTxt;have h2:=Zwy (s0:=if t.2.length≠0∧absR t.1=1 then ⟨#[]⟩ else decQ (absR t.1)) hs (ZBn t.2.length) λj h _=>hall j h
 have h3:(if t.2.length≠0∧absR t.1=1 then ⟨#[]⟩ else decQ (absR t.1):ByteArray).size≤10*k+4:=by
  split
  ·rw [hemp];omega
  ·exact hz
 omega
theorem ZAd {ss:List ByteArray} {p:QTs} {i:Nat} (hi:i≤p.length) (h:∀j (h:j < p.length),j < i→(tTxt ss p[j]).size≤15000000):(eS ss p i).size≤i*15000003:=by
 induction i with
 | zero=>exact ZBw _
 | succ i ih =>
   have h1:=ih zo λj hj hji=>h j hj zo;have h2:=h i zo zo;have e:p.getD i (0,[])=p[i]:=Zcp zo;unfold eS;rw [ZCk,e];have s0:(⟨#[]⟩:ByteArray).size=0:=rfl;have s1:(⟨#[45]⟩:ByteArray).size=1:=rfl;have s2:(⟨#[32,45,32]⟩:ByteArray).size=3:=rfl;have s3:(⟨#[32,43,32]⟩:ByteArray).size=3:=rfl;split
   ·split<;>omega
   ·rw [ZCk];split<;>omega
def OkT (p:QTs) (k:Nat):Prop:=∀t∈p,t.2.length≤1000∧Sz t.1 k
theorem Zzv (p:QTs) (ss:List ByteArray) (hl:ss.length≤1000000000) (hs:∀s∈ss,s.size≤1000) (hp:p.length≤100000) {k:Nat} (hk:k≤1000000) (ho:OkT p k) :
 Pure prog 21 [.sl 4 (p.map qtA),.sl 1 (ss.map strA)] (if chkE ss.length p=0 then .tup [strA (eTxt ss p),iv 0] else .tup [strA ⟨#[]⟩,iv (chkE ss.length p)]):=by
 have hpl:(p.map qtA).length=p.length:=ZBt ..;have hq:∀i (h:i < p.length),(p.map qtA).getD i .u=.agg [.v (.bool (decide (p[i].1.num < 0))),lim (toL p[i].1.num.natAbs),lim (toL p[i].1.den),.sl 4 (p[i].2.map Qt.av)]:=λi h=>Zaw qtA h;have ct:∀i (h:i < p.length),Pure prog 60 [.agg [.v (.bool (decide (p[i].1.num < 0))),lim (toL p[i].1.num.natAbs),lim (toL p[i].1.den),.sl 4 (p[i].2.map Qt.av)],.sl 1 (ss.map strA)] (if chkP ss.length p[i].2=0 then .tup [strA (tTxt ss p[i]),iv 0] else .tup [strA ⟨#[]⟩,iv (chkP ss.length p[i].2)]):=λi h=>exTerm p[i].1 p[i].2 ss hl hs (ho _ (ZBy h)).1 (ho _ (ZBy h)).2 hk
 have cs:∀i (h:i < p.length),Pure prog 18 [.agg [.v (.bool (decide (p[i].1.num < 0))),lim (toL p[i].1.num.natAbs),lim (toL p[i].1.den)]] (iv p[i].1.num.sign):=λi h=>Zck p[i].1 (ho _ (ZBy h)).2 zo;have hsz:∀i (h:i < p.length),chkP ss.length p[i].2=0→(tTxt ss p[i]).size≤15000000:=λi h h2=>Zor hs (ho _ (ZBy h)).1 (ho _ (ZBy h)).2 hk h2;clear ho hk;generalize ss.map strA=N at *;generalize p.map qtA=P at *;generalize hR:(if chkE ss.length p=0 then AV.tup [strA (eTxt ss p),iv 0] else .tup [strA ⟨#[]⟩,iv (chkE ss.length p)])=R at *;have hemp:(⟨#[]⟩:ByteArray).size=0:=rfl
 refine pI func21 rfl ntmps21 results21 call21 ?_;by_cases hp0:p.length=0
 ·obtain rfl:=List.length_eq_zero_iff.1 hp0;have hR:AV.tup [strA ⟨#[48]⟩,iv 0]=R:=hR;have hpl:P.length=0:=hpl;rw [←hR]
  (refine wkap (w_2 hpl @ZDm) w_t (w_r 0) (w_s ?_);intros)
  all_goals exact gL
 ·have hpi:¬((p.length:Nat):Int)=0:=zo;have eTx:eTxt ss p=eS ss p p.length:=ZBl hp0;rw [eTx] at hR
  (refine wkap (w_2 hpl hpi) w_t (w_r 0) (w_s ?_);intros)
  refine Zad (ι:=Nat) (λi e m=>i≤p.length∧(e 1=.sl 1 N∧e 15=.sl 4 P∧e 16=iv p.length∧e 17=iv i)∧e 6=strA (eS ss p i)∧∀j (h:j < p.length),j < i→chkP ss.length p[j].2=0) (λi=>p.length - i) 0 zr ?_ ?_
  ·rintro i e m ⟨hi,⟨e1,e15,e16,e17⟩,e6,hc⟩
   by_cases hlt:i < p.length
   ·have cti:=ct i hlt;have csi:=cs i hlt;have hqi:=hq i hlt;have hes:=ZAd (ss:=ss) (p:=p) hi λj h hj=>hsz j h (hc j h hj);by_cases hch:chkP ss.length p[i].2=0
    ·rw [ZBm hch] at cti;have ht:=hsz i hlt hch;have hnx:eS ss p (i+1)=(if i=0 then (if p[i].1.num < 0 then ⟨#[45]⟩ else ⟨#[]⟩) else eS ss p i++(if p[i].1.num < 0 then ⟨#[32,45,32]⟩ else ⟨#[32,43,32]⟩))++tTxt ss p[i]:=by rw [←Zcp (d:=((0:Rat),([]:List Qt))) hlt];rfl
     have hc2:∀j (h:j < p.length),j < i+1→chkP ss.length p[j].2=0:=λj h hj=>by
      rcases ZB7 j i with h1 | h1
      ·exact hc j h h1
      ·have:j=i:=zo;subst this;exact hch
     have e0s:eS ss p 0=⟨#[]⟩:=rfl;have hn0:decide (p[i].1.num.sign < 0)=decide (p[i].1.num < 0):=by rw [ZBo];exact Int.sign_neg_iff
     have s45:(⟨#[45]⟩:ByteArray).size=1:=rfl;have s3:(⟨#[32,45,32]⟩:ByteArray).size=3:=rfl;have s4:(⟨#[32,43,32]⟩:ByteArray).size=3:=rfl;have z3:=ZCk (a:=eS ss p i) (b:=⟨#[32,45,32]⟩);have z4:=ZCk (a:=eS ss p i) (b:=⟨#[32,43,32]⟩);clear hc hch ct cs hsz hq;generalize tTxt ss p[i]=T at *;generalize p[i].2.map Qt.av=qs at *;by_cases hng:p[i].1.num < 0
     ·rw [ZBm hng,ZBm hng] at hnx;rw [ZBu hng] at hn0 csi cti hqi;clear hng;generalize p[i].1.num.sign=sn at *;generalize toL p[i].1.num.natAbs=An at *;generalize toL p[i].1.den=Ad at *;by_cases hi0:i=0
      ·subst hi0;rw [ZBm rfl] at hnx;rw [e0s] at e6;have e45:(⟨#[]⟩++⟨#[45]⟩:ByteArray)=⟨#[45]⟩:=rfl
       (refine wkap (w_12 e1 e15 e16 e17 hpl e6 hqi hn0 e45 hemp s45 @ZDm) (w_2 cti csi) (w_r 0) (w_s ?_);intros)
       exact⟨0+1,⟨zo,⟨gW e1,gW e15,gW e16,gS⟩,by rw [hnx];exact gC,hc2⟩,zo⟩
      ·rw [ZBl hi0] at hnx;have hi1:decide ((0:Int) < (i:Int))=true:=ZBu zo;have hi2:¬(i:Int)=0:=zo
       (refine wkap (w_12 e1 e15 e16 e17 hpl e6 hqi hn0 hi1 hi2 z3 s3) (w_2 cti csi) (w_r 0) (w_s ?_);intros)
       exact⟨i+1,⟨zo,⟨gW e1,gW e15,gW e16,gS⟩,by rw [hnx];exact gC,hc2⟩,zo⟩
     ·rw [ZBl hng,ZBl hng] at hnx;rw [ZBv hng] at hn0 csi cti hqi;clear hng;generalize p[i].1.num.sign=sn at *;generalize toL p[i].1.num.natAbs=An at *;generalize toL p[i].1.den=Ad at *;by_cases hi0:i=0
      ·subst hi0;rw [ZBm rfl] at hnx;rw [e0s] at e6
       (refine wkap (w_10 e1 e15 e16 e17 hpl e6 hqi hn0 hemp @ZDm) (w_2 cti csi) (w_r 0) (w_s ?_);intros)
       exact⟨0+1,⟨zo,⟨gW e1,gW e15,gW e16,gS⟩,by rw [hnx];exact gC,hc2⟩,zo⟩
      ·rw [ZBl hi0] at hnx;have hi1:decide ((0:Int) < (i:Int))=true:=ZBu zo;have hi2:¬(i:Int)=0:=zo
       (refine wkap (w_12 e1 e15 e16 e17 hpl e6 hqi hn0 hi1 hi2 z4 s4) (w_2 cti csi) (w_r 0) (w_s ?_);intros)
       exact⟨i+1,⟨zo,⟨gW e1,gW e15,gW e16,gS⟩,by rw [hnx];exact gC,hc2⟩,zo⟩
    ·rw [ZBl hch] at cti;have hat:=ZAq hlt hc hch;rw [hat,ZBl hch] at hR;generalize chkP ss.length p[i].2=ch at *;generalize p[i].2.map Qt.av=qs at *;generalize decide (p[i].1.num < 0)=ng at *;generalize toL p[i].1.num.natAbs=An at *;generalize toL p[i].1.den=Ad at *;rw [←hR]
     (refine wkap (w_7 e1 e15 e16 e17 hpl e6 hqi) (w_1 cti) (w_r 0) (w_s ?_);intros)
     all_goals exact gL
   ·have:i=p.length:=zo;subst this;rw [ZBm (Zun λj h=>hc j h h)] at hR;rw [←hR]
    (refine wkap (w_6 e1 e15 e16 e17 hpl e6) w_t (w_r 0) (w_s ?_);intros)
    all_goals exact gL
  ·exact⟨ZBw _,⟨gC,gC,gW hpl,gC⟩,gC,λj h hj=>zo⟩
attribute [go_sem] underlying275
theorem exGrow (σ:Mem) (KP n:Nat) (h0:0 < n) (hn:n≤2000000) :
 ACall prog 249 [.v (.slice none 0 0),iv n] σ λr σ'=>∃sv L,r=.view KP sv 4 0 0∧σ'=upd σ KP (some (.row sv 91 4 L 0)):=by
 refine Zhb func249 rfl ntmps249 results249 call249 zr zs ?_;have h1:¬((n:Nat):Int) < 0:=zo;have h2:(0:Int) < ((n:Nat):Int):=zo;have hm:∀k,Zd9 σ (k+1000)=(σ k).map Ent.sh:=λk=>by unfold Zd9;rw [ZBl zo];rfl
 generalize Zd9 σ=m0 at *
 (refine wkap (w_2 h1 h2) w_t (w_r 0) (w_s ?_);intros)
 simp (disch:=omega) only [go_sem];rename_i sv;refine Zi5 (σ:=σ) (σ':=upd σ KP (some (.row sv 91 4 (List.replicate ((n:Int) - 0).toNat (.agg [iv 0,iv 0,iv 0,iv 0])) 0))) 22 KP zo (Sub.view _ _ _ _ _ _) ⟨_,_,rfl,rfl⟩ ?_ ?_
 ·simp only [Zam,ZBm]
 ·intro k hk _;rw [Zam,ZBl zo,hm k,Zam,ZBl hk]
theorem exGrow0:Pure prog 249 [.v (.slice none 0 0),iv 0] (.v (.slice none 0 0)):=by
 refine pI func249 rfl ntmps249 results249 call249 ?_
 (refine wkap w_t w_t (w_r 0) (w_s ?_);intros)
 all_goals exact gL
theorem exConcat (σ:Mem) (KC KP:Nat) (svc:Value) (A B:List AV) (hC:σ KC=some (.row svc 76 1 [.sl 4 A,.sl 4 B] 0)) (hk:KC≠KP) (ha:A.length≤1000000) (hb:B.length≤1000000) :
 ACall prog 196 [.own KC svc] σ λr σ'=>∃sv,r=.own KP sv∧σ'=upd σ KP (some (.row sv 91 4 (A++B) 0)):=by
 have mC:=Zax hC;simp only [Ent.sh,AV.shL,AV.sh] at mC;have hm:∀k,Zd9 σ (k+1000)=(σ k).map Ent.sh:=λk=>by unfold Zd9;rw [ZBl zo];rfl
 refine Zhb func196 rfl ntmps196 results196 call196 zr zs ?_;generalize Zd9 σ=m0 at *;have h1:¬((A.length:Nat):Int) < 0:=zo;have h2:¬((A.length:Nat):Int)+(B.length:Int) < 0:=zo;have e1:(0:Int)+((A.length:Nat):Int)=(A.length:Int):=zo;have e2:((A.length:Nat):Int)+(B.length:Int)=((A.length+B.length:Nat):Int):=zo;by_cases hn:0 < A.length+B.length
 ·have cg:=fun(m:Mem)=>exGrow m 40 (A.length+B.length) hn zo
  (refine wkap (w_5 mC h1 h2 e1 e2) w_t (w_r 3) (w_s ?_);intros)
  refine Zdo (cg _) ?_
  rintro _ _ ⟨sv,L,rfl,rfl⟩
  have hz:(L.take 0++A)=A:=rfl
  (refine wkap (w_2 mC hz) w_t (w_r 3) (w_s ?_);intros)
  simp (disch:=omega) only [go_sem];rename_i sv1 sv2;refine Zi5 (σ:=σ) (σ':=upd σ KP (some (.row sv2 91 4 (A++B) 0))) 40 KP zo (Sub.own _ _ _) ⟨_,rfl,rfl⟩ ?_ ?_
  ·simp (disch:=omega) only [go_sem,ZBm]
  ·intro k hk _;rw [show upd σ KP (some (.row sv2 91 4 (A++B) 0)) k=σ k from by rw [Zam,ZBl hk],←hm k];simp (disch:=omega) only [go_sem]
 ·have hA:A=[]:=List.length_eq_zero_iff.1 zo;have hB:B=[]:=List.length_eq_zero_iff.1 zo;subst hA hB;have cg:=exGrow0;have e4:((0:Nat):Int)+((0:Nat):Int)=0:=rfl;have e5:(0:Int)+((0:Nat):Int)=((0:Nat):Int):=rfl
  (refine wkap (w_3 mC e4 e5) w_t (w_r 3) (w_s ?_);intros)
  refine o_c cg rfl ?_
  (refine wkap (w_1 mC) w_t (w_r 0) (w_s ?_);intros)
  refine Zff (Frz.nilOwn (d:=6) 40 4 91 (gC)) ?_
  (refine wkap (w_1 mC) w_t (w_r 3) (w_s ?_);intros)
  simp (disch:=omega) only [go_sem];rename_i sv1 sv2;refine Zi5 (σ:=σ) (σ':=upd σ KP (some (.row sv2 91 4 [] 0))) 40 KP zo (Sub.own _ _ _) ⟨_,rfl,rfl⟩ ?_ ?_
  ·simp (disch:=omega) only [go_sem,ZBm]
  ·intro k hk _;rw [show upd σ KP (some (.row sv2 91 4 [] 0)) k=σ k from by rw [Zam,ZBl hk],←hm k];simp (disch:=omega) only [go_sem]
abbrev muQ (a b:List Qt):List Qt:=srtQ Qt.cmp (a++b)
theorem exTimes (a b:List Qt) (hm:a.length+b.length≤maxQ):Pure prog 119 [qsA a,qsA b] (qsA (muQ a b)):=by
 have hM:=Zjd;have cs:=fun(m:Mem) (sv:Value) h=>qSort m 300 sv (a++b) h (by rw [ZCg];exact hm);have cc:=fun(m:Mem) (svc:Value) h=>exConcat m 8 300 svc (a.map Qt.av) (b.map Qt.av) h zo (by rw [ZBt];omega) (by rw [ZBt];omega);rw [←ZCe] at cc;show Pure _ _ [.sl 4 (a.map Qt.av),.sl 4 (b.map Qt.av)] (.sl 4 ((muQ a b).map Qt.av));generalize (muQ a b).map Qt.av=R at *;generalize (a++b).map Qt.av=AB at *;generalize a.map Qt.av=A at *;generalize b.map Qt.av=B at *;refine pI func119 rfl ntmps119 results119 call119 ?_
 (refine wkap w_t w_t (w_r 0) (w_s ?_);intros)
 refine Zdo (cc _ _ (gC)) ?_
 rintro _ _ ⟨sv,rfl,rfl⟩
 (refine wkap w_t w_t (w_r 0) (w_s ?_);intros)
 refine Zgx (cs _ _ (gC)) ?_
 (refine wkap w_t w_t (w_r 0) (w_s ?_);intros)
 all_goals exact gL
def okQ (l:List Qt):Prop:=Asc Qt.cmp l∧∀q∈l,q.norm=(q,1)
theorem Zro {q:Qt} (h:q.norm=(q,1)):q.ok=true:=by
 cases e:q.ok with
 | true=>rfl
 | false =>
   unfold Qt.norm at h;rw [e,ZBl zs] at h;have:=ZDv Prod.snd h;simp at this
theorem okQ.b8 {l:List Qt} (h:okQ l):∀q∈l,q.b8:=λq hq=>ok_b8 (Zro (h.2 q hq))
theorem rgQ:Go.Pol.RG okQ ordQ muQ [] where
 o:=Zbh
 comm a b:=Zfk qtO (Zb5 qtO.cp _) (Zb5 qtO.cp _) ((Za1 _).trans (List.perm_append_comm.trans (Za1 _).symm))
 assoc a b c:=Zfk qtO (Zb5 qtO.cp _) (Zb5 qtO.cp _) ((Za1 _).trans ((((Za1 _).append_right c).trans (by rw [ZC4])).trans (((Za1 (b++c)).symm.append_left a).trans (Za1 _).symm)))
 one a ha:=Zfk qtO (Zb5 qtO.cp _) ha.1 (by show(srtQ Qt.cmp (a++[])).Perm a;rw [ZC6];exact Za1 _)
 cl a b ha hb:=⟨Zb5 qtO.cp _,λq hq=>by
  rcases List.mem_append.1 ((Za1 _).mem_iff.1 hq) with h | h
  ·exact ha.2 q h
  ·exact hb.2 q h⟩
 de:=⟨.nil,λq hq=>by cases hq⟩
abbrev EX (p:QTs):Prop:=SQ okQ ordQ p
abbrev mulX (p q:QTs):QTs:=mlG ordQ muQ p q
def XB (p:QTs) (k n:Nat):Prop:=EX p∧(∀t∈p,t.2.length≤n)∧∃D B,D≠0∧D < 65536 ^ k∧B < 65536 ^ k∧NB D B p
theorem XB.mono {p:QTs} {k n j m:Nat} (h:XB p k n) (hk:k≤j) (hn:n≤m):XB p j m:=by
 obtain⟨a,b,D,B,c,d,e,f⟩:=h;have hp:65536 ^ k≤65536 ^ j:=ZDe zo hk;exact⟨a,λt ht=>ZBs (b t ht) hn,D,B,c,zo,zo,f⟩
theorem XB.qk {p:QTs} {k n:Nat} (h:XB p k n):QK p (k+k) n:=by
 obtain⟨a,b,D,B,c,d,e,f⟩:=h;exact nb_qk f c d e b
theorem XB.nz {p:QTs} {k n:Nat} (h:XB p k n):∀t∈p,t.1≠0:=λt ht=>(h.1.1 t ht).1
theorem mu_len (a b:List Qt):(muQ a b).length=a.length+b.length:=by rw [srtQ_len,ZCg]
theorem Zla {p q:QTs} {m n:Nat} (hp:∀t∈p,t.2.length≤m) (hq:∀t∈q,t.2.length≤n):∀t∈prodL muQ p q,t.2.length≤m+n:=λu hu=>by
 obtain⟨s,hs,t,ht,rfl⟩:=Zfq hu;show(muQ s.2 t.2).length≤_;rw [mu_len];have:=hp s hs;have:=hq t ht;omega
theorem XB.mul {p q:QTs} {j k m n:Nat} (hp:XB p j m) (hq:XB q k n):XB (mulX p q) (j+k) (m+n):=by
 obtain⟨a,b,D,B,c,d,e,f⟩:=hp;obtain⟨a',b',D',B',c',d',e',f'⟩:=hq;refine⟨Zbg rgQ a a',Zki (Zla b b'),D*D',B*B',ZEq c c',?_,?_,(f.prodL f').sumG⟩
 ·rw [ZC0];exact ZFx d d'
 ·rw [ZC0];exact ZFx e e'
theorem XB.add {p q:QTs} {j k m n:Nat} (hp:XB p j m) (hq:XB q k n):XB (Za9 p q) (j+k+1) (max m n):=by
 obtain⟨a,b,D,B,c,d,e,f⟩:=hp;obtain⟨a',b',D',B',c',d',e',f'⟩:=hq;have h1:65536 ^ j≤65536 ^ (j+k):=ZDe zo zo;have h2:65536 ^ k≤65536 ^ (j+k):=ZDe zo zo;have h3:65536 ^ (j+k+1)=65536 ^ (j+k)*65536:=ZCz ..;have h4:D*D' < 65536 ^ (j+k):=by rw [ZC0];exact ZFx d d'
 refine⟨Zgh Zbh a a',λt ht=>?_,D*D',B+B',ZEq c c',zo,zo,(f.mono (ZFm ..) (ZBn _)).addP (f'.mono (ZG8 ..) (ZBn _))⟩;rcases Zg0 ht with h | h | ⟨s,hs,u,hu,rfl⟩
 ·exact ZBs (b t h) (Nat.le_max_left ..)
 ·exact ZBs (b' t h) (Nat.le_max_right ..)
 ·exact ZBs (b s hs) (Nat.le_max_left ..)
theorem Zdz (p q:QTs):(mulX p q).length≤p.length*q.length:=by
 have:∀l:QTs,(gatM l).length≤l.length:=λl=>by
  obtain⟨j,hj⟩:∃j,QK l j ((l.map λt=>t.2.length).sum):=by
   induction l with
   | nil=>exact⟨0,λt ht=>by cases ht⟩
   | cons a l ih =>
     obtain⟨j,hj⟩:=ih;refine⟨max j (max (toL a.1.num.natAbs).length (toL a.1.den).length),λt ht=>?_⟩;rw [ZCm,List.sum_cons];rcases List.mem_cons.1 ht with rfl | ht
     ·exact⟨⟨zo,zo⟩,zo⟩
     ·exact⟨(hj t ht).1.mono zo,by have:=(hj t ht).2;omega⟩
  exact(Zzq _ l rfl hj).2
 have h:=this (prodL muQ p q)
 rwa [Zlb] at h
theorem Zte {mu:List Qt→List Qt→List Qt} {q:QTs}:∀{p:QTs} {i j:Nat} (hi:i < p.length) (hj:j < q.length),(prodL mu p q)[i*q.length+j]?=some (p[i].1*q[j].1,mu p[i].2 q[j].2)
 | a :: p,0,j,_,hj=>by
   rw [Zfr,ZDc (by rw [ZBt];omega),ZEc,ZCb,ZCt,ZBx hj];rfl
 | a :: p,i+1,j,hi,hj=>by
   rw [Zfr,ZDd (by rw [ZBt,ZDh];omega),ZBt,show(i+1)*q.length+j - q.length=i*q.length+j by rw [ZDh];omega];exact Zte (by simpa using hi) hj
theorem Zwv {α:Type} {l:List α} {c:Nat} {x:α} (h:l[c]?=some x):l.take (c+1)=l.take c++[x]:=by
 rw [ZFl,h];rfl
theorem acc_nb {D:Nat} (L:QTs):∀{B C:Nat} (acc:QTs),NB D B acc→NB D C L→NB D (B+C) (L.foldl addC acc):=by
 induction L with
 | nil=>intro B C acc h _;exact h.mono (ZDs _) (ZGn _ _)
 | cons t L ih =>
   intro B C acc h k;have h1:=h.addC (C:=cl t.1) (k.1 t (.head _)) (ZBn _);have h2:NB D (C - cl t.1) L:=⟨λu hu=>k.1 u (.tail _ hu),by have:=k.2;rw [Zbf] at this;omega⟩;have h3:cl t.1≤C:=by have:=k.2;rw [Zbf] at this;omega
   exact(ih _ h1 h2).mono (ZDs _) zo
theorem Zjm {P:List Qt→Prop} (L:QTs):∀(acc:QTs),(∀t∈acc,P t.2)→(∀t∈L,P t.2)→∀t∈L.foldl addC acc,P t.2:=by
 induction L with
 | nil=>intro acc h _;exact h
 | cons s L ih =>
   intro acc h k;refine ih _ (λt ht=>?_) λt ht=>k t (.tail _ ht);rcases Zoe ht with h1 | rfl | ⟨v,hv,rfl⟩
   ·exact h t h1
   ·exact k _ (.head _)
   ·exact h v hv
theorem ZBf (L:QTs):∀(acc:QTs),(L.foldl addC acc).length≤acc.length+L.length:=by
 induction L with
 | nil=>intro acc;exact ZBn _
 | cons s L ih =>
   intro acc;refine ZBs (ih _) ?_;have:=Zux acc s;rw [ZB5];omega
theorem Zrs (L:QTs):srtQ ordT (nzT (accS L))=gatM L:=Zm7 Zbh L
theorem exMulT (p q:QTs) {j k m n:Nat} (hp:XB p j m) (hq:XB q k n) (hmn:m+n≤maxQ) (hl:p.length*q.length≤maxT) (hpl:p.length≤100000000) (hql:q.length≤100000000) (hj:j≤100000) (hk:k≤100000):Pure prog 66 [qpA p,qpA q] (qpA (mulX p q)):=by
 have hMT:=Znp;have hM:=Zjd;have hpm:(p.map qtA).length=p.length:=ZBt ..;have hqm:(q.map qtA).length=q.length:=ZBt ..;have gp:∀i (h:i < p.length),(p.map qtA).getD i .u=qtA p[i]:=λi h=>Zaw qtA h;have gq:∀i (h:i < q.length),(q.map qtA).getD i .u=qtA q[i]:=λi h=>Zaw qtA h;have kp:=hp.qk;have kq:=hq.qk;have hop:∀t∈p,okQ t.2:=hp.1.dom;have hoq:∀t∈q,okQ t.2:=hq.1.dom
 have hacc:∀c,c≤p.length*q.length→QK (accS ((prodL muQ p q).take c)) (j+k+(j+k)) (m+n)∧B8 (accS ((prodL muQ p q).take c))∧(accS ((prodL muQ p q).take c)).length≤maxT:=by
  intro c hc;obtain⟨a,b,D,B,c1,d,e,f⟩:=hp;obtain⟨a',b',D',B',c',d',e',f'⟩:=hq;have hn:=acc_nb ((prodL muQ p q).take c) [] (NB.nil _ 0) ((f.prodL f').take c);rw [ZCb] at hn;have hmem:∀t∈(prodL muQ p q).take c,t.2.length≤m+n∧okQ t.2:=λt ht=>by
   have ht:=ZC3 ht;refine⟨Zla b b' t ht,?_⟩;obtain⟨s,hs,u,hu,rfl⟩:=Zfq ht;exact rgQ.cl _ _ (hop s hs) (hoq u hu)
  refine⟨nb_qk hn (ZEq c1 c') (by rw [ZC0];exact ZFx d d') (by rw [ZC0];exact ZFx e e') ?_,?_,?_⟩
  ·exact Zjm (P:=λx=>x.length≤m+n) _ [] (λt ht=>by cases ht) λt ht=>(hmem t ht).1
  ·exact Zjm (P:=λx=>∀q∈x,q.b8) _ [] (λt ht=>by cases ht) λt ht=>(hmem t ht).2.b8
  ·refine ZBs (ZBf _ _) ?_;rw [ZCf,ZB9,Zlb];omega
 have hstep:∀i l (h1:i < p.length) (h2:l < q.length),accS ((prodL muQ p q).take (i*q.length+l+1))=addC (accS ((prodL muQ p q).take (i*q.length+l))) (p[i].1*q[l].1,muQ p[i].2 q[l].2):=λi l h1 h2=>by
  rw [Zwv (Zte h1 h2)];exact Zlz _ _
 have hfin:mulX p q=srtQ ordT (nzT (accS ((prodL muQ p q).take (p.length*q.length)))):=by
  rw [Zrs,ZDp (by rw [Zlb];exact ZBn _)];rfl
 have hdst:Dst (accS ((prodL muQ p q).take (p.length*q.length))):=Zfj _ [] .nil;have hac0:accS ((prodL muQ p q).take 0)=[]:=by rw [ZFb];rfl
 have hq0:∀t∈q,t.2.length≤n:=λt ht=>(kq t ht).2;rw [hfin];clear hfin hp hq;generalize hPR:(λc=>accS ((prodL muQ p q).take c))=PR at *;have hPR:∀c,accS ((prodL muQ p q).take c)=PR c:=λc=>by rw [←hPR]
 simp only [hPR] at hacc hstep hdst hac0 ⊢;clear hPR;show Pure _ _ [.sl 4 (p.map qtA),.sl 4 (q.map qtA)] (.sl 4 ((srtQ ordT (nzT (PR (p.length*q.length)))).map qtA));generalize p.map qtA=A at *;generalize q.map qtA=B at *;refine pI func66 rfl ntmps66 results66 call66 ?_
 (refine wkad w_t w_t w_t (w_s ?_);intros)
 refine Zdo (exNew _ 200 201 zo) ?_
 rintro _ _ ⟨g,h,rfl,rfl⟩
 (refine wkad (w_1 hpm) w_t w_t (w_s ?_);intros)
 refine Zff (Frz.nilBox (k:=200) 1 202 4 78 (gC) rfl zo) ?_;refine Zad (ι:=Nat) (λi e M=>i≤p.length∧e 1=.sl 4 B∧e 5=.pbox 200 g 0∧M 201=some (.map h (mpE (PR (i*q.length))))∧(∃sv,M 200=some (.box g 227 [.mp 201 h,.own 202 sv] false)∧M 202=some (.row sv 78 4 ((PR (i*q.length)).map qtA) 0))∧e 11=.sl 4 A∧e 12=iv p.length∧e 13=iv i) (λi=>p.length - i) 0 zr ?_ ?_
 ·rintro i e M ⟨hi,e1,e5,m201,⟨sv,m200,m202⟩,e11,e12,e13⟩
  by_cases hlt:i < p.length
  ·have gpi:=gp i hlt;have kpi:=kp _ (ZBy hlt);have hsti:=λl h2=>hstep i l hlt h2;have hopi:=hop _ (ZBy hlt);have hci:∀l,l≤q.length→i*q.length+l≤p.length*q.length:=λl h=>by
    have:=ZB4 q.length (show i+1≤p.length from hlt);rw [ZDh] at this;omega
   have hsucc:(i+1)*q.length=i*q.length+q.length:=ZDh ..;clear gp kp hstep hop;generalize p[i]=u at *;generalize i*q.length=ci at *;obtain⟨u1,u2⟩:=u;simp only at kpi hsti hopi;have gpi:A.getD i .u=.agg [.v (.bool (decide (u1.num < 0))),lim (toL u1.num.natAbs),lim (toL u1.den),.sl 4 (u2.map Qt.av)]:=gpi;have cm0:=fun(v:Rat) (hv:Sz v (k+k))=>Zfo u1 v kpi.1 hv zo zo;have cm0:∀v:Rat,Sz v (k+k)→Pure prog 51 [.agg [.v (.bool (decide (u1.num < 0))),lim (toL u1.num.natAbs),lim (toL u1.den)],ratQ v] (ratQ (u1*v)):=cm0;have ct0:=fun(v:List Qt) (hv:v.length≤n)=>exTimes u2 v (by have:=kpi.2;omega)
   have ct0:∀v:List Qt,v.length≤n→Pure prog 119 [.sl 4 (u2.map Qt.av),qsA v] (qsA (muQ u2 v)):=ct0;have hmq:∀v:List Qt,v.length≤n→(muQ u2 v).length≤1000:=λv hv=>by rw [mu_len];have:=kpi.2;omega
   have hmo:∀v:List Qt,okQ v→∀q∈muQ u2 v,q.b8:=λv hv=>(rgQ.cl _ _ hopi hv).b8;have hsu:∀v:Rat,Sz v (k+k)→Sz (u1*v) (j+j+(k+k)):=λv hv=>kpi.1.mul hv;clear kpi hopi;generalize toL u1.num.natAbs=un at *;generalize toL u1.den=ud at *;generalize decide (u1.num < 0)=us at *;generalize u2.map Qt.av=UQ at *
   (refine wkad (w_11 e1 e5 m200 m201 m202 e11 e12 e13 hpm hqm gpi) w_t w_t (w_s ?_);intros)
   rename_i g7;refine Zad (ι:=Nat) (λl e M=>l≤q.length∧(e 1=.sl 4 B∧e 5=.pbox 200 g 0∧e 11=.sl 4 A∧e 12=iv p.length∧e 13=iv i)∧(M 201=some (.map h (mpE (PR (ci+l))))∧∃sv,M 200=some (.box g 227 [.mp 201 h,.own 202 sv] false)∧M 202=some (.row sv 78 4 ((PR (ci+l)).map qtA) 0))∧(e 7=.pbox 7 g7 0∧M 7=some (.box g7 78 [.v (.bool us),lim un,lim ud,.sl 4 UQ] false))∧e 17=.sl 4 B∧e 18=iv q.length∧e 19=iv l) (λl=>q.length - l) 0 zr ?_ ?_
   ·rintro l e M ⟨hl2,⟨e1,e5,e11,e12,e13⟩,⟨m201,sv,m200,m202⟩,⟨e7,m7⟩,e17,e18,e19⟩
    by_cases hlq:l < q.length
    ·have gql:=gq l hlq;have kql:=kq _ (ZBy hlq);have hst:=hsti l hlq;have hoql:=hoq _ (ZBy hlq);obtain⟨a1,a2,a3⟩:=hacc (ci+l) (by have:=hci (l+1) zo;omega);clear gq kq hsti hoq hacc hac0 hdst;generalize q[l]=v at *;obtain⟨v1,v2⟩:=v;simp only at kql hst hoql;have gql:B.getD l .u=.agg [.v (.bool (decide (v1.num < 0))),lim (toL v1.num.natAbs),lim (toL v1.den),.sl 4 (v2.map Qt.av)]:=gql;have cm:=cm0 v1 kql.1;have ct:=ct0 v2 kql.2;have hb:=hmo v2 hoql;have hsz:=hsu v1 kql.1;have hml:=hmq v2 kql.2;have cad:=fun(m:Mem) a b c=>exAdd m 200 201 202 g h sv (PR (ci+l)) (u1*v1) (muQ u2 v2) a b c zo zo zo (ZBs a3 Znp) hml a2 hb (λt ht=>(a1 t ht).1) hsz zo zo
     rw [←hst] at cad;have cm:Pure prog 51 [.agg [.v (.bool us),lim un,lim ud],.agg [.v (.bool (decide (v1.num < 0))),lim (toL v1.num.natAbs),lim (toL v1.den)]] (ratQ (u1*v1)):=cm;have ct:Pure prog 119 [.sl 4 UQ,.sl 4 (v2.map Qt.av)] (.sl 4 ((muQ u2 v2).map Qt.av)):=ct;have cad:∀m:Mem,m 200=some (.box g 227 [.mp 201 h,.own 202 sv] false)→m 201=some (.map h (mpE (PR (ci+l))))→m 202=some (.row sv 78 4 ((PR (ci+l)).map qtA) 0)→ACall prog 118 [.pbox 200 g 0,ratQ (u1*v1),.sl 4 ((muQ u2 v2).map Qt.av)] m _:=cad;clear cm0 ct0 hmo hmq hsu a1 a2 a3 hst hb hml hsz kql;generalize u1*v1=w at *
     generalize (muQ u2 v2).map Qt.av=MQ at *;generalize toL v1.num.natAbs=vn at *;generalize toL v1.den=vd at *;generalize decide (v1.num < 0)=vs at *;generalize v2.map Qt.av=VQ at *
     (refine wkad (w_15 e1 e5 m200 m201 m202 e11 e12 e13 e7 m7 e17 e18 e19 hqm gql) (w_2 cm ct) (w_1 (w_d 8 [(5,ratQ w),(10,.sl 4 MQ)] [11] [])) (w_s ?_);intros)
     refine Zdo (cad _ (gW m200) (gW m201) (gW m202)) ?_
     rintro _ _ ⟨sv2,rfl,rfl⟩
     (refine wkad (w_9 e1 e5 e11 e12 e13 e7 e17 e18 e19) w_t w_t (w_s ?_);intros)
     exact⟨l+1,⟨zo,⟨gW e1,gW e5,gW e11,gW e12,gW e13⟩,⟨gC,sv2,gC,gC⟩,⟨gW e7,gW m7⟩,gW e17,gW e18,gS⟩,zo⟩
    ·have hle:l=q.length:=zo;subst hle;rw [←hsucc] at m201 m202
     (refine wkad (w_14 e1 e5 m200 m201 m202 e11 e12 e13 e7 m7 e17 e18 e19 hqm) w_t w_t (w_s ?_);intros)
     exact⟨i+1,⟨zo,gW e1,gW e5,gW m201,⟨sv,gW m200,gW m202⟩,gW e11,gW e12,gS⟩,zo⟩
   ·exact⟨ZBw _,⟨gW e1,gW e5,gW e11,gW e12,gW e13⟩,⟨gW m201,sv,gW m200,gW m202⟩,⟨gC,gC⟩,gC,gW hqm,gC⟩
  ·have hil:i=p.length:=zo;subst hil;obtain⟨a1,a2,a3⟩:=hacc (p.length*q.length) (ZBn _);have ce:=fun(m:Mem) a b=>exExpr m 200 201 202 300 g h sv (PR (p.length*q.length)) a b a3 hdst a1 zo zo;clear hacc hstep gp gq kp kq hop hoq;generalize PR (p.length*q.length)=S at *;generalize (srtQ ordT (nzT S)).map qtA=R at *
   (refine wkad (w_9 e1 e5 m200 m201 m202 e11 e12 e13 hpm) w_t w_t (w_s ?_);intros)
   refine Zgy (ce _ (gW m200) (gW m202)) ?_;intro sv3
   (refine wkad w_t w_t w_t (w_s ?_);intros)
   all_goals exact gL
 ·exact⟨ZBw _,gC,gC,by rw [ZEc,hac0];exact gC,⟨_,gC,by rw [ZEc,hac0];exact gC⟩,gC,gW hpm,gC⟩
theorem Zzy (p q:QTs) {j k m n:Nat} (hp:XB p j m) (hq:XB q k n) (hmn:m+n≤maxQ) (hl:p.length*q.length≤100000000) (hpl:p.length≤100000000) (hql:q.length≤100000000) (hj:j≤100000) (hk:k≤100000):Pure prog 66 [qpA p,qpA q] (qpA (mulX p q)) :=
 exMulT p q hp hq hmn (by rw [Ztu];exact hl) hpl hql hj hk
section
attribute [local go_sem] underlying3 underlying4 underlying161 underlying24 underlying26 underlying28 underlying91 underlying76 underlying78 underlying33 underlying34 sz3 by3 z3 szB zB Zaq zRat Zau zInt Zat zNat Zag Zao Zah Bool.and_self Zal Zbb zSlQ szQT byQT zQT Za7 zSlT szQP zQP underlying346 underlying47 szFr byFr zFr Zce Zcj zSQP
end
end Go.Proofs.YtkefeinbjbeidaaGreatDoor
